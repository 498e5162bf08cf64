/-
  Plain laws on double coverage: the program's step is the reference's, the potentials are the same. No condition.
-/
import Derived.Test.YtfhhfhiooehlcaaDefD
import Derived.Test.YtfhhfhiooehlcaaLawTab
namespace Go.Proofs.Ytfhhfhiooehlcaa

theorem l1Least_eq (a b : Int) : F_spec_l1Least a b = min a b := by
  unfold F_spec_l1Least
  by_cases h : a < b
  · rw [decide_eq_true h, cond_true]; omega
  · rw [decide_eq_false h, cond_false]; omega
theorem l1Has_iff (l : List Int) (n : Int) : F_spec_l1Has l n = true ↔ ∃ i, i < l.length ∧ l.getD i 0 = n := by
  unfold F_spec_l1Has
  rcases scan (F_spec_l1Has_L1 l n) l.length (fun i => decide (l.getD i 0 = n)) (fun _ => true) (fun m i => F_spec_l1Has_L1_s l n i m) (l.length - 0 + 1) 0 (by omega) with ⟨h1, h2⟩ | ⟨j, _, h2, h3, h4, _⟩
  · rw [h1]
    simp only [Ctl.elim]
    constructor
    · intro h; simp at h
    · rintro ⟨i, hi, hf⟩; have := h2 i (by omega) hi; rw [decide_eq_false_iff_not] at this; exact absurd hf this
  · rw [h3]
    simp only [Ctl.elim, true_iff]
    exact ⟨j, h2, by simpa using h4⟩
theorem l1Has_f {l : List Int} {n : Int} (h : F_spec_l1Has l n = false) : ∀ i, i < l.length → l.getD i 0 ≠ n := fun i hi he => by
  rw [(l1Has_iff l n).2 ⟨i, hi, he⟩] at h; cases h
theorem sorted_le {x : List Int} (hs : ∀ i, i + 1 < x.length → x.getD i 0 ≤ x.getD (i + 1) 0) : ∀ d i, i + d < x.length → x.getD i 0 ≤ x.getD (i + d) 0
  | 0, i, _ => Int.le_refl _
  | d + 1, i, h => Int.le_trans (sorted_le hs d i (by omega)) (hs (i + d) h)
theorem bs_L1 {x : List Int} (t : Int) (hs : ∀ i, i + 1 < x.length → x.getD i 0 ≤ x.getD (i + 1) 0) : ∀ fuel i j, j - i < fuel → i ≤ j → j ≤ x.length → (∀ k, k < i → x.getD k 0 < t) → (∀ k, j ≤ k → k < x.length → t ≤ x.getD k 0) →
    ∃ r, F_slices_BinarySearch_Sint_int_L1 x t fuel (i, j) = .next (r, r) ∧ r ≤ x.length ∧ (∀ k, k < r → x.getD k 0 < t) ∧ (∀ k, r ≤ k → k < x.length → t ≤ x.getD k 0) := by
  intro fuel
  induction fuel with
  | zero => intro i j h; omega
  | succ m ih =>
    intro i j h hij hj h1 h2
    rw [F_slices_BinarySearch_Sint_int_L1_s, less_eq]
    by_cases hlt : (i : Int) < (j : Int)
    · rw [decide_eq_true hlt, cond_true]
      by_cases hx : x.getD ((i + j) / 2) 0 < t
      · rw [decide_eq_true hx, cond_true]
        refine ih _ _ (by omega) (by omega) hj (fun k hk => ?_) h2
        have := sorted_le hs ((i + j) / 2 - k) k (by omega)
        rw [show k + ((i + j) / 2 - k) = (i + j) / 2 by omega] at this
        omega
      · rw [decide_eq_false hx, cond_false]
        refine ih _ _ (by omega) (by omega) (by omega) h1 (fun k hk hkl => ?_)
        have := sorted_le hs (k - (i + j) / 2) ((i + j) / 2) (by omega)
        rw [show (i + j) / 2 + (k - (i + j) / 2) = k by omega] at this
        omega
    · rw [decide_eq_false hlt, cond_false]
      have : i = j := by omega
      subst this
      exact ⟨i, rfl, hj, h1, h2⟩
theorem bs_spec {x : List Int} (t : Int) (hs : ∀ i, i + 1 < x.length → x.getD i 0 ≤ x.getD (i + 1) 0) :
    ∃ r : Nat, F_slices_BinarySearch_Sint_int x t = ((r : Int), decide (r < x.length ∧ x.getD r 0 = t)) ∧ r ≤ x.length ∧ (∀ k, k < r → x.getD k 0 < t) ∧ (∀ k, r ≤ k → k < x.length → t ≤ x.getD k 0) := by
  obtain ⟨r, h1, h2, h3, h4⟩ := bs_L1 t hs (x.length - 0 + 1) 0 x.length (by omega) (by omega) (Nat.le_refl _) (fun k hk => by omega) (fun k h1 h2 => by omega)
  refine ⟨r, ?_, h2, h3, h4⟩
  unfold F_slices_BinarySearch_Sint_int
  rw [h1]
  simp only [elim_next]
  refine Prod.ext rfl ?_
  rw [Bool.eq_iff_iff]
  simp
theorem bs_le (row : List Int) (r : Int) (h : Row row) : 0 ≤ (F_slices_BinarySearch_Sint_int row r).1 ∧ (F_slices_BinarySearch_Sint_int row r).1 ≤ row.length := by
  obtain ⟨k, h1, h2, _⟩ := bs_spec r h.2.2
  rw [h1]
  exact ⟨by omega, by show (k : Int) ≤ _; omega⟩
theorem cover_L1 (row : List Int) (r : Int) (k : Nat) (h1 : ∀ i, i + 1 < k → row.getD (i + 1) 0 < r) (h2 : r ≤ row.getD k 0) : ∀ fuel i, k - i < fuel → i + 1 ≤ k → F_spec_l6Cover_L1 row r fuel i = .next (k - 1) := by
  intro fuel
  induction fuel with
  | zero => intro i h; omega
  | succ m ih =>
    intro i h hi
    rw [F_spec_l6Cover_L1_s]
    by_cases hk : i + 1 = k
    · rw [hk, decide_eq_false (by omega), cond_false]
      congr 1; omega
    · rw [decide_eq_true (h1 i (by omega)), cond_true]
      exact ih (i + 1) (by omega) (by omega)
/-- What both steps come to. -/
theorem cover_both {row : List Int} {r : Int} (h : Row row) (_h0 : 0 ≤ r) (_h9 : r ≤ 99) : F_impl_covered row r = (F_spec_l6Cover row r).1 ∧
    ((F_spec_l6Cover row r = (row, 0)) ∨ (r < row.getD 0 0 ∧ F_spec_l6Cover row r = (row.set 0 r, row.getD 0 0 - r)) ∨ (row.getD (row.length - 1) 0 < r ∧ F_spec_l6Cover row r = (row.set (row.length - 1) r, r - row.getD (row.length - 1) 0)) ∨
     ∃ k, k + 1 < row.length ∧ row.getD k 0 < r ∧ r < row.getD (k + 1) 0 ∧ F_spec_l6Cover row r = ((row.set k (row.getD k 0 + min (r - row.getD k 0) (row.getD (k + 1) 0 - r))).set (k + 1) (row.getD (k + 1) 0 - min (r - row.getD k 0) (row.getD (k + 1) 0 - r)), 2 * min (r - row.getD k 0) (row.getD (k + 1) 0 - r))) := by
  obtain ⟨k, hb, hk, hlo, hhi⟩ := bs_spec r h.2.2
  have hlen := h.1
  have elast : ((row.length : Int) - 1).toNat = row.length - 1 := by omega
  unfold F_impl_covered F_spec_l6Cover
  rw [hb, elast]
  dsimp only
  by_cases hf : k < row.length ∧ row.getD k 0 = r
  · rw [decide_eq_true hf, (l1Has_iff row r).2 ⟨k, hf⟩]
    exact ⟨rfl, .inl rfl⟩
  · have hnot : F_spec_l1Has row r = false := by
      rw [Bool.eq_false_iff]
      intro hh
      obtain ⟨i, hi, he⟩ := (l1Has_iff row r).1 hh
      rcases Nat.lt_or_ge i k with hik | hik
      · have := hlo i hik; omega
      · have h1 := hhi k (Nat.le_refl _) (by omega)
        have h2 := sorted_le h.2.2 (i - k) k (by omega)
        rw [show k + (i - k) = i by omega] at h2
        exact hf ⟨by omega, by omega⟩
    rw [decide_eq_false hf, hnot, cond_false, cond_false]
    have hgt : k < row.length → r < row.getD k 0 := fun hkl => by
      have := hhi k (Nat.le_refl _) hkl
      have : row.getD k 0 ≠ r := fun he => hf ⟨hkl, he⟩
      omega
    by_cases hk0 : k = 0
    · subst hk0
      have := hgt (by omega)
      rw [decide_eq_true (show ((0 : Nat) : Int) = 0 from rfl), decide_eq_true this]
      exact ⟨rfl, .inr (.inl ⟨this, rfl⟩)⟩
    · have h1 : ¬ ((k : Int) = 0) := by omega
      have h2 := hlo 0 (by omega)
      rw [decide_eq_false h1, decide_eq_false (show ¬ r < row.getD 0 0 by omega), cond_false, cond_false]
      by_cases hkl : k = row.length
      · have h3 := hlo (row.length - 1) (by omega)
        rw [decide_eq_true (show (k : Int) = (row.length : Int) by omega), decide_eq_true h3]
        have e1 : ((k : Int) - 1).toNat = row.length - 1 := by omega
        rw [e1]
        exact ⟨rfl, .inr (.inr (.inl ⟨h3, rfl⟩))⟩
      · have h3 := sorted_le h.2.2 (row.length - 1 - k) k (by omega)
        rw [show k + (row.length - 1 - k) = row.length - 1 by omega] at h3
        have h4 := hgt (by omega)
        rw [decide_eq_false (show ¬ (k : Int) = (row.length : Int) by omega), decide_eq_false (show ¬ row.getD (row.length - 1) 0 < r by omega), cond_false, cond_false]
        rw [cover_L1 row r k (fun i hi => hlo (i + 1) hi) (by omega) (row.length - 0 + 1) 0 (by omega) (by omega)]
        have e1 : ((k : Int) - 1).toNat = k - 1 := by omega
        have e2 : (k : Int).toNat = k := by omega
        have e3 : k - 1 + 1 = k := by omega
        simp only [elim_next, l1Least_eq, e1, e2, e3]
        have e4 : ∀ X : Int, (row.set (k - 1) X).getD k 0 = row.getD k 0 := fun X => getD_set_ne _ _ _ _ _ (by omega)
        rw [e4]
        refine ⟨rfl, .inr (.inr (.inr ⟨k - 1, by omega, hlo (k - 1) (by omega), by rw [e3]; exact h4, by rw [e3]⟩))⟩
theorem getD_set (l : List Int) (i j : Nat) (x : Int) (h : i < l.length) : (l.set i x).getD j 0 = if i = j then x else l.getD j 0 := by
  by_cases e : i = j
  · subst e; rw [if_pos rfl, getD_set_eq _ _ _ _ h]
  · rw [if_neg e, getD_set_ne _ _ _ _ _ e]
theorem covered_row (row : List Int) (r : Int) (h : Row row) (h0 : 0 ≤ r) (h9 : r ≤ 99) : Row (F_impl_covered row r) ∧ row.length = (F_impl_covered row r).length := by
  obtain ⟨h1, h2⟩ := cover_both h h0 h9
  rw [h1]
  have hlen := h.1
  rcases h2 with h2 | ⟨h3, h2⟩ | ⟨h3, h2⟩ | ⟨k, h3, h4, h5, h2⟩ <;> rw [h2] <;> dsimp only
  · exact ⟨h, rfl⟩
  · refine ⟨⟨by simpa using hlen, fun i hi => ?_, fun i hi => ?_⟩, by simp⟩
    · rw [getD_set _ _ _ _ (by omega)]; split
      · omega
      · exact h.el i
    · rw [List.length_set] at hi
      have := h.2.2 i hi
      rw [getD_set _ _ _ _ (by omega), getD_set _ _ _ _ (by omega)]
      rw [if_neg (show ¬ 0 = i + 1 by omega)]
      split
      · rename_i e; subst e; omega
      · exact this
  · refine ⟨⟨by simpa using hlen, fun i hi => ?_, fun i hi => ?_⟩, by simp⟩
    · rw [getD_set _ _ _ _ (by omega)]; split
      · omega
      · exact h.el i
    · rw [List.length_set] at hi
      have := h.2.2 i hi
      rw [getD_set _ _ _ _ (by omega), getD_set _ _ _ _ (by omega), if_neg (show ¬ row.length - 1 = i by omega)]
      split
      · rename_i e; rw [← e] at this; omega
      · exact this
  · have ha := h.el k
    have hb := h.el (k + 1)
    have hab := h.2.2 k h3
    refine ⟨⟨by simpa using hlen, fun i hi => ?_, fun i hi => ?_⟩, by simp⟩
    · rw [getD_set _ _ _ _ (by simp; omega), getD_set _ _ _ _ (by omega)]
      split
      · omega
      · split
        · omega
        · exact h.el i
    · simp only [List.length_set] at hi
      have h6 := h.2.2 i hi
      rw [getD_set _ _ _ _ (by simp; omega), getD_set _ _ _ _ (by omega), getD_set _ _ _ _ (by simp; omega), getD_set _ _ _ _ (by omega)]
      by_cases e1 : k + 1 = i
      · rw [if_pos e1, if_neg (by omega), if_neg (by omega)]; subst e1; omega
      · rw [if_neg e1]
        by_cases e2 : k = i
        · rw [if_pos e2, if_pos (by omega)]; subst e2; omega
        · rw [if_neg e2]
          by_cases e3 : k + 1 = i + 1
          · omega
          · rw [if_neg e3]
            by_cases e4 : k = i + 1
            · rw [if_pos e4]; subst e4; omega
            · rw [if_neg e4]; exact h6
theorem dist_fold (a b : List Int) : F_impl_rowDistance a b = foldFrom (fun i s => s + max (a.getD i 0 - b.getD i 0) (-(a.getD i 0 - b.getD i 0))) 0 a.length 0 := by
  unfold F_impl_rowDistance
  rw [fold_last (F_impl_rowDistance_L1 a b) a.length (fun i s => s + max (a.getD i 0 - b.getD i 0) (-(a.getD i 0 - b.getD i 0))) (fun m s i => F_impl_rowDistance_L1_s a b s i m) _ _ _ (by omega)]
  rfl
theorem cover_moved {row : List Int} {r : Int} (h : Row row) (h0 : 0 ≤ r) (h9 : r ≤ 99) : F_impl_rowDistance row (F_impl_covered row r) = (F_spec_l6Cover row r).2 := by
  obtain ⟨h1, h2⟩ := cover_both h h0 h9
  rw [h1, dist_fold]
  have hlen := h.1
  have hl : row.length = 1 ∨ row.length = 2 ∨ row.length = 3 := by omega
  rcases h2 with h2 | ⟨h3, h2⟩ | ⟨h3, h2⟩ | ⟨k, h3, h4, h5, h2⟩ <;> rw [h2] <;> dsimp only
  · rcases hl with e | e | e <;> rw [e] <;> simp only [foldFrom] <;> omega
  · rcases hl with e | e | e <;> simp only [e, foldFrom, getD_set _ _ _ _ (show 0 < row.length by omega), Nat.zero_add, Nat.reduceAdd] <;> (repeat' split) <;> first | omega | exact absurd trivial (by assumption)
  · have g : ∀ X : Int, ∀ j, (row.set (row.length - 1) X).getD j 0 = if row.length - 1 = j then X else row.getD j 0 := fun X j => getD_set _ _ _ _ (by omega)
    rcases hl with e | e | e <;> simp only [foldFrom, g] <;> simp only [e, foldFrom, Nat.zero_add, Nat.reduceAdd, Nat.reduceSub] at h3 ⊢ <;> (repeat' split) <;> first | omega | exact absurd trivial (by assumption)
  · have g : ∀ X Y : Int, ∀ j, ((row.set k X).set (k + 1) Y).getD j 0 = if k + 1 = j then Y else if k = j then X else row.getD j 0 := fun X Y j => by
      rw [getD_set _ _ _ _ (by simp; omega), getD_set _ _ _ _ (by omega)]
    have hk : k = 0 ∨ k = 1 := by omega
    rcases hl with e | e | e <;> rcases hk with rfl | rfl <;> simp only [e, foldFrom, g, Nat.zero_add, Nat.reduceAdd] at h3 h4 h5 ⊢ <;> (repeat' split) <;> first | omega | exact absurd trivial (by assumption)
theorem coverStep_eq (row : List Int) (r : Int) : F_impl_CoverStep row r = F_spec_CoverStep row r := by
  unfold F_impl_CoverStep F_spec_CoverStep
  rw [l6Row_eq]
  cases hr : F_impl_isRow row with
  | false => rfl
  | true =>
    by_cases h : (decide (0 ≤ r) && decide (r ≤ 99)) = true
    · rw [h]
      simp only [Bool.not_true, Bool.or_self, cond_false]
      simp only [Bool.and_eq_true, decide_eq_true_eq] at h
      have hR := isRow_t hr
      rw [cover_moved hR h.1 h.2, (cover_both hR h.1 h.2).1]
    · rw [Bool.eq_false_iff.2 h]; rfl
/-! the potential -/
theorem foldFrom_add (f : Nat → Int → Int) (g : Nat → Int) (hf : ∀ i s, f i s = s + g i) : ∀ k i s, foldFrom f i k s = s + foldFrom f i k 0
  | 0, _, s => by simp [foldFrom]
  | k + 1, i, s => by
    rw [foldFrom, foldFrom, foldFrom_add f g hf k (i + 1) (f i s), foldFrom_add f g hf k (i + 1) (f i 0), hf, hf]; omega
theorem spread_L2 (row : List Int) (i : Nat) (s : Int) : F_spec_l6Spread_L2 row i (i - 0 + 1) (s, 0) = .next (foldFrom (fun k s => s + row.getD i 0 - row.getD k 0) 0 i s, i) := by
  rw [fold_last (F_spec_l6Spread_L2 row i) i (fun k s => s + row.getD i 0 - row.getD k 0) (fun m s k => F_spec_l6Spread_L2_s row i s k m) _ _ _ (by omega)]
  simp
theorem potential_L2 (row : List Int) (i : Nat) (hi : i < row.length) (s : Int) : F_impl_CoverPotential_L2 row i ((((row.take i).drop 0).length) - 0 + 1) (s, 0) = .next (foldFrom (fun k s => s + row.getD i 0 - row.getD k 0) 0 i s, i) := by
  have hl : ((row.take i).drop 0).length = i := by simp; omega
  rw [fold_last (F_impl_CoverPotential_L2 row i) ((row.take i).drop 0).length (fun k s => s + (row.getD i 0 - ((row.take i).drop 0).getD k 0)) (fun m s k => F_impl_CoverPotential_L2_s row i s k m) _ _ _ (by omega), hl]
  congr 1
  refine Prod.ext ?_ (by simp)
  show foldFrom _ 0 (i - 0) s = _
  refine foldFrom_congr _ _ _ _ _ fun k s _ hk => ?_
  have : ((row.take i).drop 0).getD k 0 = row.getD k 0 := by simp [List.getElem?_take, show k < i by omega]
  rw [this]; omega
def addsUp (row : List Int) (i : Nat) (s : Int) : Int := foldFrom (fun k s => s + row.getD i 0 - row.getD k 0) 0 i s
theorem addsUp_add (row : List Int) (i : Nat) (s : Int) : addsUp row i s = s + addsUp row i 0 :=
  foldFrom_add _ (fun k => row.getD i 0 - row.getD k 0) (fun _ _ => by omega) i 0 s
theorem potential_eq (row other : List Int) : F_impl_CoverPotential row other = F_spec_CoverPotential row other := by
  unfold F_impl_CoverPotential F_spec_CoverPotential F_spec_l6Spread F_impl_areRows
  have e1 : ∀ fuel s i, row.length - i < fuel → F_impl_CoverPotential_L1 row fuel (s, i) = .next (foldFrom (addsUp row) i (row.length - i) s, max i row.length) := by
    intro fuel
    induction fuel with
    | zero => intro s i h; omega
    | succ m ih =>
      intro s i h
      rw [F_impl_CoverPotential_L1_s]
      by_cases hlt : (i : Int) < (row.length : Int)
      · rw [decide_eq_true hlt, cond_true, potential_L2 row i (by omega), elim_next]
        dsimp only
        rw [ih _ _ (by omega), show row.length - i = (row.length - (i + 1)) + 1 by omega, foldFrom]
        congr 2; omega
      · rw [decide_eq_false hlt, cond_false, show row.length - i = 0 by omega, foldFrom]
        congr 2; omega
  rw [e1 _ _ _ (by omega), fold_last (F_spec_l6Spread_L1 row) row.length (addsUp row) (fun m s i => by rw [F_spec_l6Spread_L1_s, spread_L2]; rfl) _ _ _ (by omega)]
  simp only [elim_next]
  rw [foldFrom_add (addsUp row) (fun i => addsUp row i 0) (addsUp_add row), apart_eq, l6Row_eq, l6Row_eq]
  cases F_impl_isRow row <;> cases F_impl_isRow other <;> simp
theorem apart_le {a b : List Int} (ha : Row a) (hb : Row b) : 0 ≤ F_spec_l6Apart a b ∧ F_spec_l6Apart a b ≤ 297 := by
  rw [← apart_eq, dist_fold]
  have h := foldFrom_inv (fun i s => s + max (a.getD i 0 - b.getD i 0) (-(a.getD i 0 - b.getD i 0))) (fun i s => 0 ≤ s ∧ s ≤ 99 * i) a.length 0 0 (by omega) (fun j s _ _ h => by
    have h1 := ha.el j; have h2 := hb.el j; omega)
  have := ha.1.2
  simp only [Nat.zero_add] at h
  omega
theorem addsUp_le {a : List Int} (ha : Row a) (i : Nat) (s : Int) : s - 99 * i ≤ addsUp a i s ∧ addsUp a i s ≤ s + 99 * i := by
  have h := foldFrom_inv (fun k t => t + a.getD i 0 - a.getD k 0) (fun k t => s - 99 * k ≤ t ∧ t ≤ s + 99 * k) i 0 s (by omega) (fun j t _ _ h => by
    have h1 := ha.el j; have h2 := ha.el i; omega)
  simp only [Nat.zero_add] at h
  exact h
theorem spread_le {a : List Int} (ha : Row a) : -891 ≤ F_spec_l6Spread a ∧ F_spec_l6Spread a ≤ 891 := by
  unfold F_spec_l6Spread
  rw [fold_last (F_spec_l6Spread_L1 a) a.length (addsUp a) (fun m s i => by rw [F_spec_l6Spread_L1_s, spread_L2]; rfl) _ _ _ (by omega)]
  simp only [elim_next]
  have hl := ha.1.2
  have h := foldFrom_inv (addsUp a) (fun i s => -297 * (i : Int) ≤ s ∧ s ≤ 297 * i) a.length 0 0 (by omega) (fun j s _ _ h => by
    have := addsUp_le ha j s; omega)
  simp only [Nat.zero_add] at h
  simp only [Nat.sub_zero]
  omega
theorem pot_le {a b : List Int} (ha : Row a) (hb : Row b) (_h : a.length = b.length) : (0 ≤ (a.length : Int) * F_spec_l6Apart a b ∧ (a.length : Int) * F_spec_l6Apart a b ≤ 891) ∧ (0 ≤ (a.length : Int) * F_impl_rowDistance a b ∧ (a.length : Int) * F_impl_rowDistance a b ≤ 891) ∧ -891 ≤ F_spec_l6Spread a ∧ F_spec_l6Spread a ≤ 891 := by
  rw [apart_eq]
  have h1 := apart_le ha hb
  have h2 := spread_le ha
  have hl := ha.1
  have : a.length = 1 ∨ a.length = 2 ∨ a.length = 3 := by omega
  rcases this with e | e | e <;> rw [e] <;> omega
theorem take_el {a : List Int} (ha : Row a) (i k : Nat) : 0 ≤ ((a.take i).drop 0).getD k 0 ∧ ((a.take i).drop 0).getD k 0 ≤ 99 := by
  by_cases h : k < ((a.take i).drop 0).length
  · have hk : k < i := by simp at h; omega
    have : ((a.take i).drop 0).getD k 0 = a.getD k 0 := by simp [hk]
    rw [this]; exact ha.el k
  · rw [getD_ge _ k 0 (by omega)]; omega
theorem take_len (a : List Int) (i : Nat) : ((a.take i).drop 0).length ≤ i := by simp; omega
theorem coverStep_len (a : List Int) (r : Int) : (F_impl_CoverStep a r).1.length ≤ 3 := by
  unfold F_impl_CoverStep
  cases hr : F_impl_isRow a with
  | false => simp
  | true =>
    by_cases h : (decide (0 ≤ r) && decide (r ≤ 99)) = true
    · rw [h]
      simp only [Bool.not_true, Bool.or_self, cond_false]
      simp only [Bool.and_eq_true, decide_eq_true_eq] at h
      have hR := isRow_t hr
      have := (covered_row a r hR h.1 h.2).2
      have := hR.1.2
      omega
    · rw [Bool.eq_false_iff.2 h]; simp
end Go.Proofs.Ytfhhfhiooehlcaa
