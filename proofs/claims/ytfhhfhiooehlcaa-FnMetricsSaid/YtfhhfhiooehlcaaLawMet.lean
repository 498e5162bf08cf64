/-
  Plain laws on metrics that are made by a rule: uniform ones, stars, lines; diameters and balls. No condition.
-/
import Derived.Test.YtfhhfhiooehlcaaDefE
import Derived.Test.YtfhhfhiooehlcaaLawCov
namespace Go.Proofs.Ytfhhfhiooehlcaa

def grid (n : Nat) (f : Nat → Nat → Int) : List (List Int) := (List.range n).map fun x => (List.range n).map fun y => f x y
theorem grid_len (n : Nat) (f : Nat → Nat → Int) : (grid n f).length = n := by simp [grid]
theorem grid_get (n : Nat) (f : Nat → Nat → Int) (x : Nat) (h : x < n) : (grid n f).getD x [] = (List.range n).map fun y => f x y := by simp [grid, h]
theorem grid_row (n : Nat) (f : Nat → Nat → Int) (x : Nat) (h : x < n) : ((grid n f).getD x []).length = n := by rw [grid_get n f x h]; simp
theorem grid_el (n : Nat) (f : Nat → Nat → Int) (x y : Nat) (h : x < n) (hy : y < n) : el (grid n f) x y = f x y := by
  unfold el; rw [grid_get n f x h]; simp [hy]
theorem grid_ext {m : List (List Int)} {n : Nat} {f : Nat → Nat → Int} (h1 : m.length = n) (h2 : ∀ x, x < n → (m.getD x []).length = n) (h3 : ∀ x y, x < n → y < n → el m x y = f x y) : m = grid n f := by
  refine list_ext_getD [] (by rw [h1, grid_len]) fun x hx => ?_
  rw [h1] at hx
  refine list_ext_getD 0 (by rw [h2 x hx, grid_row n f x hx]) fun y hy => ?_
  rw [h2 x hx] at hy
  have := h3 x y hx hy
  have h4 := grid_el n f x y hx hy
  unfold el at this h4
  rw [this, h4]
theorem fold_app {α : Type} (f : Nat → α) : ∀ k i (s : List α), foldFrom (fun i s => s ++ [f i]) i k s = s ++ (List.range' i k).map f
  | 0, i, s => by simp [foldFrom]
  | k + 1, i, s => by rw [foldFrom, fold_app f k (i + 1), List.range'_succ]; simp
theorem decide_toNat (n : Int) (i : Nat) : decide ((i : Int) < n) = decide ((i : Int) < (n.toNat : Int)) := decide_eq_decide.2 (by omega)
theorem range'_range (k : Nat) : List.range' 0 k = List.range k := by rw [List.range_eq_range']
theorem uniform_L2 (n d : Int) (x : Nat) : F_spec_l6Uniform_L2 n d x (n.toNat - 0 + 1) ([], 0) = .next ((List.range n.toNat).map (fun (y : Nat) => bif decide ((x : Int) = (y : Int)) then 0 else d), n.toNat) := by
  rw [fold_last (F_spec_l6Uniform_L2 n d x) n.toNat (fun y s => s ++ [bif decide ((x : Int) = (y : Int)) then 0 else d]) (fun m s i => by
    rw [F_spec_l6Uniform_L2_s, decide_toNat n i]; cases decide ((x : Int) = (i : Int)) <;> rfl) _ _ _ (by omega)]
  rw [fold_app]
  simp [range'_range]
theorem uniform_eq (n d : Int) : F_spec_l6Uniform n d = grid n.toNat (fun (x y : Nat) => bif decide ((x : Int) = (y : Int)) then 0 else d) := by
  unfold F_spec_l6Uniform
  rw [fold_first (F_spec_l6Uniform_L1 n d) n.toNat (fun x s => s ++ [(List.range n.toNat).map (fun (y : Nat) => bif decide ((x : Int) = (y : Int)) then 0 else d)]) (fun m s i => by
    rw [F_spec_l6Uniform_L1_s, decide_toNat n i, uniform_L2]; rfl) _ _ _ (by omega)]
  simp only [elim_next]
  rw [fold_app]
  simp [range'_range, grid]
theorem metricBy_L2 (n : Int) (f : Int → Int → Int) (x : Nat) : F_impl_metricBy_L2 n f x (n.toNat - 0 + 1) ([], 0) = .next ((List.range n.toNat).map (fun (y : Nat) => bif decide ((x : Int) = (y : Int)) then 0 else f x y), n.toNat) := by
  rw [fold_last (F_impl_metricBy_L2 n f x) n.toNat (fun y s => s ++ [bif decide ((x : Int) = (y : Int)) then 0 else f x y]) (fun m s i => by
    rw [F_impl_metricBy_L2_s, decide_toNat n i]; cases decide ((x : Int) = (i : Int)) <;> rfl) _ _ _ (by omega)]
  rw [fold_app]
  simp [range'_range]
theorem metricBy_eq (n : Int) (f : Int → Int → Int) : F_impl_metricBy n f = F_impl_metricOf (grid n.toNat (fun (x y : Nat) => bif decide ((x : Int) = (y : Int)) then 0 else f x y)) := by
  unfold F_impl_metricBy
  rw [fold_last (F_impl_metricBy_L1 n f) n.toNat (fun x s => s ++ [(List.range n.toNat).map (fun (y : Nat) => bif decide ((x : Int) = (y : Int)) then 0 else f x y)]) (fun m s i => by
    rw [F_impl_metricBy_L1_s, decide_toNat n i, metricBy_L2]; rfl) _ _ _ (by omega)]
  simp only [elim_next]
  rw [fold_app]
  simp [range'_range, grid]

/-! no detour -/
theorem detourN_L3 (m : List (List Int)) (x y : Nat) : ((∃ s, F_spec_l6Detour_L3 m x y (m.length - 0 + 1) 0 = .next s) ∧ ∀ z, z < m.length → el m x z ≤ el m x y + el m y z) ∨
    ((∃ r, F_spec_l6Detour_L3 m x y (m.length - 0 + 1) 0 = .ret r) ∧ ∃ z, z < m.length ∧ el m x y + el m y z < el m x z) := by
  rcases scan (F_spec_l6Detour_L3 m x y) m.length (fun z => decide (el m x y + el m y z < el m x z)) (fun z => [(x : Int), (y : Int), (z : Int)]) (fun mf i => F_spec_l6Detour_L3_s m x y i mf) (m.length - 0 + 1) 0 (by omega) with ⟨h1, h2⟩ | ⟨j, h1, h2, h3, h4, h5⟩
  · refine .inl ⟨⟨_, h1⟩, fun z hz => ?_⟩
    have := h2 z (by omega) hz
    rw [decide_eq_false_iff_not] at this; omega
  · exact .inr ⟨⟨_, h3⟩, j, h2, by simpa using h4⟩
theorem detourN_L2 (m : List (List Int)) (x : Nat) : ((∃ s, F_spec_l6Detour_L2 m x (m.length - 0 + 1) 0 = .next s) ∧ ∀ y z, y < m.length → z < m.length → el m x z ≤ el m x y + el m y z) ∨
    ((∃ r, F_spec_l6Detour_L2 m x (m.length - 0 + 1) 0 = .ret r) ∧ ∃ y z, y < m.length ∧ z < m.length ∧ el m x y + el m y z < el m x z) := by
  rcases scanC (F_spec_l6Detour_L2 m x) m.length _ (fun mf i => F_spec_l6Detour_L2_s m x i mf) (m.length - 0 + 1) 0 (by omega) with ⟨h1, h2⟩ | ⟨j, r, h1, h2, h3, h4, h5⟩
  · refine .inl ⟨⟨_, h1⟩, fun y z hy hz => ?_⟩
    obtain ⟨s, hs⟩ := h2 y (by omega) hy
    rcases detourN_L3 m x y with ⟨_, h⟩ | ⟨⟨r, h⟩, _⟩
    · exact h z hz
    · rw [h] at hs; cases hs
  · rcases detourN_L3 m x j with ⟨⟨s, h⟩, _⟩ | ⟨_, z, hz, h⟩
    · rw [h] at h4; cases h4
    · exact .inr ⟨⟨_, h3⟩, j, z, h2, hz, h⟩
theorem detour_nil (m : List (List Int)) : F_spec_l6Detour m = [] ↔ ∀ x y z, x < m.length → y < m.length → z < m.length → el m x z ≤ el m x y + el m y z := by
  unfold F_spec_l6Detour
  rcases scanC (F_spec_l6Detour_L1 m) m.length _ (fun mf i => F_spec_l6Detour_L1_s m i mf) (m.length - 0 + 1) 0 (by omega) with ⟨h1, h2⟩ | ⟨j, r, h1, h2, h3, h4, h5⟩
  · rw [h1]
    simp only [elim_next, true_iff]
    intro x y z hx hy hz
    obtain ⟨s, hs⟩ := h2 x (by omega) hx
    rcases detourN_L2 m x with ⟨_, h⟩ | ⟨⟨r, h⟩, _⟩
    · exact h y z hy hz
    · rw [h] at hs; cases hs
  · have hl := l6Detour_L1_ret m _ _ _ h3
    rw [h3]
    simp only [elim_ret]
    constructor
    · intro h; rw [h] at hl; cases hl
    · intro hh
      rcases detourN_L2 m j with ⟨⟨s, h⟩, _⟩ | ⟨_, y, z, hy, hz, h⟩
      · rw [h] at h4; cases h4
      · have := hh j y z h2 hy hz; omega
theorem isMetric_iff (m : List (List Int)) : F_impl_IsMetric m = true ↔ TabP false m ∧ ∀ x y z, x < m.length → y < m.length → z < m.length → el m x z ≤ el m x y + el m y z := by
  rw [isMetric_eq, l6Good_iff, detour_nil]
theorem metric_grid {n : Nat} {f : Nat → Nat → Int} (h1 : 1 ≤ n) (h6 : n ≤ 6) (h : ∀ x y, x < n → y < n → f x y = f y x ∧ (x = y → f x y = 0) ∧ (x ≠ y → 1 ≤ f x y ∧ f x y ≤ 99))
    (ht : ∀ x y z, x < n → y < n → z < n → f x z ≤ f x y + f y z) : F_impl_IsMetric (grid n f) = true := by
  rw [isMetric_iff]
  refine ⟨⟨by rw [grid_len]; exact h1, by rw [grid_len]; exact h6, fun i hi => ?_, fun x y hx hy => ?_⟩, fun x y z hx hy hz => ?_⟩
  · rw [grid_len] at hi ⊢; exact grid_row n f i hi
  · rw [grid_len] at hx hy
    rw [grid_el n f x y hx hy, grid_el n f y x hy hx]
    obtain ⟨a, b, c⟩ := h x y hx hy
    exact ⟨a, b, fun e => .inl (c e)⟩
  · rw [grid_len] at hx hy hz
    rw [grid_el n f x z hx hz, grid_el n f x y hx hy, grid_el n f y z hy hz]
    exact ht x y z hx hy hz
theorem bif_dec {p : Prop} [Decidable p] {α : Type} (a b : α) : (bif decide p then a else b) = if p then a else b := by by_cases h : p <;> simp [h]
/-! a table that is filled -/
def setC (c : Nat → Nat → Bool) (g : Nat → Nat → Int) (x y : Nat) (m : List (List Int)) : List (List Int) := bif c x y then m.set x ((m.getD x []).set y (g x y)) else m
structure Sq (n : Nat) (m : List (List Int)) : Prop where
  len : m.length = n
  rows : ∀ i, i < n → (m.getD i []).length = n
theorem setC_sq {n : Nat} {m : List (List Int)} (h : Sq n m) (c : Nat → Nat → Bool) (g : Nat → Nat → Int) {x y : Nat} (hx : x < n) (hy : y < n) :
    Sq n (setC c g x y m) ∧ ∀ i j, i < n → j < n → el (setC c g x y m) i j = if i = x ∧ j = y ∧ c x y = true then g x y else el m i j := by
  unfold setC
  cases hc : c x y with
  | false => exact ⟨h, fun i j _ _ => by simp⟩
  | true =>
    rw [cond_true]
    refine ⟨⟨by simpa using h.len, fun i hi => ?_⟩, fun i j hi hj => ?_⟩
    · by_cases e : x = i
      · subst e; rw [getD_set_eq _ _ _ _ (by rw [h.len]; exact hx)]; simpa using h.rows x hx
      · rw [getD_set_ne _ _ _ _ _ e]; exact h.rows i hi
    · unfold el
      by_cases e : x = i
      · subst e
        rw [getD_set_eq _ _ _ _ (by rw [h.len]; exact hx), getD_set _ _ _ _ (by rw [h.rows x hx]; exact hy)]
        by_cases e2 : y = j
        · rw [if_pos e2, if_pos ⟨rfl, e2.symm, rfl⟩]
        · rw [if_neg e2, if_neg (fun hh => e2 hh.2.1.symm)]
      · rw [getD_set_ne _ _ _ _ _ e, if_neg (fun hh => e hh.1.symm)]
theorem fill_row {n : Nat} {m : List (List Int)} (h : Sq n m) (c : Nat → Nat → Bool) (g : Nat → Nat → Int) {x : Nat} (hx : x < n) :
    Sq n (foldFrom (setC c g x) 0 n m) ∧ ∀ i j, i < n → j < n → el (foldFrom (setC c g x) 0 n m) i j = if i = x ∧ c x j = true then g x j else el m i j := by
  have H := foldFrom_inv (setC c g x) (fun y m' => Sq n m' ∧ ∀ i j, i < n → j < n → el m' i j = if i = x ∧ j < y ∧ c x j = true then g x j else el m i j) n 0 m ⟨h, fun i j _ _ => by simp⟩ (fun y m' _ hy hm => by
    obtain ⟨h1, h2⟩ := setC_sq hm.1 c g hx (show y < n by omega)
    refine ⟨h1, fun i j hi hj => ?_⟩
    rw [h2 i j hi hj, hm.2 i j hi hj]
    by_cases e1 : i = x
    · by_cases e2 : j = y
      · subst e2
        cases c x j <;> simp [e1]
      · by_cases e3 : j < y
        · simp [e1, e2, e3, show j < y + 1 by omega]
        · simp [e1, e2, e3, show ¬ j < y + 1 by omega]
    · simp [e1])
  simp only [Nat.zero_add] at H
  refine ⟨H.1, fun i j hi hj => ?_⟩
  rw [H.2 i j hi hj]
  simp [hj]
theorem fill_all {n : Nat} {m : List (List Int)} (h : Sq n m) (c : Nat → Nat → Bool) (g : Nat → Nat → Int) :
    foldFrom (fun x m => foldFrom (setC c g x) 0 n m) 0 n m = grid n (fun i j => if c i j = true then g i j else el m i j) := by
  have H := foldFrom_inv (fun x m => foldFrom (setC c g x) 0 n m) (fun x m' => Sq n m' ∧ ∀ i j, i < n → j < n → el m' i j = if i < x ∧ c i j = true then g i j else el m i j) n 0 m ⟨h, fun i j _ _ => by simp⟩ (fun x m' _ hx hm => by
    obtain ⟨h1, h2⟩ := fill_row hm.1 c g (show x < n by omega)
    refine ⟨h1, fun i j hi hj => ?_⟩
    rw [h2 i j hi hj, hm.2 i j hi hj]
    by_cases e1 : i = x
    · subst e1
      cases c i j <;> simp
    · by_cases e3 : i < x
      · simp [e1, e3, show i < x + 1 by omega]
      · simp [e1, e3, show ¬ i < x + 1 by omega])
  simp only [Nat.zero_add] at H
  refine grid_ext H.1.len H.1.rows fun i j hi hj => ?_
  rw [H.2 i j hi hj]
  simp [hi]
theorem uniform_sq (n : Nat) (d : Int) : Sq n (F_spec_l6Uniform (n : Int) d) := by
  rw [uniform_eq]
  exact ⟨by rw [grid_len]; omega, fun i hi => by rw [grid_row _ _ _ (by omega)]; omega⟩
theorem uniform_el (n : Nat) (d : Int) (x y : Nat) (hx : x < n) (hy : y < n) : el (F_spec_l6Uniform (n : Int) d) x y = if x = y then 0 else d := by
  rw [uniform_eq, grid_el _ _ _ _ (by omega) (by omega), bif_dec]
  by_cases e : x = y
  · rw [if_pos e, if_pos (by omega)]
  · rw [if_neg e, if_neg (by omega)]
theorem metricOf_eq (m : List (List Int)) : F_impl_metricOf m = if F_impl_IsMetric m = true then (m, true) else ([], false) := by
  unfold F_impl_metricOf
  cases F_impl_IsMetric m <;> rfl
theorem grid_congr {n : Nat} {f g : Nat → Nat → Int} (h : ∀ x y, x < n → y < n → f x y = g x y) : grid n f = grid n g :=
  grid_ext (grid_len n f) (fun x hx => grid_row n f x hx) fun x y hx hy => by rw [grid_el n f x y hx hy, h x y hx hy]

theorem Sq.set {n : Nat} {m : List (List Int)} (h : Sq n m) {x y : Nat} {v : Int} (hx : x < n) (hy : y < n) : Sq n (m.set x ((m.getD x []).set y v)) :=
  (setC_sq h (fun _ _ => true) (fun _ _ => v) hx hy).1
theorem total_leMul (c : Nat) : ∀ m : List (List Int), (∀ i, i < m.length → (m.getD i []).length ≤ c) → total m ≤ m.length * c
  | [], _ => by simp [total]
  | r :: rs, h => by
    have h1 := h 0 (by simp)
    have h2 := total_leMul c rs fun i hi => by have := h (i + 1) (by simpa using hi); simpa using this
    simp only [total, List.map_cons, List.sum_cons, List.length_cons, List.getD_cons_zero] at *
    rw [Nat.succ_mul]; omega
theorem metricOf_total (m : List (List Int)) : total (F_impl_metricOf m).1 ≤ 36 := by
  rw [metricOf_eq]
  by_cases h : F_impl_IsMetric m = true
  · rw [if_pos h]
    have hT := isMetric_t h
    have h1 := total_leMul m.length m fun i hi => by rw [hT.rows i hi]; exact Nat.le_refl _
    have h2 : m.length * m.length ≤ 6 * 6 := Nat.mul_le_mul hT.n6 hT.n6
    show total m ≤ 36
    omega
  · rw [if_neg h]; simp [total]
theorem line_total (a : List Int) : total (F_impl_LineMetric a).1 ≤ 36 := by
  unfold F_impl_LineMetric
  rw [metricBy_eq]
  cases F_impl_areIn a 6 0 99 with
  | false => simp [total]
  | true => exact metricOf_total _

/-! stars -/
/-! lines -/
theorem line_valid (p : List Int) : ((∃ s, F_spec_LineMetric_L1 p (p.length - 0 + 1) 0 = .next s) ∧ (∀ i, i < p.length → 0 ≤ p.getD i 0 ∧ p.getD i 0 ≤ 99) ∧ ∀ i j, j < i → i < p.length → p.getD j 0 ≠ p.getD i 0) ∨
    (F_spec_LineMetric_L1 p (p.length - 0 + 1) 0 = .ret ([], false) ∧ ((¬ ∀ i, i < p.length → 0 ≤ p.getD i 0 ∧ p.getD i 0 ≤ 99) ∨ ∃ i j, j < i ∧ i < p.length ∧ p.getD j 0 = p.getD i 0)) := by
  have has : ∀ i, i < p.length → (F_spec_l1Has ((p.take i).drop 0) (p.getD i 0) = true ↔ ∃ j, j < i ∧ p.getD j 0 = p.getD i 0) := fun i hi => by
    rw [l1Has_iff]
    have hl : ((p.take i).drop 0).length = i := by simp; omega
    rw [hl]
    refine exists_congr fun j => and_congr_right fun hj => ?_
    have : ((p.take i).drop 0).getD j 0 = p.getD j 0 := by simp [hj]
    rw [this]
  rcases scan (F_spec_LineMetric_L1 p) p.length (fun i => (!((decide (0 ≤ (p.getD i 0))) && (decide ((p.getD i 0) ≤ 99)))) || (F_spec_l1Has ((p.take i).drop 0) (p.getD i 0))) (fun _ => ([], false)) (fun mf i => F_spec_LineMetric_L1_s p i mf) (p.length - 0 + 1) 0 (by omega) with ⟨h1, h2⟩ | ⟨j, h1, h2, h3, h4, h5⟩
  · refine .inl ⟨⟨_, h1⟩, fun i hi => ?_, fun i j hj hi he => ?_⟩
    · have := h2 i (by omega) hi
      rw [Bool.or_eq_false_iff, Bool.not_eq_false', Bool.and_eq_true, decide_eq_true_eq, decide_eq_true_eq] at this
      exact this.1
    · have := h2 i (by omega) hi
      rw [Bool.or_eq_false_iff, (has i hi).2 ⟨j, hj, he⟩] at this
      cases this.2
  · refine .inr ⟨h3, ?_⟩
    rw [Bool.or_eq_true] at h4
    rcases h4 with h4 | h4
    · left
      intro hh
      have := hh j h2
      rw [Bool.not_eq_true', Bool.and_eq_false_iff, decide_eq_false_iff_not, decide_eq_false_iff_not] at h4
      omega
    · right
      obtain ⟨i, hi, he⟩ := (has j h2).1 h4
      exact ⟨j, i, hi, h2, he⟩
theorem line_fill (p : List Int) : F_spec_l6Line p = grid p.length (fun x y => max (p.getD x 0 - p.getD y 0) (p.getD y 0 - p.getD x 0)) := by
  have hL2 : ∀ x m, F_spec_l6Line_L2 p x (p.length - 0 + 1) (0, m) = .next (p.length, foldFrom (setC (fun _ _ => true) (fun x y => F_spec_l1Most (p.getD x 0 - p.getD y 0) (p.getD y 0 - p.getD x 0)) x) 0 p.length m) := fun x m => by
    rw [fold_first (F_spec_l6Line_L2 p x) p.length (setC (fun _ _ => true) (fun x y => F_spec_l1Most (p.getD x 0 - p.getD y 0) (p.getD y 0 - p.getD x 0)) x) (fun mf s i => by
      rw [F_spec_l6Line_L2_s]; rfl) _ _ _ (by omega)]
    simp
  unfold F_spec_l6Line
  rw [fold_first (F_spec_l6Line_L1 p) p.length (fun x m => foldFrom (setC (fun _ _ => true) (fun x y => F_spec_l1Most (p.getD x 0 - p.getD y 0) (p.getD y 0 - p.getD x 0)) x) 0 p.length m) (fun mf s i => by
    rw [F_spec_l6Line_L1_s, hL2]; rfl) _ _ _ (by omega)]
  rw [Nat.sub_zero, fill_all (uniform_sq _ _)]
  simp only [elim_next, if_true, l1Most_eq]
theorem lineMetric_eq (p : List Int) : F_impl_LineMetric p = F_spec_LineMetric p := by
  unfold F_impl_LineMetric F_spec_LineMetric
  by_cases hn : 1 ≤ (p.length : Int) ∧ (p.length : Int) ≤ 6
  · rw [decide_eq_true hn.1, decide_eq_true hn.2]
    simp only [Bool.and_self, Bool.not_true, cond_false]
    have e0 : grid (p.length : Int).toNat (fun (x y : Nat) => bif decide ((x : Int) = (y : Int)) then 0 else F_impl_LineMetric_1 x y p) = grid p.length (fun x y => max (p.getD x 0 - p.getD y 0) (p.getD y 0 - p.getD x 0)) := by
      rw [Int.toNat_natCast]
      refine grid_congr fun x y hx hy => ?_
      rw [bif_dec]
      by_cases e : x = y
      · subst e; rw [if_pos rfl]; omega
      · rw [if_neg (by omega)]
        show max (p.getD x 0 - p.getD y 0) (-(p.getD x 0 - p.getD y 0)) = _
        omega
    rcases line_valid p with ⟨⟨s, h1⟩, h2, h3⟩ | ⟨h1, h2⟩
    · rw [h1, elim_next, (areIn_iff p 6 0 99).2 ⟨hn, h2⟩]
      simp only [Bool.not_true, cond_false]
      rw [metricBy_eq, e0, metricOf_eq, metric_grid (by omega) (by omega) (fun x y hx hy => ?_) (fun x y z hx hy hz => ?_), line_fill]
      · rfl
      · have a := h2 x hx
        have b := h2 y hy
        refine ⟨by omega, fun e => by subst e; omega, fun e => ?_⟩
        have : p.getD x 0 ≠ p.getD y 0 := by
          rcases Nat.lt_or_gt_of_ne e with h | h
          · exact h3 y x h hy
          · exact fun he => h3 x y h hx he.symm
        omega
      · omega
    · rw [h1, elim_ret]
      cases hA : F_impl_areIn p 6 0 99 with
      | false => rfl
      | true =>
        have hr := ((areIn_iff p 6 0 99).1 hA).2
        rcases h2 with h2 | ⟨i, j, hj, hi, he⟩
        · exact absurd hr h2
        · simp only [Bool.not_true, cond_false]
          rw [metricBy_eq, e0, metricOf_eq, if_neg]
          intro hm
          have := ((isMetric_iff _).1 hm).1.ok j i (by rw [grid_len]; omega) (by rw [grid_len]; omega)
          rw [grid_el _ _ _ _ (by omega) (by omega), grid_el _ _ _ _ (by omega) (by omega)] at this
          rcases this.2.2 (by omega) with h | h
          · omega
          · cases h.1
  · have h : (!((decide (1 ≤ (p.length : Int))) && (decide ((p.length : Int) ≤ 6)))) = true := by
      rw [Bool.not_eq_true', Bool.and_eq_false_iff, decide_eq_false_iff_not, decide_eq_false_iff_not]; omega
    have : F_impl_areIn p 6 0 99 = false := by
      rw [Bool.eq_false_iff]; intro hh; exact hn ((areIn_iff p 6 0 99).1 hh).1
    rw [h, this]; rfl
/-! diameters and balls -/
theorem foldMax (g : Nat → Int) : ∀ k i s, foldFrom (fun i s => max s (g i)) i (k + 1) s = max s (foldFrom (fun i s => max s (g i)) (i + 1) k (g i))
  | 0, i, s => rfl
  | k + 1, i, s => by
    rw [foldFrom, foldMax g k (i + 1), foldMax g k (i + 1)]
    omega
end Go.Proofs.Ytfhhfhiooehlcaa
