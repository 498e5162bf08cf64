/-
  Plain laws on orders, matchings and what moves cost. No condition.
-/
import Derived.Test.YtfhhfhiooehlcaaDefG
import Derived.Test.YtfhhfhiooehlcaaLawCfg
namespace Go.Proofs.Ytfhhfhiooehlcaa

theorem index_L1 (s : List Int) (v : Int) : (∃ k, F_slices_Index_Sint_int_L1 s v (s.length - 0 + 1) 0 = .next k ∧ ∀ i, i < s.length → s.getD i 0 ≠ v) ∨
    ∃ i, i < s.length ∧ F_slices_Index_Sint_int_L1 s v (s.length - 0 + 1) 0 = .ret (i : Int) ∧ s.getD i 0 = v ∧ ∀ j, j < i → s.getD j 0 ≠ v := by
  rcases scan (F_slices_Index_Sint_int_L1 s v) s.length (fun i => decide (v = s.getD i 0)) (fun i => (i : Int)) (fun m i => F_slices_Index_Sint_int_L1_s s v i m) (s.length - 0 + 1) 0 (by omega) with ⟨h1, h2⟩ | ⟨j, _, h2, h3, h4, h5⟩
  · refine .inl ⟨_, h1, fun i hi he => ?_⟩
    have := h2 i (by omega) hi
    rw [decide_eq_false_iff_not] at this
    exact this he.symm
  · refine .inr ⟨j, h2, h3, (by rw [decide_eq_true_eq] at h4; exact h4.symm), fun k hk he => ?_⟩
    have := h5 k (by omega) hk
    rw [decide_eq_false_iff_not] at this
    exact this he.symm
/-- slices.Index: the first place, or -1. -/
theorem index_spec (s : List Int) (v : Int) : (F_slices_Index_Sint_int s v = -1 ∧ ∀ i, i < s.length → s.getD i 0 ≠ v) ∨
    ∃ i : Nat, i < s.length ∧ F_slices_Index_Sint_int s v = i ∧ s.getD i 0 = v ∧ ∀ j, j < i → s.getD j 0 ≠ v := by
  unfold F_slices_Index_Sint_int
  rcases index_L1 s v with ⟨k, h1, h2⟩ | ⟨i, h1, h2, h3, h4⟩
  · rw [h1]; exact .inl ⟨rfl, h2⟩
  · rw [h2]; exact .inr ⟨i, h1, rfl, h3, h4⟩
theorem contains_iff (s : List Int) (v : Int) : F_slices_Contains_Sint_int s v = true ↔ ∃ i, i < s.length ∧ s.getD i 0 = v := by
  unfold F_slices_Contains_Sint_int
  rw [decide_eq_true_eq]
  rcases index_spec s v with ⟨h1, h2⟩ | ⟨i, h1, h2, h3, _⟩
  · rw [h1]; exact ⟨fun h => by omega, fun ⟨i, hi, he⟩ => absurd he (h2 i hi)⟩
  · rw [h2]; exact ⟨fun _ => ⟨i, h1, h3⟩, fun _ => by omega⟩
theorem contains_eq (s : List Int) (v : Int) : F_slices_Contains_Sint_int s v = F_spec_l1Has s v := by
  rw [Bool.eq_iff_iff, contains_iff, l1Has_iff]

/-! orders -/
theorem push_len {n : Nat} {xs : List (List Int)} {r : List Int} (h : ∀ j, (xs.getD j []).length ≤ n) (hr : r.length ≤ n) : ∀ j, ((xs ++ [r]).getD j []).length ≤ n := by
  intro j
  have := h j
  simp only [List.getD_eq_getElem?_getD, List.getElem?_append] at *
  by_cases hj : j < xs.length
  · rw [if_pos hj]; exact this
  · rw [if_neg hj]
    by_cases h0 : j - xs.length = 0
    · rw [h0]; simpa using hr
    · rw [List.getElem?_eq_none (by simp; omega)]; simp
theorem orders1 : F_impl_orders 1 = [[0]] := by decide
theorem orders2 : F_impl_orders 2 = [[0, 1], [1, 0]] := by decide
theorem orders3 : F_impl_orders 3 = [[0, 1, 2], [0, 2, 1], [1, 0, 2], [1, 2, 0], [2, 0, 1], [2, 1, 0]] := by decide
theorem orders_row (n : Nat) (h1 : 1 ≤ n) (h3 : n ≤ 3) : 1 ≤ (F_impl_orders (n : Int)).length ∧ (F_impl_orders (n : Int)).length ≤ 6 ∧
    ∀ i, i < (F_impl_orders (n : Int)).length → ((F_impl_orders (n : Int)).getD i []).length = n ∧ ∀ j, j < n → 0 ≤ ((F_impl_orders (n : Int)).getD i []).getD j 0 ∧ ((F_impl_orders (n : Int)).getD i []).getD j 0 < n := by
  match n, h1, h3 with
  | 1, _, _ => rw [show F_impl_orders ((1 : Nat) : Int) = _ from orders1]; decide
  | 2, _, _ => rw [show F_impl_orders ((2 : Nat) : Int) = _ from orders2]; decide
  | 3, _, _ => rw [show F_impl_orders ((3 : Nat) : Int) = _ from orders3]; decide
/-! matchings -/
theorem areConfigs_t {m : List (List Int)} {a b : List Int} (h : F_impl_areConfigs m a b = true) : Tab m ∧ Cf m.length a ∧ Cf m.length b ∧ a.length = b.length := by
  unfold F_impl_areConfigs at h
  rw [Bool.and_eq_true, Bool.and_eq_true, Bool.and_eq_true, isConfig_iff, isConfig_iff, decide_eq_true_eq] at h
  exact ⟨isMetric_t h.1.1.1, h.1.1.2, h.1.2, by omega⟩
/-- What an order costs. -/
def ordCost (m : List (List Int)) (a b : List Int) (r : List Int) : Int := foldFrom (fun j s => s + el m (a.getD j 0).toNat (b.getD (r.getD j 0).toNat 0).toNat) 0 a.length 0
theorem matched_L2 (m : List (List Int)) (a b : List Int) (h1 : 1 ≤ a.length) (h3 : a.length ≤ 3) (i : Nat) (hi : i < (F_impl_orders (a.length : Int)).length) :
    ∃ j, F_impl_Metric_matched_L2 m a b i ((((F_impl_orders (a.length : Int)).getD i []).length) - 0 + 1) (0, 0) = .next (ordCost m a b ((F_impl_orders (a.length : Int)).getD i []), j) := by
  have hr := ((orders_row a.length h1 h3).2.2 i hi).1
  have h := fold_last (F_impl_Metric_matched_L2 m a b i) ((F_impl_orders (a.length : Int)).getD i []).length _ (fun mf s j => F_impl_Metric_matched_L2_s m a b i s j mf) (((F_impl_orders (a.length : Int)).getD i []).length - 0 + 1) 0 0 (by omega)
  refine ⟨max 0 ((F_impl_orders (a.length : Int)).getD i []).length, ?_⟩
  rw [h, Nat.sub_zero, hr]
  unfold ordCost
  rfl
theorem ordCost_le {m : List (List Int)} (hT : TabP false m) {a b : List Int} (ha : Cf m.length a) (hb : Cf m.length b) (hl : a.length = b.length) (r : List Int) (hr : ∀ j, j < a.length → 0 ≤ r.getD j 0 ∧ r.getD j 0 < a.length) :
    0 ≤ ordCost m a b r ∧ ordCost m a b r ≤ 297 := by
  have h := foldFrom_inv (fun j s => s + el m (a.getD j 0).toNat (b.getD (r.getD j 0).toNat 0).toNat) (fun j s => 0 ≤ s ∧ s ≤ 99 * (j : Int)) a.length 0 0 (by omega) (fun j s _ hj hs => by
    have h1 := ha.el j (by omega)
    have h2 := hr j (by omega)
    have h3 := hb.el (r.getD j 0).toNat (by omega)
    have h4 := hT.ok (a.getD j 0).toNat (b.getD (r.getD j 0).toNat 0).toNat (by omega) (by omega)
    have h5 : 0 ≤ el m (a.getD j 0).toNat (b.getD (r.getD j 0).toNat 0).toNat ∧ el m (a.getD j 0).toNat (b.getD (r.getD j 0).toNat 0).toNat ≤ 99 := by
      by_cases e : (a.getD j 0).toNat = (b.getD (r.getD j 0).toNat 0).toNat
      · rw [h4.2.1 e]; omega
      · rcases h4.2.2 e with h | ⟨h, _⟩
        · omega
        · cases h
    omega)
  have := ha.n3
  unfold ordCost
  omega
theorem best_L1 (m : List (List Int)) (a b : List Int) (h1 : 1 ≤ a.length) (h3 : a.length ≤ 3) : ∀ (fuel i : Nat) (best : List Int) (least : Int) s, best.length ≤ 3 → F_impl_Metric_matched_L1 m a b fuel (best, least, i) = .next s → s.1.length ≤ 3 := by
  intro fuel
  induction fuel with
  | zero => intro i best least s h hs; injection hs with hs; subst hs; exact h
  | succ mf ih =>
    intro i best least s h
    rw [F_impl_Metric_matched_L1_s]
    by_cases hi : (i : Int) < ((F_impl_orders (a.length : Int)).length : Int)
    · obtain ⟨j1, e1⟩ := matched_L2 m a b h1 h3 i (by omega)
      have hr := ((orders_row a.length h1 h3).2.2 i (by omega)).1
      rw [e1, decide_eq_true hi]
      simp only [elim_next, cond_true]
      cases decide (ordCost m a b ((F_impl_orders (a.length : Int)).getD i []) < least)
      · exact ih _ _ _ _ h
      · exact ih _ _ _ _ (by rw [hr]; exact h3)
    · rw [decide_eq_false hi, cond_false]; intro hs; injection hs with hs; subst hs; exact h
theorem noret_L1 (m : List (List Int)) (a b : List Int) (h1 : 1 ≤ a.length) (h3 : a.length ≤ 3) : ∀ (fuel i : Nat) (best : List Int) (least : Int) r, F_impl_Metric_matched_L1 m a b fuel (best, least, i) ≠ .ret r := by
  intro fuel
  induction fuel with
  | zero => intro i best least r h; cases h
  | succ mf ih =>
    intro i best least r
    rw [F_impl_Metric_matched_L1_s]
    by_cases hi : (i : Int) < ((F_impl_orders (a.length : Int)).length : Int)
    · obtain ⟨j1, e1⟩ := matched_L2 m a b h1 h3 i (by omega)
      rw [e1, decide_eq_true hi]
      simp only [elim_next, cond_true]
      cases decide (ordCost m a b ((F_impl_orders (a.length : Int)).getD i []) < least)
      · exact ih _ _ _ _
      · exact ih _ _ _ _
    · rw [decide_eq_false hi, cond_false]; intro h; cases h
end Go.Proofs.Ytfhhfhiooehlcaa
