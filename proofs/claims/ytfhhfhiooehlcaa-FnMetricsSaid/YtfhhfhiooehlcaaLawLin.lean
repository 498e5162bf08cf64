/-
  Plain: the law of rows on a line and of moves of configurations holds for all codes. No condition.
-/
import Derived.Test.YtfhhfhiooehlcaaDefO
import Derived.Test.YtfhhfhiooehlcaaLawFnC
import Derived.Test.YtfhhfhiooehlcaaLawMatch
namespace Go.Proofs.Ytfhhfhiooehlcaa

theorem dist_rows {a b : List Int} (h : (F_impl_RowDistance a b).2 = true) : Row a ∧ Row b ∧ a.length = b.length := by
  unfold F_impl_RowDistance at h
  cases hb : F_impl_areRows a b with
  | true => exact areRows_t hb
  | false => rw [hb, Bool.not_false, cond_true] at h; cases h
theorem rTable_L1_refl (a : List (List Int)) : ∀ (fuel i : Nat), ∃ i', F_laws_rTable_L1 a a fuel i = .next i' := by
  intro fuel
  induction fuel with
  | zero => intro i; exact ⟨i, rfl⟩
  | succ mf ih =>
    intro i
    rw [F_laws_rTable_L1_s]
    cases decide ((i : Int) < (a.length : Int)) with
    | true => rw [cond_true, rInts_refl, Bool.not_true, cond_false]; exact ih (i + 1)
    | false => exact ⟨i, rfl⟩
theorem rTable_refl (a : List (List Int)) : F_laws_rTable a a = true := by
  unfold F_laws_rTable
  rw [decide_eq_true rfl, Bool.not_true, cond_false]
  obtain ⟨i', h⟩ := rTable_L1_refl a (a.length - 0 + 1) 0
  rw [h]; rfl
theorem rMetric_refl (a : List (List Int)) : F_laws_rMetric a a = true := rTable_refl a
theorem getD_push {α : Type} (l : List α) (x d : α) (i : Nat) : (l ++ [x]).getD i d = if i < l.length then l.getD i d else if i = l.length then x else d := by
  rcases Nat.lt_trichotomy i l.length with h | h | h
  · rw [if_pos h, List.getD_eq_getElem?_getD, List.getElem?_append_left h, ← List.getD_eq_getElem?_getD]
  · subst h; simp
  · rw [if_neg (by omega), if_neg (by omega), List.getD_eq_getElem?_getD, List.getElem?_eq_none (by simp; omega)]; rfl
def ct (k : Nat) (x : Int) : Int := min 1 (max 0 ((k : Int) - x))
theorem ct_up (k : Nat) (x : Int) : ct k x ≤ ct (k + 1) x := by unfold ct; omega
theorem ct_new {k : Nat} {x : Int} (h : x = k) : ct k x + 1 = ct (k + 1) x := by unfold ct; omega
theorem ct_le (k : Nat) (x : Int) : ct k x ≤ 1 := by unfold ct; omega
theorem ct_nn (k : Nat) (x : Int) : 0 ≤ ct k x := by unfold ct; omega
/-- What the places are, once the first k are looked at. -/
structure Pl (a b p : List Int) (k : Nat) : Prop where
  up : ∀ i j, i < j → j < p.length → p.getD i 0 < p.getD j 0
  rng : ∀ i, i < p.length → 0 ≤ p.getD i 0 ∧ p.getD i 0 < k
  hasa : ∀ i, i < a.length → a.getD i 0 < k → ∃ j, j < p.length ∧ p.getD j 0 = a.getD i 0
  hasb : ∀ i, i < b.length → b.getD i 0 < k → ∃ j, j < p.length ∧ p.getD j 0 = b.getD i 0
  cnt : (p.length : Int) ≤ ct k (a.getD 0 0) + ct k (a.getD 1 0) + ct k (a.getD 2 0) + ct k (b.getD 0 0) + ct k (b.getD 1 0) + ct k (b.getD 2 0)
theorem Pl.step {a b p : List Int} {k : Nat} (h : Pl a b p k) (ha : Row a) (hb : Row b) (hl : a.length = b.length) :
    ((F_laws_rHas a (k : Int) || F_laws_rHas b (k : Int)) = true → Pl a b (p ++ [(k : Int)]) (k + 1)) ∧ ((F_laws_rHas a (k : Int) || F_laws_rHas b (k : Int)) = false → Pl a b p (k + 1)) := by
  constructor
  · intro hh
    have hlen : (p ++ [(k : Int)]).length = p.length + 1 := by simp
    refine ⟨fun i j hij hj => ?_, fun i hi => ?_, fun i hi hk => ?_, fun i hi hk => ?_, ?_⟩
    · rw [getD_push, getD_push, if_pos (show i < p.length by omega)]
      by_cases e : j < p.length
      · rw [if_pos e]; exact h.up i j hij e
      · rw [if_neg e, if_pos (by omega)]; exact (h.rng i (by omega)).2
    · rw [getD_push]
      by_cases e : i < p.length
      · rw [if_pos e]; have := h.rng i e; omega
      · rw [if_neg e, if_pos (by omega)]; omega
    · by_cases e : a.getD i 0 < k
      · obtain ⟨j, h1, h2⟩ := h.hasa i hi e
        exact ⟨j, by omega, by rw [getD_push, if_pos h1, h2]⟩
      · exact ⟨p.length, by omega, by rw [getD_push, if_neg (by omega), if_pos rfl]; omega⟩
    · by_cases e : b.getD i 0 < k
      · obtain ⟨j, h1, h2⟩ := h.hasb i hi e
        exact ⟨j, by omega, by rw [getD_push, if_pos h1, h2]⟩
      · exact ⟨p.length, by omega, by rw [getD_push, if_neg (by omega), if_pos rfl]; omega⟩
    · have hc := h.cnt
      have h3 := ha.1.2
      rw [hlen]
      have u0 := ct_up k (a.getD 0 0); have u1 := ct_up k (a.getD 1 0); have u2 := ct_up k (a.getD 2 0)
      have u3 := ct_up k (b.getD 0 0); have u4 := ct_up k (b.getD 1 0); have u5 := ct_up k (b.getD 2 0)
      rw [Bool.or_eq_true, rHas_iff, rHas_iff] at hh
      rcases hh with ⟨i, hi, he⟩ | ⟨i, hi, he⟩
      · rcases (by omega : i = 0 ∨ i = 1 ∨ i = 2) with e | e | e <;> subst e <;> (have := ct_new he; omega)
      · rcases (by omega : i = 0 ∨ i = 1 ∨ i = 2) with e | e | e <;> subst e <;> (have := ct_new he; omega)
  · intro hh
    rw [Bool.or_eq_false_iff] at hh
    have na : ∀ i, i < a.length → a.getD i 0 ≠ k := fun i hi e => by
      have := (rHas_iff a k).2 ⟨i, hi, e⟩; rw [hh.1] at this; cases this
    have nb : ∀ i, i < b.length → b.getD i 0 ≠ k := fun i hi e => by
      have := (rHas_iff b k).2 ⟨i, hi, e⟩; rw [hh.2] at this; cases this
    refine ⟨h.up, fun i hi => ?_, fun i hi hk => ?_, fun i hi hk => ?_, ?_⟩
    · have := h.rng i hi; omega
    · exact h.hasa i hi (by have := na i hi; omega)
    · exact h.hasb i hi (by have := nb i hi; omega)
    · have hc := h.cnt
      have u0 := ct_up k (a.getD 0 0); have u1 := ct_up k (a.getD 1 0); have u2 := ct_up k (a.getD 2 0)
      have u3 := ct_up k (b.getD 0 0); have u4 := ct_up k (b.getD 1 0); have u5 := ct_up k (b.getD 2 0)
      omega
theorem places_L1 (code : List Int) (ha : Row (F_spec_DrawRowDistance code).1) (hb : Row (F_spec_DrawRowDistance code).2) (hl : (F_spec_DrawRowDistance code).1.length = (F_spec_DrawRowDistance code).2.length) :
    ∀ (fuel k : Nat) (p : List Int), k ≤ 100 → 100 - k < fuel → Pl (F_spec_DrawRowDistance code).1 (F_spec_DrawRowDistance code).2 p k →
    ∃ q k', F_laws_FnLineMoves_L1 code fuel (p, k) = .next (q, k') ∧ Pl (F_spec_DrawRowDistance code).1 (F_spec_DrawRowDistance code).2 q 100 := by
  intro fuel
  induction fuel with
  | zero => intro k p _ h; omega
  | succ mf ih =>
    intro k p hk hf h
    rw [F_laws_FnLineMoves_L1_s]
    by_cases hk9 : (k : Int) ≤ 99
    · rw [decide_eq_true hk9, cond_true]
      have hs := h.step ha hb hl
      cases hh : (F_laws_rHas (F_spec_DrawRowDistance code).1 (k : Int) || F_laws_rHas (F_spec_DrawRowDistance code).2 (k : Int)) with
      | true => rw [cond_true]; exact ih (k + 1) _ (by omega) (by omega) (hs.1 hh)
      | false => rw [cond_false]; exact ih (k + 1) _ (by omega) (by omega) (hs.2 hh)
    · rw [decide_eq_false hk9, cond_false]
      exact ⟨p, k, rfl, by rw [show k = 100 by omega] at h; exact h⟩
/-- The metric of a line of places. -/
def lineG (p : List Int) : List (List Int) := grid p.length (fun x y => max (p.getD x 0 - p.getD y 0) (p.getD y 0 - p.getD x 0))
theorem line_good {a b p : List Int} (h : Pl a b p 100) (ha : Row a) : F_impl_LineMetric p = (lineG p, true) ∧ F_impl_IsMetric (lineG p) = true := by
  have hn : 1 ≤ p.length := by
    obtain ⟨j, h1, _⟩ := h.hasa 0 (by have := ha.1.1; omega) (by have := ha.2.1 0 (by have := ha.1.1; omega); omega)
    omega
  have h6 : p.length ≤ 6 := by
    have := h.cnt
    have u0 := ct_le 100 (a.getD 0 0); have u1 := ct_le 100 (a.getD 1 0); have u2 := ct_le 100 (a.getD 2 0)
    have u3 := ct_le 100 (b.getD 0 0); have u4 := ct_le 100 (b.getD 1 0); have u5 := ct_le 100 (b.getD 2 0)
    omega
  have hne : ∀ i j, j < i → i < p.length → p.getD j 0 ≠ p.getD i 0 := fun i j hj hi => by have := h.up j i hj hi; omega
  have hm : F_impl_IsMetric (lineG p) = true := by
    refine metric_grid hn h6 (fun x y hx hy => ?_) (fun x y z hx hy hz => by omega)
    have a := h.rng x hx
    have b := h.rng y hy
    refine ⟨by omega, fun e => by subst e; omega, fun e => ?_⟩
    have : p.getD x 0 ≠ p.getD y 0 := by
      rcases Nat.lt_or_gt_of_ne e with h | h
      · exact hne y x h hy
      · exact fun he => hne x y h hx he.symm
    omega
  refine ⟨?_, hm⟩
  rw [lineMetric_eq]
  unfold F_spec_LineMetric
  rw [decide_eq_true (show 1 ≤ (p.length : Int) by omega), decide_eq_true (show (p.length : Int) ≤ 6 by omega)]
  simp only [Bool.and_self, Bool.not_true, cond_false]
  rcases line_valid p with ⟨⟨s, h1⟩, _, _⟩ | ⟨_, h2⟩
  · rw [h1, elim_next, line_fill]; rfl
  · exfalso
    rcases h2 with h2 | ⟨i, j, hj, hi, he⟩
    · exact h2 fun i hi => by have := h.rng i hi; omega
    · exact hne i j hj hi he
/-! the indexes of the places -/
theorem idx_L3 (code p : List Int) (i ja jb : Nat) (up : ∀ i j, i < j → j < p.length → p.getD i 0 < p.getD j 0) (hja : ja < p.length) (hjb : jb < p.length)
    (ea : p.getD ja 0 = (F_spec_DrawRowDistance code).1.getD i 0) (eb : p.getD jb 0 = (F_spec_DrawRowDistance code).2.getD i 0) :
    ∀ (fuel x : Nat) (P Q : List Int), x ≤ p.length → p.length - x < fuel → ∃ x', F_laws_FnLineMoves_L3 code p i fuel (P, Q, x) = .next (P ++ (if x ≤ ja then [(ja : Int)] else []), Q ++ (if x ≤ jb then [(jb : Int)] else []), x') := by
  intro fuel
  induction fuel with
  | zero => intro x P Q _ h; omega
  | succ mf ih =>
    intro x P Q hx hf
    rw [F_laws_FnLineMoves_L3_s, ← ea, ← eb]
    by_cases hi : (x : Int) < (p.length : Int)
    · rw [decide_eq_true hi, cond_true]
      have key : ∀ j, j < p.length → (p.getD x 0 = p.getD j 0 ↔ x = j) := fun j hj => by
        constructor
        · intro e
          rcases Nat.lt_trichotomy x j with h | h | h
          · have := up x j h hj; omega
          · exact h
          · have := up j x h (by omega); omega
        · rintro rfl; rfl
      have ifs : ∀ j : Nat, x ≠ j → (if x + 1 ≤ j then [(j : Int)] else ([] : List Int)) = if x ≤ j then [(j : Int)] else [] := fun j hj => by
        by_cases h : x ≤ j
        · rw [if_pos h, if_pos (by omega)]
        · rw [if_neg h, if_neg (by omega)]
      have ifn : ∀ j : Nat, x = j → (if x + 1 ≤ j then [(j : Int)] else ([] : List Int)) = [] ∧ (if x ≤ j then [(j : Int)] else ([] : List Int)) = [(x : Int)] := fun j hj => by
        subst hj; exact ⟨if_neg (by omega), if_pos (Nat.le_refl _)⟩
      by_cases e1 : x = ja
      · rw [decide_eq_true ((key ja hja).2 e1), cond_true]
        by_cases e2 : x = jb
        · rw [decide_eq_true ((key jb hjb).2 e2), cond_true]
          obtain ⟨x', h⟩ := ih (x + 1) (P ++ [(x : Int)]) (Q ++ [(x : Int)]) (by omega) (by omega)
          refine ⟨x', ?_⟩
          rw [h, (ifn ja e1).1, (ifn ja e1).2, (ifn jb e2).1, (ifn jb e2).2, List.append_nil, List.append_nil]
        · rw [decide_eq_false (fun h => e2 ((key jb hjb).1 h)), cond_false]
          obtain ⟨x', h⟩ := ih (x + 1) (P ++ [(x : Int)]) Q (by omega) (by omega)
          refine ⟨x', ?_⟩
          rw [h, (ifn ja e1).1, (ifn ja e1).2, ifs jb e2, List.append_nil]
      · rw [decide_eq_false (fun h => e1 ((key ja hja).1 h)), cond_false]
        by_cases e2 : x = jb
        · rw [decide_eq_true ((key jb hjb).2 e2), cond_true]
          obtain ⟨x', h⟩ := ih (x + 1) P (Q ++ [(x : Int)]) (by omega) (by omega)
          refine ⟨x', ?_⟩
          rw [h, ifs ja e1, (ifn jb e2).1, (ifn jb e2).2, List.append_nil]
        · rw [decide_eq_false (fun h => e2 ((key jb hjb).1 h)), cond_false]
          obtain ⟨x', h⟩ := ih (x + 1) P Q (by omega) (by omega)
          refine ⟨x', ?_⟩
          rw [h, ifs ja e1, ifs jb e2]
    · rw [decide_eq_false hi, cond_false, if_neg (by omega), if_neg (by omega), List.append_nil, List.append_nil]
      exact ⟨x, rfl⟩
theorem idx_L2 (code p : List Int) (fa fb : Nat → Nat) (up : ∀ i j, i < j → j < p.length → p.getD i 0 < p.getD j 0)
    (hf : ∀ i, i < (F_spec_DrawRowDistance code).1.length → fa i < p.length ∧ p.getD (fa i) 0 = (F_spec_DrawRowDistance code).1.getD i 0 ∧ fb i < p.length ∧ p.getD (fb i) 0 = (F_spec_DrawRowDistance code).2.getD i 0) :
    ∀ (fuel i : Nat) (P Q : List Int), i ≤ (F_spec_DrawRowDistance code).1.length → (F_spec_DrawRowDistance code).1.length - i < fuel →
    ∃ i', F_laws_FnLineMoves_L2 code p fuel (P, Q, i) = .next (P ++ (List.range' i ((F_spec_DrawRowDistance code).1.length - i)).map (fun j => (fa j : Int)), Q ++ (List.range' i ((F_spec_DrawRowDistance code).1.length - i)).map (fun j => (fb j : Int)), i') := by
  intro fuel
  induction fuel with
  | zero => intro x P Q _ h; omega
  | succ mf ih =>
    intro i P Q hx hfu
    rw [F_laws_FnLineMoves_L2_s]
    by_cases hi : (i : Int) < ((F_spec_DrawRowDistance code).1.length : Int)
    · rw [decide_eq_true hi, cond_true]
      obtain ⟨h1, h2, h3, h4⟩ := hf i (by omega)
      obtain ⟨x', e⟩ := idx_L3 code p i (fa i) (fb i) up h1 h3 h2 h4 (p.length - 0 + 1) 0 P Q (by omega) (by omega)
      rw [e]
      simp only [elim_next, Nat.zero_le, if_true]
      obtain ⟨i', h⟩ := ih (i + 1) (P ++ [(fa i : Int)]) (Q ++ [(fb i : Int)]) (by omega) (by omega)
      refine ⟨i', ?_⟩
      rw [h, show (F_spec_DrawRowDistance code).1.length - i = ((F_spec_DrawRowDistance code).1.length - (i + 1)) + 1 by omega, List.range'_succ, List.map_cons, List.map_cons, List.append_assoc, List.append_assoc]
      rfl
    · rw [decide_eq_false hi, cond_false, show (F_spec_DrawRowDistance code).1.length - i = 0 by omega]
      exact ⟨i, by simp⟩
/-! the least matching -/
theorem best_val (m : List (List Int)) (a b : List Int) (h1 : 1 ≤ a.length) (h3 : a.length ≤ 3) : ∀ (fuel i : Nat) (best : List Int) (least : Int), i ≤ (F_impl_orders (a.length : Int)).length → (F_impl_orders (a.length : Int)).length - i < fuel →
    ∃ bst k, F_impl_Metric_matched_L1 m a b fuel (best, least, i) = .next (bst, foldFrom (fun j s => min s (ordCost m a b ((F_impl_orders (a.length : Int)).getD j []))) i ((F_impl_orders (a.length : Int)).length - i) least, k) := by
  intro fuel
  induction fuel with
  | zero => intro i best least _ h; omega
  | succ mf ih =>
    intro i best least hle hfu
    rw [F_impl_Metric_matched_L1_s]
    by_cases hi : (i : Int) < ((F_impl_orders (a.length : Int)).length : Int)
    · obtain ⟨j1, e1⟩ := matched_L2 m a b h1 h3 i (by omega)
      rw [e1, decide_eq_true hi]
      simp only [elim_next, cond_true]
      rw [show (F_impl_orders (a.length : Int)).length - i = ((F_impl_orders (a.length : Int)).length - (i + 1)) + 1 by omega, foldFrom]
      by_cases hd : ordCost m a b ((F_impl_orders (a.length : Int)).getD i []) < least
      · rw [decide_eq_true hd, cond_true, show min least (ordCost m a b ((F_impl_orders (a.length : Int)).getD i [])) = ordCost m a b ((F_impl_orders (a.length : Int)).getD i []) by omega]
        exact ih _ _ _ (by omega) (by omega)
      · rw [decide_eq_false hd, cond_false, show min least (ordCost m a b ((F_impl_orders (a.length : Int)).getD i [])) = least by omega]
        exact ih _ _ _ (by omega) (by omega)
    · rw [decide_eq_false hi, cond_false, show (F_impl_orders (a.length : Int)).length - i = 0 by omega]
      exact ⟨best, i, rfl⟩
theorem moveCost_val (m : List (List Int)) (a b : List Int) (h1 : 1 ≤ a.length) (h3 : a.length ≤ 3) :
    F_impl_Metric_moveCost m a b = foldFrom (fun j s => min s (ordCost m a b ((F_impl_orders (a.length : Int)).getD j []))) 0 (F_impl_orders (a.length : Int)).length 1073741824 := by
  unfold F_impl_Metric_moveCost F_impl_Metric_matched
  obtain ⟨bst, k, h⟩ := best_val m a b h1 h3 ((F_impl_orders (a.length : Int)).length - 0 + 1) 0 [] 1073741824 (by omega) (by omega)
  rw [h, Nat.sub_zero]; rfl
def cst (m : List (List Int)) (P Q : List Int) (i j : Nat) : Int := el m (P.getD i 0).toNat (Q.getD j 0).toNat
theorem move1 (m : List (List Int)) (P Q : List Int) (h : P.length = 1) : F_impl_Metric_moveCost m P Q = min 1073741824 (0 + cst m P Q 0 0) := by
  rw [moveCost_val m P Q (by omega) (by omega), h]
  rw [show F_impl_orders ((1 : Nat) : Int) = _ from orders1]
  unfold ordCost
  rw [h]; rfl
theorem move2 (m : List (List Int)) (P Q : List Int) (h : P.length = 2) : F_impl_Metric_moveCost m P Q = min (min 1073741824 (0 + cst m P Q 0 0 + cst m P Q 1 1)) (0 + cst m P Q 0 1 + cst m P Q 1 0) := by
  rw [moveCost_val m P Q (by omega) (by omega), h]
  rw [show F_impl_orders ((2 : Nat) : Int) = _ from orders2]
  unfold ordCost
  rw [h]; rfl
theorem move3 (m : List (List Int)) (P Q : List Int) (h : P.length = 3) : F_impl_Metric_moveCost m P Q =
    min (min (min (min (min (min 1073741824 (0 + cst m P Q 0 0 + cst m P Q 1 1 + cst m P Q 2 2)) (0 + cst m P Q 0 0 + cst m P Q 1 2 + cst m P Q 2 1)) (0 + cst m P Q 0 1 + cst m P Q 1 0 + cst m P Q 2 2)) (0 + cst m P Q 0 1 + cst m P Q 1 2 + cst m P Q 2 0)) (0 + cst m P Q 0 2 + cst m P Q 1 0 + cst m P Q 2 1)) (0 + cst m P Q 0 2 + cst m P Q 1 1 + cst m P Q 2 0) := by
  rw [moveCost_val m P Q (by omega) (by omega), h]
  rw [show F_impl_orders ((3 : Nat) : Int) = _ from orders3]
  unfold ordCost
  rw [h]; rfl
theorem match2 {a0 a1 b0 b1 : Int} (ra0 : 0 ≤ a0 ∧ a0 ≤ 99) (ra1 : 0 ≤ a1 ∧ a1 ≤ 99) (rb0 : 0 ≤ b0 ∧ b0 ≤ 99) (rb1 : 0 ≤ b1 ∧ b1 ≤ 99) (ua0 : a0 ≤ a1) (ub0 : b0 ≤ b1) :
    min (min 1073741824 (0 + max (a0 - b0) (b0 - a0) + max (a1 - b1) (b1 - a1))) (0 + max (a0 - b1) (b1 - a0) + max (a1 - b0) (b0 - a1)) = 0 + max (a0 - b0) (-(a0 - b0)) + max (a1 - b1) (-(a1 - b1)) := by omega
theorem match3 {a0 a1 a2 b0 b1 b2 : Int} (ra0 : 0 ≤ a0 ∧ a0 ≤ 99) (ra1 : 0 ≤ a1 ∧ a1 ≤ 99) (ra2 : 0 ≤ a2 ∧ a2 ≤ 99) (rb0 : 0 ≤ b0 ∧ b0 ≤ 99) (rb1 : 0 ≤ b1 ∧ b1 ≤ 99) (rb2 : 0 ≤ b2 ∧ b2 ≤ 99) (ua0 : a0 ≤ a1) (ua1 : a1 ≤ a2) (ub0 : b0 ≤ b1) (ub1 : b1 ≤ b2) :
    min (min (min (min (min (min 1073741824 (0 + max (a0 - b0) (b0 - a0) + max (a1 - b1) (b1 - a1) + max (a2 - b2) (b2 - a2))) (0 + max (a0 - b0) (b0 - a0) + max (a1 - b2) (b2 - a1) + max (a2 - b1) (b1 - a2))) (0 + max (a0 - b1) (b1 - a0) + max (a1 - b0) (b0 - a1) + max (a2 - b2) (b2 - a2))) (0 + max (a0 - b1) (b1 - a0) + max (a1 - b2) (b2 - a1) + max (a2 - b0) (b0 - a2))) (0 + max (a0 - b2) (b2 - a0) + max (a1 - b0) (b0 - a1) + max (a2 - b1) (b1 - a2))) (0 + max (a0 - b2) (b2 - a0) + max (a1 - b1) (b1 - a1) + max (a2 - b0) (b0 - a2)) = 0 + max (a0 - b0) (-(a0 - b0)) + max (a1 - b1) (-(a1 - b1)) + max (a2 - b2) (-(a2 - b2)) := by
  have x1 : max (a0 - b0) (b0 - a0) + max (a1 - b1) (b1 - a1) + max (a2 - b2) (b2 - a2) ≤ max (a0 - b0) (b0 - a0) + max (a1 - b2) (b2 - a1) + max (a2 - b1) (b1 - a2) := by omega
  have x2 : max (a0 - b0) (b0 - a0) + max (a1 - b1) (b1 - a1) + max (a2 - b2) (b2 - a2) ≤ max (a0 - b1) (b1 - a0) + max (a1 - b0) (b0 - a1) + max (a2 - b2) (b2 - a2) := by omega
  have x3 : max (a0 - b0) (b0 - a0) + max (a1 - b1) (b1 - a1) + max (a2 - b2) (b2 - a2) ≤ max (a0 - b1) (b1 - a0) + max (a1 - b2) (b2 - a1) + max (a2 - b0) (b0 - a2) := by omega
  have x4 : max (a0 - b0) (b0 - a0) + max (a1 - b1) (b1 - a1) + max (a2 - b2) (b2 - a2) ≤ max (a0 - b2) (b2 - a0) + max (a1 - b0) (b0 - a1) + max (a2 - b1) (b1 - a2) := by omega
  have x5 : max (a0 - b0) (b0 - a0) + max (a1 - b1) (b1 - a1) + max (a2 - b2) (b2 - a2) ≤ max (a0 - b2) (b2 - a0) + max (a1 - b1) (b1 - a1) + max (a2 - b0) (b0 - a2) := by omega
  have y0 : -(a0 - b0) = b0 - a0 := by omega
  have y1 : -(a1 - b1) = b1 - a1 := by omega
  have y2 : -(a2 - b2) = b2 - a2 := by omega
  have z : max (a0 - b0) (b0 - a0) + max (a1 - b1) (b1 - a1) + max (a2 - b2) (b2 - a2) ≤ 1000 := by omega
  rw [y0, y1, y2]
  generalize max (a0 - b0) (b0 - a0) = m00 at *
  generalize max (a1 - b1) (b1 - a1) = m11 at *
  generalize max (a2 - b2) (b2 - a2) = m22 at *
  generalize max (a0 - b1) (b1 - a0) = m01 at *
  generalize max (a0 - b2) (b2 - a0) = m02 at *
  generalize max (a1 - b0) (b0 - a1) = m10 at *
  generalize max (a1 - b2) (b2 - a1) = m12 at *
  generalize max (a2 - b0) (b0 - a2) = m20 at *
  generalize max (a2 - b1) (b1 - a2) = m21 at *
  omega
theorem line_move {a b p : List Int} (h : Pl a b p 100) (ha : Row a) (hb : Row b) (hl : a.length = b.length) (fa fb : Nat → Nat)
    (hf : ∀ i, i < a.length → fa i < p.length ∧ p.getD (fa i) 0 = a.getD i 0 ∧ fb i < p.length ∧ p.getD (fb i) 0 = b.getD i 0) :
    F_impl_MoveCost (lineG p) ((List.range a.length).map (fun j => (fa j : Int))) ((List.range a.length).map (fun j => (fb j : Int))) = (F_impl_rowDistance a b, true) := by
  obtain ⟨_, hm⟩ := line_good h ha
  have hlen : (lineG p).length = p.length := grid_len _ _
  have hel : ∀ i j, i < a.length → j < a.length → el (lineG p) (fa i) (fb j) = max (a.getD i 0 - b.getD j 0) (b.getD j 0 - a.getD i 0) := fun i j hi hj => by
    unfold lineG
    rw [grid_el _ _ _ _ (hf i hi).1 (hf j hj).2.2.1, (hf i hi).2.1, (hf j hj).2.2.2]
  have mono : ∀ i j, i < p.length → j < p.length → p.getD i 0 ≤ p.getD j 0 → i ≤ j := fun i j hi hj he => by
    rcases Nat.lt_or_ge j i with e | e
    · have := h.up j i e hi; omega
    · exact e
  have hget : ∀ (f : Nat → Nat) i, i < a.length → ((List.range a.length).map (fun j => (f j : Int))).getD i 0 = (f i : Int) := fun f i hi => by simp [hi]
  have h13 := ha.1
  have cfa : Cf (lineG p).length ((List.range a.length).map (fun j => (fa j : Int))) := by
    refine ⟨by simp; omega, by simp; omega, fun i hi => ?_, fun i hi => ?_⟩
    · rw [List.length_map, List.length_range] at hi
      rw [hget fa i hi, hlen]; have := (hf i hi).1; omega
    · rw [List.length_map, List.length_range] at hi
      rw [hget fa i (by omega), hget fa (i + 1) hi]
      have := mono (fa i) (fa (i + 1)) (hf i (by omega)).1 (hf (i + 1) hi).1 (by rw [(hf i (by omega)).2.1, (hf (i + 1) hi).2.1]; exact ha.2.2 i hi)
      omega
  have cfb : Cf (lineG p).length ((List.range a.length).map (fun j => (fb j : Int))) := by
    refine ⟨by simp; omega, by simp; omega, fun i hi => ?_, fun i hi => ?_⟩
    · rw [List.length_map, List.length_range] at hi
      rw [hget fb i hi, hlen]; have := (hf i hi).2.2.1; omega
    · rw [List.length_map, List.length_range] at hi
      rw [hget fb i (by omega), hget fb (i + 1) hi]
      have := mono (fb i) (fb (i + 1)) (hf i (by omega)).2.2.1 (hf (i + 1) hi).2.2.1 (by rw [(hf i (by omega)).2.2.2, (hf (i + 1) hi).2.2.2]; exact hb.2.2 i (by omega))
      omega
  have hcf : F_impl_areConfigs (lineG p) ((List.range a.length).map (fun j => (fa j : Int))) ((List.range a.length).map (fun j => (fb j : Int))) = true := by
    unfold F_impl_areConfigs
    rw [hm, (isConfig_iff _ _).2 cfa, (isConfig_iff _ _).2 cfb]
    simp
  unfold F_impl_MoveCost
  rw [hcf, Bool.not_true, cond_false, dist_fold]
  have ua := ha.2.2
  have ub := hb.2.2
  have ra := ha.2.1
  have rb := hb.2.1
  have hc : ∀ i j, i < a.length → j < a.length → cst (lineG p) ((List.range a.length).map (fun j => (fa j : Int))) ((List.range a.length).map (fun j => (fb j : Int))) i j = max (a.getD i 0 - b.getD j 0) (b.getD j 0 - a.getD i 0) := fun i j hi hj => by
    unfold cst
    rw [hget fa i hi, hget fb j hj, Int.toNat_natCast, Int.toNat_natCast, hel i j hi hj]
  have hP : ((List.range a.length).map (fun j => (fa j : Int))).length = a.length := by simp
  clear cfa cfb hcf mono hlen hm h hget hel hf
  generalize (List.range a.length).map (fun j => (fa j : Int)) = P at *
  generalize (List.range a.length).map (fun j => (fb j : Int)) = Q at *
  refine Prod.ext ?_ rfl
  dsimp only
  rcases (by omega : a.length = 1 ∨ a.length = 2 ∨ a.length = 3) with e | e | e
  · rw [e] at hc hP ⊢
    rw [move1 _ _ _ hP, hc 0 0 (by omega) (by omega)]
    simp only [foldFrom]
    have ra0 := ra 0 (by omega); have rb0 := rb 0 (by omega)
    omega
  · rw [e] at hc hP ⊢
    rw [move2 _ _ _ hP, hc 0 0 (by omega) (by omega), hc 0 1 (by omega) (by omega), hc 1 0 (by omega) (by omega), hc 1 1 (by omega) (by omega)]
    simp only [foldFrom]
    have ra0 := ra 0 (by omega); have rb0 := rb 0 (by omega)
    have ra1 := ra 1 (by omega); have rb1 := rb 1 (by omega)
    have ua0 := ua 0 (by omega); have ub0 := ub 0 (by omega)
    clear hc ra rb ua ub ha hb
    generalize a.getD 0 0 = a0 at *
    generalize a.getD 1 0 = a1 at *
    generalize b.getD 0 0 = b0 at *
    generalize b.getD 1 0 = b1 at *
    exact match2 ra0 ra1 rb0 rb1 ua0 ub0
  · rw [e] at hc hP ⊢
    rw [move3 _ _ _ hP, hc 0 0 (by omega) (by omega), hc 0 1 (by omega) (by omega), hc 0 2 (by omega) (by omega), hc 1 0 (by omega) (by omega), hc 1 1 (by omega) (by omega), hc 1 2 (by omega) (by omega), hc 2 0 (by omega) (by omega), hc 2 1 (by omega) (by omega), hc 2 2 (by omega) (by omega)]
    simp only [foldFrom]
    have ra0 := ra 0 (by omega); have rb0 := rb 0 (by omega)
    have ra1 := ra 1 (by omega); have rb1 := rb 1 (by omega)
    have ra2 := ra 2 (by omega); have rb2 := rb 2 (by omega)
    have ua0 := ua 0 (by omega); have ub0 := ub 0 (by omega)
    have ua1 := ua 1 (by omega); have ub1 := ub 1 (by omega)
    clear hc ra rb ua ub ha hb
    generalize a.getD 0 0 = a0 at *
    generalize a.getD 1 0 = a1 at *
    generalize a.getD 2 0 = a2 at *
    generalize b.getD 0 0 = b0 at *
    generalize b.getD 1 0 = b1 at *
    generalize b.getD 2 0 = b2 at *
    exact match3 ra0 ra1 ra2 rb0 rb1 rb2 ua0 ua1 ub0 ub1
theorem law_fLineMoves (code : List Int) : F_laws_FnLineMoves code = true := by
  unfold F_laws_FnLineMoves
  cases F_laws_rBig code with
  | true => rfl
  | false =>
    rw [cond_false, ← rowDistance_eq, decide_eq_true rfl]
    simp only [bne_self_eq_false, Bool.not_true, Bool.or_self, cond_false]
    cases hok : (F_impl_RowDistance (F_spec_DrawRowDistance code).1 (F_spec_DrawRowDistance code).2).2 with
    | false => rfl
    | true =>
      rw [Bool.not_true, cond_false]
      obtain ⟨ha, hb, hl⟩ := dist_rows hok
      obtain ⟨p, k', e1, hp⟩ := places_L1 code ha hb hl (100 - 0 + 1) 0 [] (by omega) (by omega) ⟨fun i j _ hj => by simp at hj, fun i hi => by simp at hi, fun i hi hk => by have := ha.2.1 i hi; omega, fun i hi hk => by have := hb.2.1 i hi; omega, by
        have u0 := ct_nn 0 ((F_spec_DrawRowDistance code).1.getD 0 0); have u1 := ct_nn 0 ((F_spec_DrawRowDistance code).1.getD 1 0); have u2 := ct_nn 0 ((F_spec_DrawRowDistance code).1.getD 2 0)
        have u3 := ct_nn 0 ((F_spec_DrawRowDistance code).2.getD 0 0); have u4 := ct_nn 0 ((F_spec_DrawRowDistance code).2.getD 1 0); have u5 := ct_nn 0 ((F_spec_DrawRowDistance code).2.getD 2 0)
        rw [List.length_nil]; omega⟩
      rw [e1, elim_next]
      obtain ⟨e2, _⟩ := line_good hp ha
      dsimp only
      rw [← lineMetric_eq, e2]
      simp only [Bool.not_true, Bool.or_self, rMetric_refl, cond_false]
      have hfa : ∀ i, ∃ j, i < (F_spec_DrawRowDistance code).1.length → j < p.length ∧ p.getD j 0 = (F_spec_DrawRowDistance code).1.getD i 0 := fun i => by
        by_cases hi : i < (F_spec_DrawRowDistance code).1.length
        · obtain ⟨j, h1, h2⟩ := hp.hasa i hi (by have := ha.2.1 i hi; omega)
          exact ⟨j, fun _ => ⟨h1, h2⟩⟩
        · exact ⟨0, fun h => absurd h hi⟩
      have hfb : ∀ i, ∃ j, i < (F_spec_DrawRowDistance code).1.length → j < p.length ∧ p.getD j 0 = (F_spec_DrawRowDistance code).2.getD i 0 := fun i => by
        by_cases hi : i < (F_spec_DrawRowDistance code).1.length
        · obtain ⟨j, h1, h2⟩ := hp.hasb i (by omega) (by have := hb.2.1 i (by omega); omega)
          exact ⟨j, fun _ => ⟨h1, h2⟩⟩
        · exact ⟨0, fun h => absurd h hi⟩
      obtain ⟨fa, hfa⟩ := Classical.axiomOfChoice hfa
      obtain ⟨fb, hfb⟩ := Classical.axiomOfChoice hfb
      have hf : ∀ i, i < (F_spec_DrawRowDistance code).1.length → fa i < p.length ∧ p.getD (fa i) 0 = (F_spec_DrawRowDistance code).1.getD i 0 ∧ fb i < p.length ∧ p.getD (fb i) 0 = (F_spec_DrawRowDistance code).2.getD i 0 := fun i hi => ⟨(hfa i hi).1, (hfa i hi).2, (hfb i hi).1, (hfb i hi).2⟩
      obtain ⟨i', e3⟩ := idx_L2 code p fa fb hp.up hf ((F_spec_DrawRowDistance code).1.length - 0 + 1) 0 [] [] (by omega) (by omega)
      rw [e3, elim_next]
      dsimp only
      have hd : (F_impl_RowDistance (F_spec_DrawRowDistance code).1 (F_spec_DrawRowDistance code).2).1 = F_impl_rowDistance (F_spec_DrawRowDistance code).1 (F_spec_DrawRowDistance code).2 := by
        rw [dist_of ha hb hl]
      rw [List.nil_append, List.nil_append, Nat.sub_zero, ← List.range_eq_range', line_move hp ha hb hl fa fb hf, hd]
      simp
end Go.Proofs.Ytfhhfhiooehlcaa
