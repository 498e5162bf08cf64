/-
  Plain laws on flows, supports and schedules; what the walks ask of them. No condition.
-/
import Derived.Test.YtilmadapmcnlgaaDefY
import Derived.Test.YtilmadapmcnlgaaLawFar
namespace Go.Proofs.Ytilmadapmcnlgaa
section

theorem concat_eq (a b : List Int) : F_slices_Concat_Sint_int [a, b] = a ++ b := by
  unfold F_slices_Concat_Sint_int
  have h1 : ∃ s, F_slices_Concat_Sint_int_L1 [a, b] (([a, b] : List (List Int)).length - 0 + 1) (0, 0) = .next s := by
    show ∃ s, F_slices_Concat_Sint_int_L1 [a, b] (2 + 1) (0, 0) = .next s
    rw [F_slices_Concat_Sint_int_L1_s, decide_eq_true (by simp), cond_true, decide_eq_false (by omega), cond_false, F_slices_Concat_Sint_int_L1_s, decide_eq_true (by simp), cond_true, decide_eq_false (by omega), cond_false, F_slices_Concat_Sint_int_L1_s, decide_eq_false (by simp), cond_false]
    exact ⟨_, rfl⟩
  obtain ⟨s, h1⟩ := h1
  rw [h1]
  simp only [elim_next]
  show ((F_slices_Concat_Sint_int_L2 [a, b] (2 + 1) ([], 0)).elim _ _) = _
  rw [F_slices_Concat_Sint_int_L2_s, decide_eq_true (by simp), cond_true, F_slices_Concat_Sint_int_L2_s, decide_eq_true (by simp), cond_true, F_slices_Concat_Sint_int_L2_s, decide_eq_false (by simp), cond_false]
  rfl
theorem concat_len (a b : List Int) : (F_slices_Concat_Sint_int [a, b]).length = a.length + b.length := by rw [concat_eq, List.length_append]
theorem point_app (a b : List Int) (l : Nat) : F_spec_l7Point a b (l : Int) = (a ++ b).getD l 0 := by
  unfold F_spec_l7Point
  by_cases h : l < a.length
  · rw [decide_eq_true (by omega), cond_true, Int.toNat_natCast, List.getD_eq_getElem?_getD, List.getD_eq_getElem?_getD, List.getElem?_append_left h]
  · rw [decide_eq_false (by omega), cond_false, List.getD_eq_getElem?_getD, List.getD_eq_getElem?_getD, List.getElem?_append_right (by omega)]
    congr 2; omega
theorem app_el {n : Nat} {a b : List Int} (ha : ∀ i, i < a.length → 0 ≤ a.getD i 0 ∧ a.getD i 0 < n) (hb : ∀ i, i < b.length → 0 ≤ b.getD i 0 ∧ b.getD i 0 < n) (l : Nat) (h : l < a.length + b.length) : 0 ≤ (a ++ b).getD l 0 ∧ (a ++ b).getD l 0 < n := by
  rw [List.getD_eq_getElem?_getD, List.getElem?_append]
  by_cases hl : l < a.length
  · rw [if_pos hl, ← List.getD_eq_getElem?_getD]; exact ha l hl
  · rw [if_neg hl, ← List.getD_eq_getElem?_getD]; exact hb _ (by omega)
theorem concat_el {m : List (List Int)} {a reqs : List Int} (h : Sv m a reqs) (l : Nat) (hl : l < a.length + reqs.length) : 0 ≤ (F_slices_Concat_Sint_int [a, reqs]).getD l 0 ∧ (F_slices_Concat_Sint_int [a, reqs]).getD l 0 < m.length := by
  rw [concat_eq]; exact app_el h.cf.el h.el l hl
theorem take_getD {α : Type} (l : List α) (n i : Nat) (d : α) (h : i < n) : (l.take n).getD i d = l.getD i d := by
  rw [List.getD_eq_getElem?_getD, List.getD_eq_getElem?_getD, List.getElem?_take, if_pos h]

/-! the costs of a flow -/
def gap (m : List (List Int)) (a reqs : List Int) (k i : Nat) : Int := el m ((a ++ reqs).getD k 0).toNat (reqs.getD i 0).toNat
theorem gap_eq (m : List (List Int)) (a reqs : List Int) (l i : Nat) : F_spec_l7Gap m a reqs (l : Int) (i : Int) = gap m a reqs l i := by
  unfold F_spec_l7Gap gap
  rw [point_app, Int.toNat_natCast]
theorem flow_L2 (m : List (List Int)) (a reqs : List Int) (i : Nat) (hi : i < reqs.length) : ∀ fuel k out, a.length + i - k < fuel → out.length = a.length + reqs.length → ∃ k' out', F_impl_flowOf_L2 m a reqs i fuel (k, out) = .next (k', out') ∧ out'.length = a.length + reqs.length ∧
    ∀ q, q < a.length + reqs.length → out'.getD q 0 = if k ≤ q ∧ q < a.length + i then gap m a reqs q i else out.getD q 0 := by
  have hlen : (((F_slices_Concat_Sint_int [a, reqs]).take (a.length + i)).drop 0).length = a.length + i := by rw [List.drop_zero, List.length_take, concat_len]; omega
  intro fuel
  induction fuel with
  | zero => intro k out h; omega
  | succ mf ih =>
    intro k out h hl
    rw [F_impl_flowOf_L2_s, hlen]
    by_cases hk : (k : Int) < ((a.length + i : Nat) : Int)
    · rw [decide_eq_true hk, cond_true]
      obtain ⟨k', out', h1, h2, h3⟩ := ih (k + 1) (out.set k ((m.getD ((((F_slices_Concat_Sint_int [a, reqs]).take (a.length + i)).drop 0).getD k 0).toNat []).getD (reqs.getD i 0).toNat 0)) (by omega) (by rw [List.length_set]; exact hl)
      refine ⟨k', out', h1, h2, fun q hq => ?_⟩
      rw [h3 q hq]
      by_cases e : q = k
      · subst e
        rw [if_neg (by omega), if_pos ⟨Nat.le_refl _, by omega⟩, getD_set_eq _ _ _ _ (by omega), List.drop_zero, take_getD _ _ _ _ (by omega), concat_eq]
        rfl
      · rw [getD_set_ne _ _ _ _ _ (Ne.symm e)]
        by_cases e2 : k ≤ q ∧ q < a.length + i
        · rw [if_pos ⟨by omega, e2.2⟩, if_pos e2]
        · rw [if_neg (by omega), if_neg e2]
    · rw [decide_eq_false hk, cond_false]
      exact ⟨k, out, rfl, hl, fun q hq => by rw [if_neg (by omega)]⟩
/-- The costs of a flow: each row of a place. -/
structure Fw (m : List (List Int)) (a reqs : List Int) (n : Nat) (cs : List (List Int)) : Prop where
  len : cs.length = n
  row : ∀ i, i < n → (cs.getD i []).length = a.length + reqs.length
  el : ∀ i q, i < n → q < a.length + reqs.length → (cs.getD i []).getD q 0 = if q < a.length + i then gap m a reqs q i else 1073741824
theorem flow_L1 {m : List (List Int)} {a reqs : List Int} (hs : a.length ≤ 3 ∧ reqs.length ≤ 60) : ∀ fuel i out, reqs.length - i < fuel → i ≤ reqs.length → Fw m a reqs i out → ∃ i' out', F_impl_flowOf_L1 m a reqs fuel (i, out) = .next (i', out') ∧ Fw m a reqs reqs.length out' := by
  intro fuel
  induction fuel with
  | zero => intro i out h; omega
  | succ mf ih =>
    intro i out h hi hf
    rw [F_impl_flowOf_L1_s]
    by_cases hlt : (i : Int) < (reqs.length : Int)
    · have hlen : (((F_slices_Concat_Sint_int [a, reqs]).take (a.length + i)).drop 0).length = a.length + i := by rw [List.drop_zero, List.length_take, concat_len]; omega
      have hrl : (F_slices_Repeat_Sint_int [1073741824] ((F_slices_Concat_Sint_int [a, reqs]).length : Int)) = List.replicate (a.length + reqs.length) 1073741824 := by
        rw [repeat_eq _ _ (by omega) (by rw [concat_len]; omega), Int.toNat_natCast, concat_len]
      rw [decide_eq_true hlt, cond_true, hlen, hrl]
      obtain ⟨k', o1, h1, h2, h3⟩ := flow_L2 m a reqs i (by omega) (a.length + i - 0 + 1) 0 (List.replicate (a.length + reqs.length) 1073741824) (by omega) (by simp)
      rw [h1]
      simp only [elim_next]
      refine ih (i + 1) _ (by omega) (by omega) ⟨by simp [hf.len], fun j hj => ?_, fun j q hj hq => ?_⟩
      · by_cases e : j < i
        · rw [getDD_app_lt (by rw [hf.len]; exact e)]; exact hf.row j e
        · rw [getDD_app_eq (by rw [hf.len]; omega)]; exact h2
      · by_cases e : j < i
        · rw [getDD_app_lt (by rw [hf.len]; exact e)]; exact hf.el j q e hq
        · have e' : j = i := by omega
          subst e'
          rw [getDD_app_eq (by rw [hf.len]), h3 q hq, getD_rep _ _ _ _ hq]
          by_cases e2 : q < a.length + j
          · rw [if_pos ⟨Nat.zero_le _, e2⟩, if_pos e2]
          · rw [if_neg (fun h => e2 h.2), if_neg e2]
    · rw [decide_eq_false hlt, cond_false]
      have e : i = reqs.length := by omega
      exact ⟨i, out, rfl, e ▸ hf⟩
theorem flowOf_fw {m : List (List Int)} {a reqs : List Int} (hs : a.length ≤ 3 ∧ reqs.length ≤ 60) : Fw m a reqs reqs.length (F_impl_flowOf m a reqs).2 ∧ (F_impl_flowOf m a reqs).1 = (a.length : Int) := by
  obtain ⟨i', out', h1, h2⟩ := flow_L1 (m := m) hs (reqs.length - 0 + 1) 0 [] (by omega) (Nat.zero_le _) ⟨rfl, fun i h => by omega, fun i q h => by omega⟩
  unfold F_impl_flowOf
  rw [h1]
  exact ⟨h2, rfl⟩
theorem flow_bd {m : List (List Int)} {a reqs : List Int} (h : Sv m a reqs) : (F_impl_flowOf m a reqs).2.length = reqs.length ∧ (∀ i, i < reqs.length → ((F_impl_flowOf m a reqs).2.getD i []).length = a.length + reqs.length) ∧ ∀ i q, 0 ≤ ((F_impl_flowOf m a reqs).2.getD i []).getD q 0 ∧ ((F_impl_flowOf m a reqs).2.getD i []).getD q 0 ≤ 1073741824 := by
  obtain ⟨hf, _⟩ := flowOf_fw (m := m) (a := a) (reqs := reqs) ⟨h.cf.n3, h.r60⟩
  refine ⟨hf.len, hf.row, fun i q => ?_⟩
  by_cases hi : i < reqs.length
  · by_cases hq : q < a.length + reqs.length
    · rw [hf.el i q hi hq]
      split
      · have := el_bd h.tp ((a ++ reqs).getD q 0).toNat (reqs.getD i 0).toNat
        unfold gap; omega
      · omega
    · rw [getD_ge ((F_impl_flowOf m a reqs).2.getD i []) q 0 (by rw [hf.row i hi]; omega)]; omega
  · rw [getD_ge (F_impl_flowOf m a reqs).2 i [] (by rw [hf.len]; omega), getD_ge [] q 0 (Nat.zero_le _)]; omega

/-! prices -/
theorem l7Prices_iff (reqs prices : List Int) : F_spec_l7Prices reqs prices = true ↔ prices.length = reqs.length ∧ ∀ i, i < prices.length → 0 ≤ prices.getD i 0 ∧ prices.getD i 0 < 100000 := by
  unfold F_spec_l7Prices
  rcases scan (F_spec_l7Prices_L1 prices) prices.length _ (fun _ => false) (fun q j => F_spec_l7Prices_L1_s prices j q) (prices.length - 0 + 1) 0 (by omega) with ⟨h1, h2⟩ | ⟨j, _, h2, h3, h4, _⟩
  · rw [h1]
    simp only [Ctl.elim, decide_eq_true_eq]
    refine ⟨fun h => ⟨by omega, fun i hi => ?_⟩, fun h => by omega⟩
    have := h2 i (Nat.zero_le _) hi
    simp only [Bool.not_eq_false', Bool.and_eq_true, decide_eq_true_eq] at this
    omega
  · rw [h3]
    refine ⟨fun h => by (cases h), fun ⟨_, h⟩ => ?_⟩
    have := h j h2
    simp only [Bool.not_eq_true', Bool.and_eq_false_iff, decide_eq_false_iff_not] at h4
    omega
theorem getD_bd {l : List Int} {B : Int} (hB : 0 ≤ B) (h : ∀ i, i < l.length → 0 ≤ l.getD i 0 ∧ l.getD i 0 ≤ B) (i : Nat) : 0 ≤ l.getD i 0 ∧ l.getD i 0 ≤ B := by
  by_cases hi : i < l.length
  · exact h i hi
  · rw [getD_ge _ _ _ (by omega)]; omega
theorem l7Prices_t {reqs prices : List Int} (h : F_spec_l7Prices reqs prices = true) : prices.length = reqs.length ∧ ∀ i, 0 ≤ prices.getD i 0 ∧ prices.getD i 0 ≤ 99999 := by
  obtain ⟨h1, h2⟩ := (l7Prices_iff reqs prices).1 h
  exact ⟨h1, getD_bd (by omega) fun i hi => by have := h2 i hi; omega⟩
theorem small_bd {l : List Int} (h : ∀ i, i < l.length → 0 ≤ l.getD i 0 ∧ l.getD i 0 < 100000) (i : Nat) : 0 ≤ l.getD i 0 ∧ l.getD i 0 ≤ 99999 := getD_bd (by omega) (fun i hi => by have := h i hi; omega) i
theorem prices_guard (m : List (List Int)) (a reqs prices : List Int) : (((!(F_impl_isServed m a reqs)) || (!decide ((prices.length : Int) = (reqs.length : Int)))) || (!(F_impl_isSmall prices))) = (((!(F_spec_l6Good m)) || (!(F_spec_l6Start m a reqs))) || (!(F_spec_l7Prices reqs prices))) := by
  rw [served_or, Bool.or_assoc, ← Bool.not_and]
  congr 2
  rw [Bool.eq_iff_iff, l7Prices_iff, Bool.and_eq_true, decide_eq_true_eq]
  show _ ∧ F_impl_areBelow 100000 prices = true ↔ _
  rw [areBelow_iff]
  exact ⟨fun h => ⟨by omega, h.2⟩, fun h => ⟨by omega, h.2⟩⟩
def rentOf (m : List (List Int)) (a reqs prices : List Int) (k : Nat) : Int := foldFrom (fun i s => max s (bif decide (k < a.length + i) then prices.getD i 0 - gap m a reqs k i else s)) 0 reqs.length 0
theorem rent_L3 {m : List (List Int)} {a reqs prices : List Int} (hs : a.length ≤ 3 ∧ reqs.length ≤ 60) (hp : ∀ i, 0 ≤ prices.getD i 0 ∧ prices.getD i 0 ≤ 99999) (k : Nat) (hk : k < a.length + reqs.length) :
    ∃ j, F_impl_PriceBound_L3 m a reqs prices k ((F_impl_flowOf m a reqs).2.length - 0 + 1) (0, 0) = .next (rentOf m a reqs prices k, j) := by
  obtain ⟨hf, _⟩ := flowOf_fw (m := m) hs
  have h := fold_last (F_impl_PriceBound_L3 m a reqs prices k) (F_impl_flowOf m a reqs).2.length _ (fun mf s j => F_impl_PriceBound_L3_s m a reqs prices k s j mf) ((F_impl_flowOf m a reqs).2.length - 0 + 1) 0 0 (by omega)
  refine ⟨max 0 (F_impl_flowOf m a reqs).2.length, ?_⟩
  rw [h, Nat.sub_zero, hf.len]
  congr 2
  have key : ∀ n i (s : Int), 0 ≤ s → i + n ≤ reqs.length → foldFrom (fun i s => max s (prices.getD i 0 - ((F_impl_flowOf m a reqs).2.getD i []).getD k 0)) i n s = foldFrom (fun i s => max s (bif decide (k < a.length + i) then prices.getD i 0 - gap m a reqs k i else s)) i n s := by
    intro n
    induction n with
    | zero => intro i s _ _; rfl
    | succ n ih =>
      intro i s h0 hin
      rw [foldFrom, foldFrom, hf.el i k (by omega) hk]
      by_cases e : k < a.length + i
      · rw [if_pos e, decide_eq_true e, cond_true]
        exact ih _ _ (by omega) (by omega)
      · rw [if_neg e, decide_eq_false e, cond_false]
        have := hp i
        rw [show max s (prices.getD i 0 - 1073741824) = s by omega, show max s s = s by omega]
        exact ih _ _ h0 (by omega)
  exact key reqs.length 0 0 (by omega) (by omega)
theorem rent_eq {m : List (List Int)} {a reqs : List Int} (prices : List Int) (k : Nat) : F_spec_l7Rent m a reqs prices (k : Int) = rentOf m a reqs prices k := by
  have hm : F_spec_l1Most 0 ((k : Int) - (a.length : Int) + 1) = ((k + 1 - a.length : Nat) : Int) := by rw [l1Most_eq]; omega
  -- before the first place that counts nothing turns
  have skip : ∀ n i (s : Int), i + n ≤ k + 1 - a.length → foldFrom (fun i s => max s (bif decide (k < a.length + i) then prices.getD i 0 - gap m a reqs k i else s)) i n s = s := by
    intro n
    induction n with
    | zero => intro i s _; rfl
    | succ n ih =>
      intro i s h
      rw [foldFrom, decide_eq_false (by omega), cond_false, show max s s = s by omega]
      exact ih _ _ (by omega)
  have split : ∀ p n i (s : Int), foldFrom (fun i s => max s (bif decide (k < a.length + i) then prices.getD i 0 - gap m a reqs k i else s)) i (p + n) s = foldFrom (fun i s => max s (bif decide (k < a.length + i) then prices.getD i 0 - gap m a reqs k i else s)) (i + p) n (foldFrom (fun i s => max s (bif decide (k < a.length + i) then prices.getD i 0 - gap m a reqs k i else s)) i p s) := by
    intro p
    induction p with
    | zero => intro n i s; rw [Nat.zero_add]; rfl
    | succ p ih =>
      intro n i s
      rw [show p + 1 + n = (p + n) + 1 by omega, foldFrom, foldFrom, ih, show i + 1 + p = i + (p + 1) by omega]
  have run : ∀ fuel (i : Nat) (s : Int), reqs.length - i < fuel → k < a.length + i → ∃ j, F_spec_l7Rent_L1 m a reqs prices (k : Int) fuel (s, (i : Int)) = .next (foldFrom (fun i s => max s (bif decide (k < a.length + i) then prices.getD i 0 - gap m a reqs k i else s)) i (reqs.length - i) s, j) := by
    intro fuel
    induction fuel with
    | zero => intro i s h; omega
    | succ mf ih =>
      intro i s h hk
      rw [F_spec_l7Rent_L1_s]
      by_cases hi : (i : Int) < (reqs.length : Int)
      · rw [decide_eq_true hi, cond_true, l1Most_eq, gap_eq, Int.toNat_natCast, show reqs.length - i = (reqs.length - (i + 1)) + 1 by omega, foldFrom, decide_eq_true hk, cond_true]
        exact ih (i + 1) _ (by omega) (by omega)
      · rw [decide_eq_false hi, cond_false, show reqs.length - i = 0 by omega]
        exact ⟨_, rfl⟩
  unfold F_spec_l7Rent rentOf
  rw [hm]
  obtain ⟨j, hj⟩ := run (((reqs.length : Int) - ((k + 1 - a.length : Nat) : Int)).toNat + 1) (k + 1 - a.length) 0 (by omega) (by omega)
  rw [hj]
  simp only [elim_next]
  by_cases hle : k + 1 - a.length ≤ reqs.length
  · have := split (k + 1 - a.length) (reqs.length - (k + 1 - a.length)) 0 0
    rw [show k + 1 - a.length + (reqs.length - (k + 1 - a.length)) = reqs.length by omega, Nat.zero_add, skip (k + 1 - a.length) 0 0 (by omega)] at this
    exact this.symm
  · rw [show reqs.length - (k + 1 - a.length) = 0 by omega, skip reqs.length 0 0 (by omega)]; rfl
theorem sums_L1 (prices : List Int) : ∀ fuel s, F_impl_PriceBound_L1 prices fuel s = F_spec_PriceBound_L1 prices fuel s := by
  intro fuel
  induction fuel with
  | zero => intro s; rfl
  | succ mf ih => intro ⟨s, i⟩; rw [F_impl_PriceBound_L1_s, F_spec_PriceBound_L1_s, ih]
theorem bound_L2 {m : List (List Int)} {a reqs prices : List Int} (hs : a.length ≤ 3 ∧ reqs.length ≤ 60) (hp : ∀ i, 0 ≤ prices.getD i 0 ∧ prices.getD i 0 ≤ 99999) : ∀ fuel s k, F_impl_PriceBound_L2 m a reqs prices fuel (s, k) = F_spec_PriceBound_L2 m a reqs prices fuel (s, k) := by
  intro fuel
  induction fuel with
  | zero => intro s k; rfl
  | succ mf ih =>
    intro s k
    rw [F_impl_PriceBound_L2_s, F_spec_PriceBound_L2_s]
    by_cases hk : (k : Int) < (a.length : Int) + (reqs.length : Int)
    · obtain ⟨j, e⟩ := rent_L3 (m := m) hs hp k (by omega)
      rw [decide_eq_true hk, cond_true, cond_true, e, rent_eq]
      exact ih _ _
    · rw [decide_eq_false hk, cond_false, cond_false]
theorem priceBound_eq (m : List (List Int)) (a reqs prices : List Int) : F_impl_PriceBound m a reqs prices = F_spec_PriceBound m a reqs prices := by
  unfold F_impl_PriceBound F_spec_PriceBound
  rw [prices_guard]
  cases hb : (((!(F_spec_l6Good m)) || (!(F_spec_l6Start m a reqs))) || (!(F_spec_l7Prices reqs prices))) with
  | true => rfl
  | false =>
    simp only [Bool.or_eq_false_iff, Bool.not_eq_false'] at hb
    have hv := l6Start_t hb.1.2
    have hp := l7Prices_t hb.2
    rw [cond_false, cond_false, sums_L1]
    cases F_spec_PriceBound_L1 prices (prices.length - 0 + 1) (0, 0) with
    | next s => simp only [elim_next]; rw [bound_L2 ⟨hv.cf.n3, hv.r60⟩ hp.2]
    | ret r => rfl
theorem rent_bd {m : List (List Int)} (hT : TabP false m) (a reqs : List Int) {prices : List Int} (hp : ∀ i, 0 ≤ prices.getD i 0 ∧ prices.getD i 0 ≤ 99999) (k : Nat) : 0 ≤ F_spec_l7Rent m a reqs prices (k : Int) ∧ F_spec_l7Rent m a reqs prices (k : Int) ≤ 99999 := by
  rw [rent_eq]
  unfold rentOf
  exact foldFrom_inv _ (fun _ s => 0 ≤ s ∧ s ≤ 99999) reqs.length 0 0 (by omega) (fun i s _ _ hs => by
    have h1 := hp i
    have h2 := el_bd hT ((a ++ reqs).getD k 0).toNat (reqs.getD i 0).toNat
    unfold gap
    cases decide (k < a.length + i) <;> simp only [cond_true, cond_false] <;> omega)
theorem law_PriceBound (m : List (List Int)) (a reqs prices : List Int) : F_laws_FnExactPriceBound m a reqs prices = true := by
  unfold F_laws_FnExactPriceBound
  simp only [toMetric_eq, toIntS_eq, priceBound_eq, eqMetric_refl, eqIntS_refl]
  simp
end

section

/-! the support -/
theorem isupp_L2 (m : List (List Int)) (k : Int) (w : List Int) (i : Nat) : ∀ fuel b j, (F_impl_worksFor m k w).2.1.length - j < fuel → ∃ b' j', F_impl_SupportOf_L2 m k w i fuel (b, j) = .next (b', j') ∧
    (b' = true ↔ b = true ∧ ∀ q, j ≤ q → q < (F_impl_worksFor m k w).2.1.length → i = q ∨ w.getD i 0 < w.getD q 0 + ((F_impl_worksFor m k w).2.2.1.getD q []).getD i 0) := by
  intro fuel
  induction fuel with
  | zero => intro b j h; omega
  | succ mf ih =>
    intro b j h
    rw [F_impl_SupportOf_L2_s]
    by_cases hj : (j : Int) < ((F_impl_worksFor m k w).2.1.length : Int)
    · rw [decide_eq_true hj, cond_true]
      obtain ⟨b', j', h1, h2⟩ := ih (b && ((decide ((i : Int) = (j : Int))) || (decide (w.getD i 0 < w.getD j 0 + ((F_impl_worksFor m k w).2.2.1.getD j []).getD i 0)))) (j + 1) (by omega)
      refine ⟨b', j', h1, ?_⟩
      rw [h2]
      simp only [Bool.and_eq_true, Bool.or_eq_true, decide_eq_true_eq]
      constructor
      · rintro ⟨⟨g1, g2⟩, g3⟩
        refine ⟨g1, fun q hq hl => ?_⟩
        rcases Nat.eq_or_lt_of_le hq with rfl | hq
        · rcases g2 with g2 | g2
          · left; omega
          · right; exact g2
        · exact g3 q hq hl
      · rintro ⟨g1, g2⟩
        refine ⟨⟨g1, ?_⟩, fun q hq hl => g2 q (by omega) hl⟩
        rcases g2 j (Nat.le_refl _) (by omega) with g | g
        · left; omega
        · right; exact g
    · rw [decide_eq_false hj, cond_false]
      exact ⟨b, j, rfl, by constructor <;> intro hh <;> first | exact hh.1 | exact ⟨hh, fun q h1 h2 => by omega⟩⟩
theorem ssupp_L2 (m cs : List (List Int)) (w : List Int) (i : Nat) : ∀ fuel b j, cs.length - j < fuel → ∃ b' j', F_spec_l7Support_L2 m cs w i fuel (b, j) = .next (b', j') ∧
    (b' = true ↔ b = true ∧ ∀ q, j ≤ q → q < cs.length → i = q ∨ w.getD i 0 ≠ w.getD q 0 + F_spec_l6Move m (cs.getD i []) (cs.getD q [])) := by
  intro fuel
  induction fuel with
  | zero => intro b j h; omega
  | succ mf ih =>
    intro b j h
    rw [F_spec_l7Support_L2_s]
    by_cases hj : (j : Int) < (cs.length : Int)
    · rw [decide_eq_true hj, cond_true]
      cases hc : ((!decide ((i : Int) = (j : Int))) && (decide (w.getD i 0 = w.getD j 0 + F_spec_l6Move m (cs.getD i []) (cs.getD j [])))) with
      | true =>
        rw [cond_true]
        obtain ⟨b', j', h1, h2⟩ := ih false (j + 1) (by omega)
        refine ⟨b', j', h1, ?_⟩
        rw [h2]
        simp only [Bool.and_eq_true, Bool.not_eq_true', decide_eq_false_iff_not, decide_eq_true_eq] at hc
        constructor
        · rintro ⟨g, _⟩; cases g
        · rintro ⟨_, g⟩
          rcases g j (Nat.le_refl _) (by omega) with g | g
          · exact absurd (by omega) hc.1
          · exact absurd hc.2 g
      | false =>
        rw [cond_false]
        obtain ⟨b', j', h1, h2⟩ := ih b (j + 1) (by omega)
        refine ⟨b', j', h1, ?_⟩
        rw [h2]
        simp only [Bool.and_eq_false_iff, Bool.not_eq_false', decide_eq_false_iff_not, decide_eq_true_eq] at hc
        refine and_congr Iff.rfl ⟨fun g q hq hl => ?_, fun g q hq hl => g q (by omega) hl⟩
        rcases Nat.eq_or_lt_of_le hq with rfl | hq
        · rcases hc with hc | hc
          · left; omega
          · right; exact hc
        · exact g q hq hl
    · rw [decide_eq_false hj, cond_false]
      exact ⟨b, j, rfl, by constructor <;> intro hh <;> first | exact hh.1 | exact ⟨hh, fun q h1 h2 => by omega⟩⟩
/-- Whether a place is of the support. -/
def ownB (m : List (List Int)) (k : Int) (w : List Int) (i : Nat) : Bool := (F_impl_SupportOf_L2 m k w i ((F_impl_worksFor m k w).2.1.length - 0 + 1) (true, 0)).elim (fun s => s.1) (fun _ => false)
theorem ownB_iff (m : List (List Int)) (k : Int) (w : List Int) (i : Nat) : ownB m k w i = true ↔ ∀ q, q < (F_impl_worksFor m k w).2.1.length → i = q ∨ w.getD i 0 < w.getD q 0 + ((F_impl_worksFor m k w).2.2.1.getD q []).getD i 0 := by
  obtain ⟨b', j', h1, h2⟩ := isupp_L2 m k w i ((F_impl_worksFor m k w).2.1.length - 0 + 1) true 0 (by omega)
  unfold ownB
  rw [h1]
  simp only [Ctl.elim]
  rw [h2]
  exact ⟨fun h q hq => h.2 q (Nat.zero_le _) hq, fun h => ⟨rfl, fun q _ hq => h q hq⟩⟩
theorem isupp_L1 (m : List (List Int)) (k : Int) (w : List Int) : ∀ fuel out i, (F_impl_worksFor m k w).2.1.length - i < fuel → ∃ i', F_impl_SupportOf_L1 m k w fuel (out, i) =
    .next (out ++ ((List.range' i ((F_impl_worksFor m k w).2.1.length - i)).filter (ownB m k w)).map (fun p => (F_impl_worksFor m k w).2.1.getD p []), i') := by
  intro fuel
  induction fuel with
  | zero => intro out i h; omega
  | succ mf ih =>
    intro out i h
    rw [F_impl_SupportOf_L1_s]
    by_cases hi : (i : Int) < ((F_impl_worksFor m k w).2.1.length : Int)
    · obtain ⟨b', j', h1, _⟩ := isupp_L2 m k w i ((F_impl_worksFor m k w).2.1.length - 0 + 1) true 0 (by omega)
      have hb : ownB m k w i = b' := by unfold ownB; rw [h1]; rfl
      rw [decide_eq_true hi, cond_true, h1, show (F_impl_worksFor m k w).2.1.length - i = ((F_impl_worksFor m k w).2.1.length - (i + 1)) + 1 by omega, List.range'_succ, List.filter_cons, hb]
      simp only [elim_next]
      cases b' with
      | true =>
        obtain ⟨i', e⟩ := ih (out ++ [(F_impl_worksFor m k w).2.1.getD i []]) (i + 1) (by omega)
        refine ⟨i', ?_⟩
        rw [cond_true, e, if_pos rfl, List.map_cons, List.append_assoc]; rfl
      | false =>
        obtain ⟨i', e⟩ := ih out (i + 1) (by omega)
        refine ⟨i', ?_⟩
        rw [cond_false, e, if_neg (by simp)]
    · rw [decide_eq_false hi, cond_false, show (F_impl_worksFor m k w).2.1.length - i = 0 by omega]
      exact ⟨i, by simp⟩
theorem ssupp_L1 (m cs : List (List Int)) (w : List Int) (P : Nat → Bool) (hP : ∀ i, i < cs.length → (P i = true ↔ ∀ q, q < cs.length → i = q ∨ w.getD i 0 ≠ w.getD q 0 + F_spec_l6Move m (cs.getD i []) (cs.getD q []))) : ∀ fuel out i, cs.length - i < fuel → ∃ i', F_spec_l7Support_L1 m cs w fuel (out, i) =
    .next (out ++ ((List.range' i (cs.length - i)).filter P).map (fun (p : Nat) => (p : Int)), i') := by
  intro fuel
  induction fuel with
  | zero => intro out i h; omega
  | succ mf ih =>
    intro out i h
    rw [F_spec_l7Support_L1_s]
    by_cases hi : (i : Int) < (cs.length : Int)
    · obtain ⟨b', j', h1, h2⟩ := ssupp_L2 m cs w i (cs.length - 0 + 1) true 0 (by omega)
      have hb : P i = b' := by
        rw [Bool.eq_iff_iff, hP i (by omega), h2]
        exact ⟨fun h => ⟨rfl, fun q _ hq => h q hq⟩, fun h q hq => h.2 q (Nat.zero_le _) hq⟩
      rw [decide_eq_true hi, cond_true, h1, show cs.length - i = (cs.length - (i + 1)) + 1 by omega, List.range'_succ, List.filter_cons, hb]
      simp only [elim_next]
      cases b' with
      | true =>
        obtain ⟨i', e⟩ := ih (out ++ [(i : Int)]) (i + 1) (by omega)
        refine ⟨i', ?_⟩
        rw [cond_true, e, if_pos rfl, List.map_cons, List.append_assoc]; rfl
      | false =>
        obtain ⟨i', e⟩ := ih out (i + 1) (by omega)
        refine ⟨i', ?_⟩
        rw [cond_false, e, if_neg (by simp)]
    · rw [decide_eq_false hi, cond_false, show cs.length - i = 0 by omega]
      exact ⟨i, by simp⟩
/-- The places of the support. -/
theorem ownB_move {m : List (List Int)} {k : Int} {w : List Int} (h : Wf m k w) (i : Nat) (hi : i < (F_spec_l6Configs (m.length : Int) k).length) :
    ownB m k w i = true ↔ ∀ q, q < (F_spec_l6Configs (m.length : Int) k).length → i = q ∨ w.getD i 0 ≠ w.getD q 0 + F_spec_l6Move m ((F_spec_l6Configs (m.length : Int) k).getD i []) ((F_spec_l6Configs (m.length : Int) k).getD q []) := by
  rw [ownB_iff, h.c1, h.c2, h.ks.same]
  rw [h.ks.same] at hi
  refine forall_congr' fun q => forall_congr' fun hq => or_congr Iff.rfl ?_
  have h1 := h.wk.lip i q (by rw [h.wk.len]; exact hi) (by rw [h.wk.len]; exact hq)
  have hl := h.ks.eqlen i q hi hq
  rw [costs_el _ _ _ _ hq hi, move_symm h.ks.tp (h.ks.cfgs q hq).1 (h.ks.cfgs i hi).1 hl.symm, move_eq h.ks.tp (h.ks.cfgs i hi).1 (h.ks.cfgs q hq).1 hl]
  omega
def suppN (m : List (List Int)) (k : Int) (w : List Int) : List Nat := (List.range' 0 (F_spec_l6Configs (m.length : Int) k).length).filter (ownB m k w)
theorem support_eq {m : List (List Int)} {k : Int} {w : List Int} (h : Wf m k w) : F_spec_l7Support m (F_spec_l6Configs (m.length : Int) k) w = (suppN m k w).map (fun (p : Nat) => (p : Int)) := by
  obtain ⟨i', e⟩ := ssupp_L1 m (F_spec_l6Configs (m.length : Int) k) w (ownB m k w) (ownB_move h) ((F_spec_l6Configs (m.length : Int) k).length - 0 + 1) [] 0 (by omega)
  unfold F_spec_l7Support
  rw [e]
  rfl
theorem suppN_ok (m : List (List Int)) (k : Int) (w : List Int) : (suppN m k w).Nodup ∧ ∀ p ∈ suppN m k w, p < (F_spec_l6Configs (m.length : Int) k).length := by
  unfold suppN
  refine ⟨List.Pairwise.filter _ (List.nodup_range' ..), fun p hp => ?_⟩
  have := (List.mem_filter.1 hp).1
  rw [List.mem_range'_1] at this
  omega
theorem suppN_len (m : List (List Int)) (k : Int) (w : List Int) : (suppN m k w).length ≤ (F_spec_l6Configs (m.length : Int) k).length := by
  have := List.length_filter_le (ownB m k w) (List.range' 0 (F_spec_l6Configs (m.length : Int) k).length)
  rwa [List.length_range'] at this
theorem suppOf_L1 (m : List (List Int)) (k : Int) (w : List Int) : ∃ i', F_spec_SupportOf_L1 m k w ((F_spec_l7Support m (F_spec_l6Configs (m.length : Int) k) w).length - 0 + 1) ([], 0) =
    .next ((F_spec_l7Support m (F_spec_l6Configs (m.length : Int) k) w).map (fun z => (F_spec_l6Configs (m.length : Int) k).getD z.toNat []), i') := by
  have h := fold_last (F_spec_SupportOf_L1 m k w) (F_spec_l7Support m (F_spec_l6Configs (m.length : Int) k) w).length _ (fun mf s j => F_spec_SupportOf_L1_s m k w s j mf) ((F_spec_l7Support m (F_spec_l6Configs (m.length : Int) k) w).length - 0 + 1) [] 0 (by omega)
  refine ⟨max 0 (F_spec_l7Support m (F_spec_l6Configs (m.length : Int) k) w).length, ?_⟩
  rw [h, Nat.sub_zero, fold_app, List.nil_append, range'_range]
  congr 2
  refine List.ext_getElem (by simp) fun i h1 h2 => ?_
  simp only [List.getElem_map, List.getElem_range]
  congr 2
  rw [getD_lt _ _ _ (by simpa using h2)]
theorem supportOf_eq (m : List (List Int)) (k : Int) (w : List Int) : F_impl_SupportOf m k w = F_spec_SupportOf m k w := by
  unfold F_impl_SupportOf F_spec_SupportOf
  have hg : F_spec_l7Given m k w 0 = (F_impl_worksFor m k w).2.2.2 := by
    rw [given_eq]
    cases hf : (F_impl_worksFor m k w).2.2.2 with
    | false => rfl
    | true =>
      have hn := (worksFor_t hf).ks.n
      rw [decide_eq_true (show (0 : Int) ≤ (m.length : Int) - 1 by omega)]; rfl
  rw [hg]
  cases hf : (F_impl_worksFor m k w).2.2.2 with
  | false => rfl
  | true =>
    have hw := worksFor_t hf
    obtain ⟨i1, e1⟩ := isupp_L1 m k w ((F_impl_worksFor m k w).2.1.length - 0 + 1) [] 0 (by omega)
    obtain ⟨i2, e2⟩ := suppOf_L1 m k w
    simp only [Bool.not_true, cond_false]
    rw [e1, e2]
    simp only [elim_next, List.nil_append]
    rw [support_eq hw, List.map_map]
    unfold suppN
    rw [hw.c1, hw.ks.same, Nat.sub_zero]
    congr 1
theorem supportOf_total (m : List (List Int)) (k : Int) (w : List Int) : total (F_impl_SupportOf m k w).1 ≤ 168 := by
  rw [supportOf_eq]
  unfold F_spec_SupportOf
  cases hg : F_spec_l7Given m k w 0 with
  | false => simp [total]
  | true =>
    have hv := l7Given_t hg
    obtain ⟨i2, e2⟩ := suppOf_L1 m k w
    simp only [Bool.not_true, cond_false]
    rw [e2]
    simp only [elim_next]
    rw [support_eq hv.wf, List.map_map]
    have h1 := suppN_len m k w
    have h2 := hv.ks.s56
    have h3 := total_le 3 ((suppN m k w).map ((fun z => (F_spec_l6Configs (m.length : Int) k).getD z.toNat []) ∘ fun (p : Nat) => (p : Int))) (fun r hr => by
      obtain ⟨p, hp, rfl⟩ := List.mem_map.1 hr
      exact (hv.ks.scf p ((suppN_ok m k w).2 p hp)).1.n3)
    rw [List.length_map] at h3
    omega
theorem law_SupportOf (m : List (List Int)) (k : Int) (w : List Int) : F_laws_FnExactSupportOf m k w = true := by
  unfold F_laws_FnExactSupportOf
  simp only [toMetric_eq, toIntS_eq, supportOf_eq, eqMetric_refl, eqIntS_refl, eqIntSS_refl, markIntS_eq, markMetric_eq, heldIntSS_marked _ 1 (by omega)]
  simp only [markIntSS_eq]
  have h1 : ¬ ((1 : Int) + (total m : Int) + (w.length : Int) < 0) := by omega
  have h2 : ¬ ((1 : Int) + (total (F_spec_SupportOf m k w).1 : Int) < 0) := by omega
  simp [h1, h2]

/-! work lists from a support -/
theorem fs_L2 (m cs : List (List Int)) (vs : List Int) (j : Nat) (o0 : List Int) : ∀ fuel i out, o0.length - i < fuel → out.length = o0.length → ∃ i' out', F_impl_FromSupport_L2 m cs vs j o0 fuel (i, out) = .next (i', out') ∧ out'.length = o0.length ∧
    ∀ q, q < o0.length → out'.getD q 0 = if i ≤ q then min (out.getD q 0) (vs.getD j 0 + ((F_impl_worksOf m ((cs.getD 0 []).length : Int)).2.getD (F_impl_works_index (F_impl_worksOf m ((cs.getD 0 []).length : Int)).1 (F_impl_worksOf m ((cs.getD 0 []).length : Int)).2 (cs.getD j [])).toNat []).getD q 0) else out.getD q 0 := by
  intro fuel
  induction fuel with
  | zero => intro i out h; omega
  | succ mf ih =>
    intro i out h hl
    rw [F_impl_FromSupport_L2_s]
    by_cases hi : (i : Int) < (o0.length : Int)
    · rw [decide_eq_true hi, cond_true]
      obtain ⟨i', out', h1, h2, h3⟩ := ih (i + 1) (out.set i (min (out.getD i 0) (vs.getD j 0 + ((F_impl_worksOf m ((cs.getD 0 []).length : Int)).2.getD (F_impl_works_index (F_impl_worksOf m ((cs.getD 0 []).length : Int)).1 (F_impl_worksOf m ((cs.getD 0 []).length : Int)).2 (cs.getD j [])).toNat []).getD i 0))) (by omega) (by rw [List.length_set]; exact hl)
      refine ⟨i', out', h1, h2, fun q hq => ?_⟩
      rw [h3 q hq]
      by_cases e : q = i
      · subst e
        rw [if_neg (by omega), if_pos (Nat.le_refl _), getD_set_eq _ _ _ _ (by omega)]
      · rw [getD_set_ne _ _ _ _ _ (Ne.symm e)]
        by_cases e2 : i ≤ q
        · rw [if_pos (by omega), if_pos e2]
        · rw [if_neg (by omega), if_neg e2]
    · rw [decide_eq_false hi, cond_false]
      exact ⟨i, out, rfl, hl, fun q hq => by rw [if_neg (by omega)]⟩
/-- The price of a place by one configuration of the support. -/
def via (m cs : List (List Int)) (vs : List Int) (j i : Nat) : Int := vs.getD j 0 + ((F_impl_worksOf m ((cs.getD 0 []).length : Int)).2.getD (F_impl_works_index (F_impl_worksOf m ((cs.getD 0 []).length : Int)).1 (F_impl_worksOf m ((cs.getD 0 []).length : Int)).2 (cs.getD j [])).toNat []).getD i 0
theorem fs_L1 (m cs : List (List Int)) (vs : List Int) : ∀ fuel j out, cs.length - j < fuel → ∃ j' out', F_impl_FromSupport_L1 m cs vs fuel (j, out) = .next (j', out') ∧ out'.length = out.length ∧
    ∀ i, i < out.length → out'.getD i 0 ≤ out.getD i 0 ∧ (∀ q, j ≤ q → q < cs.length → out'.getD i 0 ≤ via m cs vs q i) ∧ (out'.getD i 0 = out.getD i 0 ∨ ∃ q, q < cs.length ∧ out'.getD i 0 = via m cs vs q i) := by
  intro fuel
  induction fuel with
  | zero => intro j out h; omega
  | succ mf ih =>
    intro j out h
    rw [F_impl_FromSupport_L1_s]
    by_cases hj : (j : Int) < (cs.length : Int)
    · rw [decide_eq_true hj, cond_true]
      obtain ⟨i1, o1, e1, e2, e3⟩ := fs_L2 m cs vs j out (out.length - 0 + 1) 0 out (by omega) rfl
      rw [e1]
      simp only [elim_next]
      obtain ⟨j', out', h1, h2, h3⟩ := ih (j + 1) o1 (by omega)
      refine ⟨j', out', h1, by omega, fun i hi => ?_⟩
      obtain ⟨g1, g2, g3⟩ := h3 i (by omega)
      have e4 : o1.getD i 0 = min (out.getD i 0) (via m cs vs j i) := by have := e3 i hi; rw [if_pos (Nat.zero_le _)] at this; exact this
      refine ⟨by omega, fun q hq hl => ?_, ?_⟩
      · rcases Nat.eq_or_lt_of_le hq with rfl | hq
        · omega
        · exact g2 q hq hl
      · rcases g3 with g3 | g3
        · by_cases hm : out.getD i 0 ≤ via m cs vs j i
          · left; omega
          · right; exact ⟨j, by omega, by omega⟩
        · exact .inr g3
    · rw [decide_eq_false hj, cond_false]
      exact ⟨j, out, rfl, rfl, fun i hi => ⟨Int.le_refl _, fun q h1 h2 => by omega, .inl rfl⟩⟩
/-- What is known of a support. -/
structure Ls (m cs : List (List Int)) (vs : List Int) : Prop where
  ks : Ks m ((cs.getD 0 []).length : Int)
  n1 : 1 ≤ cs.length
  n56 : cs.length ≤ 56
  vl : vs.length = cs.length
  cf : ∀ i, i < cs.length → Cf m.length (cs.getD i []) ∧ (cs.getD i []).length = (cs.getD 0 []).length
  el : ∀ i, 0 ≤ vs.getD i 0 ∧ vs.getD i 0 ≤ 99999
theorem l7Listed_iff (m cs : List (List Int)) (vs : List Int) : F_spec_l7Listed m cs vs = true ↔ F_spec_l6Good m = true ∧ (1 ≤ cs.length ∧ cs.length ≤ 56) ∧ vs.length = cs.length ∧
    ∀ i, i < cs.length → ((cs.getD i []).length = (cs.getD 0 []).length ∧ Cf m.length (cs.getD i [])) ∧ 0 ≤ vs.getD i 0 ∧ vs.getD i 0 < 100000 := by
  unfold F_spec_l7Listed
  cases hb : (((!(F_spec_l6Good m)) || (!((decide (1 ≤ (cs.length : Int))) && (decide ((cs.length : Int) ≤ 56))))) || (!decide ((vs.length : Int) = (cs.length : Int)))) with
  | true =>
    rw [cond_true]
    refine ⟨fun h => by (cases h), fun ⟨h1, h2, h3, _⟩ => ?_⟩
    rw [h1, decide_eq_true (by omega), decide_eq_true (by omega), decide_eq_true (by omega)] at hb
    cases hb
  | false =>
    simp only [Bool.or_eq_false_iff, Bool.not_eq_false', Bool.and_eq_true, decide_eq_true_eq] at hb
    rw [cond_false]
    rcases scan (F_spec_l7Listed_L1 m cs vs) cs.length _ (fun _ => false) (fun q j => F_spec_l7Listed_L1_s m cs vs j q) (cs.length - 0 + 1) 0 (by omega) with ⟨h1, h2⟩ | ⟨j, _, h2, h3, h4, _⟩
    · rw [h1]
      simp only [Ctl.elim, true_iff]
      refine ⟨hb.1.1, by omega, by omega, fun i hi => ?_⟩
      have := h2 i (Nat.zero_le _) hi
      simp only [Bool.or_eq_false_iff, Bool.not_eq_false', Bool.and_eq_true, decide_eq_true_eq, l6Config_iff] at this
      exact ⟨⟨by omega, this.1.2⟩, by omega⟩
    · rw [h3]
      simp only [Ctl.elim, Bool.false_eq_true, false_iff]
      rintro ⟨_, _, _, h⟩
      obtain ⟨⟨g1, g2⟩, g3⟩ := h j h2
      rw [decide_eq_true (by omega), (l6Config_iff _ _).2 g2, decide_eq_true g3.1, decide_eq_true (by omega)] at h4
      cases h4
theorem ls_of {m cs : List (List Int)} {vs : List Int} (h1 : F_spec_l6Good m = true) (h2 : 1 ≤ cs.length ∧ cs.length ≤ 56) (h3 : vs.length = cs.length)
    (h4 : ∀ i, i < cs.length → ((cs.getD i []).length = (cs.getD 0 []).length ∧ Cf m.length (cs.getD i [])) ∧ 0 ≤ vs.getD i 0 ∧ vs.getD i 0 < 100000) : Ls m cs vs := by
  have hc := (h4 0 (by omega)).1.2
  refine ⟨⟨((l6Good_iff m).1 h1).1, l6Good_t h1, by have := hc.n1; omega, by have := hc.n3; omega⟩, h2.1, h2.2, h3, fun i hi => ⟨(h4 i hi).1.2, (h4 i hi).1.1⟩, fun i => ?_⟩
  by_cases hi : i < vs.length
  · have := (h4 i (by omega)).2; omega
  · rw [getD_ge _ _ _ (by omega)]; omega
theorem l7Listed_t {m cs : List (List Int)} {vs : List Int} (h : F_spec_l7Listed m cs vs = true) : Ls m cs vs := by
  obtain ⟨h1, h2, h3, h4⟩ := (l7Listed_iff m cs vs).1 h
  exact ls_of h1 h2 h3 h4
theorem listed_guard (m cs : List (List Int)) (vs : List Int) : (((((!(F_impl_IsMetric m)) || (!((decide (1 ≤ (cs.length : Int))) && (decide ((cs.length : Int) ≤ 56))))) || (!decide ((vs.length : Int) = (cs.length : Int)))) || (!(F_impl_isSmall vs))) || (F_slices_ContainsFunc_SSint_Sint cs (fun a => F_impl_FromSupport_1 a m cs))) = !(F_spec_l7Listed m cs vs) := by
  rw [← Bool.not_not ((((( _ || _) || _) || _) || _))]
  congr 1
  rw [Bool.eq_iff_iff, l7Listed_iff]
  have hc : F_slices_ContainsFunc_SSint_Sint cs (fun a => F_impl_FromSupport_1 a m cs) = false ↔ ∀ i, i < cs.length → (cs.getD i []).length = (cs.getD 0 []).length ∧ Cf m.length (cs.getD i []) := by
    rw [Bool.eq_false_iff, ne_eq, contains_ff]
    constructor
    · intro h i hi
      have h2 : ¬ F_impl_FromSupport_1 (cs.getD i []) m cs = true := fun hh => h ⟨i, hi, hh⟩
      unfold F_impl_FromSupport_1 at h2
      simp only [Bool.or_eq_true, Bool.not_eq_true', decide_eq_false_iff_not, not_or, Bool.not_eq_false, Decidable.not_not, isConfig_iff] at h2
      exact ⟨by omega, h2.1⟩
    · rintro h ⟨i, hi, hh⟩
      unfold F_impl_FromSupport_1 at hh
      rw [(isConfig_iff m _).2 (h i hi).2, decide_eq_true (by have := (h i hi).1; omega)] at hh
      cases hh
  simp only [Bool.not_eq_true', Bool.or_eq_false_iff, Bool.not_eq_false', Bool.and_eq_true, decide_eq_true_eq, hc, isMetric_eq]
  have hs : F_impl_isSmall vs = true ↔ ∀ i, i < vs.length → 0 ≤ vs.getD i 0 ∧ vs.getD i 0 < 100000 := areBelow_iff 100000 vs
  rw [hs]
  constructor
  · rintro ⟨⟨⟨⟨g1, g2⟩, g3⟩, g4⟩, g5⟩
    exact ⟨g1, by omega, by omega, fun i hi => ⟨g5 i hi, g4 i (by omega)⟩⟩
  · rintro ⟨g1, g2, g3, g4⟩
    exact ⟨⟨⟨⟨g1, by omega⟩, by omega⟩, fun i hi => (g4 i (by omega)).2⟩, fun i hi => (g4 i hi).1⟩
theorem via_eq {m cs : List (List Int)} {vs : List Int} (h : Ls m cs vs) (j i : Nat) (hj : j < cs.length) (hi : i < (F_impl_configsOf (m.length : Int) ((cs.getD 0 []).length : Int) 0).length) :
    via m cs vs j i = vs.getD j 0 + F_spec_l6Move m (cs.getD j []) ((F_impl_configsOf (m.length : Int) ((cs.getD 0 []).length : Int) 0).getD i []) ∧ 0 ≤ via m cs vs j i ∧ via m cs vs j i ≤ 100296 := by
  obtain ⟨hc, hl⟩ := h.cf j hj
  have hci := h.ks.cfgs i hi
  obtain ⟨p, hp, e1, e2, _⟩ := h.ks.find (costs m (F_impl_configsOf (m.length : Int) ((cs.getD 0 []).length : Int) 0)) hc (by omega)
  have e : via m cs vs j i = vs.getD j 0 + F_impl_Metric_moveCost m (cs.getD j []) ((F_impl_configsOf (m.length : Int) ((cs.getD 0 []).length : Int) 0).getD i []) := by
    unfold via
    rw [worksOf_eq]
    show vs.getD j 0 + ((costs m (F_impl_configsOf (m.length : Int) ((cs.getD 0 []).length : Int) 0)).getD (F_impl_works_index (F_impl_configsOf (m.length : Int) ((cs.getD 0 []).length : Int) 0) (costs m (F_impl_configsOf (m.length : Int) ((cs.getD 0 []).length : Int) 0)) (cs.getD j [])).toNat []).getD i 0 = _
    rw [e2, Int.toNat_natCast, costs_el _ _ _ _ hp hi, e1]
  have hb := moveCost_le h.ks.tp hc hci.1 (by omega)
  have hv := h.el j
  rw [e, move_eq h.ks.tp hc hci.1 (by omega)]
  exact ⟨rfl, by omega, by omega⟩
theorem ss_L2 {m cs : List (List Int)} {vs : List Int} (h : Ls m cs vs) (i : Nat) (hi : i < (F_spec_l6Configs (m.length : Int) ((cs.getD 0 []).length : Int)).length) : ∀ fuel j least, cs.length - j < fuel → 0 ≤ least →
    ∃ l' j', F_spec_FromSupport_L2 m cs vs i fuel (least, j) = .next (l', j') ∧ l' ≤ least ∧ (∀ q, j ≤ q → q < cs.length → l' ≤ via m cs vs q i) ∧ (l' = least ∨ ∃ q, q < cs.length ∧ l' = via m cs vs q i) := by
  have hi' : i < (F_impl_configsOf (m.length : Int) ((cs.getD 0 []).length : Int) 0).length := by rw [← h.ks.same]; exact hi
  intro fuel
  induction fuel with
  | zero => intro j least h; omega
  | succ mf ih =>
    intro j least hf h0
    rw [F_spec_FromSupport_L2_s]
    by_cases hj : (j : Int) < (cs.length : Int)
    · have hv := via_eq h j i (by omega) hi'
      rw [decide_eq_true hj, cond_true, decide_eq_false (show ¬ least < 0 by omega), Bool.false_or, h.ks.same, ← hv.1]
      by_cases hd : via m cs vs j i < least
      · rw [decide_eq_true hd, cond_true]
        obtain ⟨l', j', h1, h2, h3, h4⟩ := ih (j + 1) (via m cs vs j i) (by omega) hv.2.1
        refine ⟨l', j', h1, by omega, fun q hq hk => ?_, ?_⟩
        · rcases Nat.eq_or_lt_of_le hq with rfl | hq
          · exact h2
          · exact h3 q hq hk
        · rcases h4 with h4 | h4
          · exact .inr ⟨j, by omega, h4⟩
          · exact .inr h4
      · rw [decide_eq_false hd, cond_false]
        obtain ⟨l', j', h1, h2, h3, h4⟩ := ih (j + 1) least (by omega) h0
        refine ⟨l', j', h1, h2, fun q hq hk => ?_, h4⟩
        rcases Nat.eq_or_lt_of_le hq with rfl | hq
        · omega
        · exact h3 q hq hk
    · rw [decide_eq_false hj, cond_false]
      exact ⟨least, j, rfl, Int.le_refl _, fun q h1 h2 => by omega, .inl rfl⟩
theorem ss_L2' {m cs : List (List Int)} {vs : List Int} (h : Ls m cs vs) (i : Nat) (hi : i < (F_spec_l6Configs (m.length : Int) ((cs.getD 0 []).length : Int)).length) :
    ∃ l' j', F_spec_FromSupport_L2 m cs vs i (cs.length - 0 + 1) (-1, 0) = .next (l', j') ∧ (∀ q, q < cs.length → l' ≤ via m cs vs q i) ∧ ∃ q, q < cs.length ∧ l' = via m cs vs q i := by
  have hi' : i < (F_impl_configsOf (m.length : Int) ((cs.getD 0 []).length : Int) 0).length := by rw [← h.ks.same]; exact hi
  have hv := via_eq h 0 i (by have := h.n1; omega) hi'
  obtain ⟨l', j', h1, h2, h3, h4⟩ := ss_L2 h i hi (cs.length - 0) 1 (via m cs vs 0 i) (by have := h.n1; omega) hv.2.1
  refine ⟨l', j', ?_, fun q hq => ?_, ?_⟩
  · rw [F_spec_FromSupport_L2_s, decide_eq_true (show ((0 : Nat) : Int) < (cs.length : Int) by have := h.n1; omega), cond_true, show decide ((-1 : Int) < 0) = true from rfl, Bool.true_or, cond_true, h.ks.same, ← hv.1]
    exact h1
  · rcases Nat.eq_zero_or_pos q with rfl | hp
    · exact h2
    · exact h3 q hp hq
  · rcases h4 with h4 | h4
    · exact ⟨0, by have := h.n1; omega, h4⟩
    · exact h4
theorem ss_L1 {m cs : List (List Int)} {vs : List Int} (h : Ls m cs vs) {full : List Int} (hl : full.length = (F_spec_l6Configs (m.length : Int) ((cs.getD 0 []).length : Int)).length)
    (hlow : ∀ i, i < full.length → ∀ q, q < cs.length → full.getD i 0 ≤ via m cs vs q i) (hhit : ∀ i, i < full.length → ∃ q, q < cs.length ∧ full.getD i 0 = via m cs vs q i) : ∀ fuel i, full.length - i < fuel → i ≤ full.length →
    ((∀ p, i ≤ p → p < full.length → full.getD p 0 ≤ 99999) → (F_spec_FromSupport_L1 m cs vs fuel (full.take i, i)).elim (fun s => (s.1, true)) (fun r => r) = (full, true)) ∧
    (¬ (∀ p, i ≤ p → p < full.length → full.getD p 0 ≤ 99999) → (F_spec_FromSupport_L1 m cs vs fuel (full.take i, i)).elim (fun s => (s.1, true)) (fun r => r) = ([], false)) := by
  intro fuel
  induction fuel with
  | zero => intro i h; omega
  | succ mf ih =>
    intro i hf hi
    rw [F_spec_FromSupport_L1_s]
    by_cases hlt : (i : Int) < ((F_spec_l6Configs (m.length : Int) ((cs.getD 0 []).length : Int)).length : Int)
    · obtain ⟨l', j', h1, h2, q, hq, h3⟩ := ss_L2' h i (by omega)
      have e : l' = full.getD i 0 := by
        obtain ⟨p, hp, g⟩ := hhit i (by omega)
        have := hlow i (by omega) q hq
        have := h2 p hp
        omega
      subst e
      rw [decide_eq_true hlt, cond_true, h1]
      simp only [elim_next]
      by_cases hb : 99999 < full.getD i 0
      · rw [decide_eq_true hb, cond_true]
        exact ⟨fun hh => by have := hh i (Nat.le_refl _) (by omega); omega, fun _ => rfl⟩
      · rw [decide_eq_false hb, cond_false]
        have e2 : full.take i ++ [full.getD i 0] = full.take (i + 1) := by
          rw [List.take_succ_eq_append_getElem (by omega), getD_lt full i 0 (by omega)]
        rw [e2]
        obtain ⟨i1, i2⟩ := ih (i + 1) (by omega) (by omega)
        refine ⟨fun hh => i1 (fun p hp hl => hh p (by omega) hl), fun hh => i2 (fun hh2 => hh (fun p hp hl => ?_))⟩
        rcases Nat.eq_or_lt_of_le hp with rfl | hp
        · omega
        · exact hh2 p hp hl
    · rw [decide_eq_false hlt, cond_false, elim_next, List.take_of_length_le (by omega)]
      exact ⟨fun _ => rfl, fun hh => absurd (fun p h1 h2 => by omega) hh⟩
theorem fromSupport_eq (m cs : List (List Int)) (vs : List Int) : F_impl_FromSupport m cs vs = F_spec_FromSupport m cs vs := by
  unfold F_impl_FromSupport F_spec_FromSupport
  rw [listed_guard]
  cases hb : F_spec_l7Listed m cs vs with
  | false => rfl
  | true =>
    have h := l7Listed_t hb
    have h56 := h.ks.c56
    have hw1 : (F_impl_worksOf m ((cs.getD 0 []).length : Int)).1.length = (F_impl_configsOf (m.length : Int) ((cs.getD 0 []).length : Int) 0).length := by rw [worksOf_eq]
    simp only [Bool.not_true, cond_false]
    rw [repeat_eq _ _ (by omega) (by omega), Int.toNat_natCast, hw1]
    obtain ⟨j', out, h1, h2, h3⟩ := fs_L1 m cs vs (cs.length - 0 + 1) 0 (List.replicate (F_impl_configsOf (m.length : Int) ((cs.getD 0 []).length : Int) 0).length 1073741824) (by omega)
    rw [List.length_replicate] at h2 h3
    have hlow : ∀ i, i < out.length → ∀ q, q < cs.length → out.getD i 0 ≤ via m cs vs q i := fun i hi q hq => (h3 i (by omega)).2.1 q (Nat.zero_le _) hq
    have hhit : ∀ i, i < out.length → ∃ q, q < cs.length ∧ out.getD i 0 = via m cs vs q i := fun i hi => by
      rcases (h3 i (by omega)).2.2 with e | e
      · rw [getD_rep _ _ _ _ (by omega)] at e
        have := hlow i hi 0 (by have := h.n1; omega)
        have := (via_eq h 0 i (by have := h.n1; omega) (by omega)).2.2
        omega
      · exact e
    have hs := ss_L1 h (full := out) (by rw [h.ks.same]; exact h2) hlow hhit ((F_spec_l6Configs (m.length : Int) ((cs.getD 0 []).length : Int)).length - 0 + 1) 0 (by rw [h.ks.same]; omega) (Nat.zero_le _)
    rw [List.take_zero] at hs
    rw [h1]
    simp only [elim_next]
    have e : (F_spec_FromSupport_L1 m cs vs ((F_spec_l6Configs (m.length : Int) ((cs.getD 0 []).length : Int)).length - 0 + 1) ([], 0)).elim (fun x => (x.1, true)) (fun r => r) = (bif !(F_impl_isSmall out) then ([], false) else (out, true)) := by
      have hsm : F_impl_isSmall out = true ↔ ∀ p, 0 ≤ p → p < out.length → out.getD p 0 ≤ 99999 := by
        show F_impl_areBelow 100000 out = true ↔ _
        rw [areBelow_iff]
        refine ⟨fun hh p _ hp => by have := hh p hp; omega, fun hh p hp => ⟨?_, by have := hh p (Nat.zero_le _) hp; omega⟩⟩
        obtain ⟨q, hq, g⟩ := hhit p hp
        have := (via_eq h q p hq (by omega)).2.1
        omega
      cases hc : F_impl_isSmall out with
      | true => exact hs.1 (hsm.1 hc)
      | false => exact hs.2 (fun hh => by rw [hsm.2 hh] at hc; cases hc)
    rw [← e]
theorem fromSupport_len (m cs : List (List Int)) (vs : List Int) : (F_impl_FromSupport m cs vs).1.length ≤ 56 := by
  unfold F_impl_FromSupport
  rw [listed_guard]
  cases hb : F_spec_l7Listed m cs vs with
  | false => simp
  | true =>
    have h := l7Listed_t hb
    have h56 := h.ks.c56
    have hw1 : (F_impl_worksOf m ((cs.getD 0 []).length : Int)).1.length = (F_impl_configsOf (m.length : Int) ((cs.getD 0 []).length : Int) 0).length := by rw [worksOf_eq]
    simp only [Bool.not_true, cond_false]
    rw [repeat_eq _ _ (by omega) (by omega), Int.toNat_natCast, hw1]
    obtain ⟨j', out, h1, h2, h3⟩ := fs_L1 m cs vs (cs.length - 0 + 1) 0 (List.replicate (F_impl_configsOf (m.length : Int) ((cs.getD 0 []).length : Int) 0).length 1073741824) (by omega)
    rw [List.length_replicate] at h2
    rw [h1]
    simp only [elim_next]
    cases F_impl_isSmall out
    · simp
    · simp only [Bool.not_true, cond_false]; omega
theorem law_FromSupport (m cs : List (List Int)) (vs : List Int) : F_laws_FnExactFromSupport m cs vs = true := by
  unfold F_laws_FnExactFromSupport
  simp only [toMetric_eq, toIntS_eq, toIntSS_eq, fromSupport_eq, eqMetric_refl, eqIntS_refl, eqIntSS_refl, markIntS_eq, markMetric_eq, markIntSS_eq, heldIntS_iota]
  have h1 : ¬ ((1 : Int) + (total m : Int) + (total cs : Int) + (vs.length : Int) < 0) := by omega
  have h2 : ¬ ((1 : Int) + ((F_spec_FromSupport m cs vs).1.length : Int) < 0) := by omega
  simp [h1, h2]
end

section

/-! the tables of what is left -/
theorem left_L1 (m : List (List Int)) (a reqs : List Int) : ∀ fuel (k : Int) t, -1 ≤ k → k < reqs.length → (k + 1).toNat < fuel → t.length = reqs.length + 1 → ∃ t', F_impl_LeastSchedule_L1 m a reqs fuel (k, t) = .next (-1, t') ∧ t'.length = reqs.length + 1 ∧
    (∀ q : Nat, k < (q : Int) → t'.getD q [] = t.getD q []) ∧ ∀ q : Nat, (q : Int) ≤ k → t'.getD q [] = F_impl_works_next (F_impl_worksOf m (a.length : Int)).1 (F_impl_worksOf m (a.length : Int)).2 (t'.getD (q + 1) []) (reqs.getD q 0) := by
  intro fuel
  induction fuel with
  | zero => intro k t h1 h2 h3; omega
  | succ mf ih =>
    intro k t h1 h2 h3 hl
    rw [F_impl_LeastSchedule_L1_s]
    by_cases hk : 0 ≤ k
    · rw [decide_eq_true hk, cond_true]
      obtain ⟨t', g1, g2, g3, g4⟩ := ih (k - 1) (t.set k.toNat (F_impl_works_next (F_impl_worksOf m (a.length : Int)).1 (F_impl_worksOf m (a.length : Int)).2 (t.getD (k + 1).toNat []) (reqs.getD k.toNat 0))) (by omega) (by omega) (by omega) (by rw [List.length_set]; exact hl)
      refine ⟨t', g1, g2, fun q hq => ?_, fun q hq => ?_⟩
      · rw [g3 q (by omega), getD_set_ne _ _ _ _ _ (by omega)]
      · by_cases e : (q : Int) = k
        · have e2 : k.toNat = q := by omega
          rw [g3 q (by omega), g3 (q + 1) (by omega), e2, getD_set_eq _ _ _ _ (by omega), getD_set_ne _ _ _ _ _ (by omega), show (k + 1).toNat = q + 1 by omega]
        · exact g4 q (by omega)
    · rw [decide_eq_false hk, cond_false]
      have e : k = -1 := by omega
      subst e
      exact ⟨t, rfl, hl, fun q _ => rfl, fun q hq => by omega⟩
/-- One row of the reference's table. -/
theorem rest_L4 {m : List (List Int)} {k : Int} (hk : Ks m k) (reqs : List Int) (t : Int) (i : Nat) (hi : i < (F_spec_l6Configs (m.length : Int) k).length) (tb : List (List Int)) (hw : ∀ p, 0 ≤ (tb.getD (t + 1).toNat []).getD p 0) : ∀ fuel s least, k.toNat - s < fuel → 0 ≤ least →
    ∃ l' s', F_spec_l7Rest_L4 m (F_spec_l6Configs (m.length : Int) k) reqs t i tb fuel (least, s) = .next (l', s') ∧ l' ≤ least ∧ (∀ q, s ≤ q → q < k.toNat → l' ≤ way m (F_spec_l6Configs (m.length : Int) k) (tb.getD (t + 1).toNat []) (reqs.getD t.toNat 0) i q) ∧
      (l' = least ∨ ∃ q, q < k.toNat ∧ l' = way m (F_spec_l6Configs (m.length : Int) k) (tb.getD (t + 1).toNat []) (reqs.getD t.toNat 0) i q) := by
  have hcl := (hk.scf i hi).2
  have hS : ∀ s, 0 ≤ way m (F_spec_l6Configs (m.length : Int) k) (tb.getD (t + 1).toNat []) (reqs.getD t.toNat 0) i s := fun s => by
    have h1 := hw (F_spec_l7Index (F_spec_l6Configs (m.length : Int) k) (F_spec_l7Swap ((F_spec_l6Configs (m.length : Int) k).getD i []) (s : Int) (reqs.getD t.toNat 0))).toNat
    have h2 := (el_bd hk.tp (((F_spec_l6Configs (m.length : Int) k).getD i []).getD s 0).toNat (reqs.getD t.toNat 0).toNat).1
    unfold way; unfold el at h2; omega
  have comm : ∀ s : Nat, (m.getD (((F_spec_l6Configs (m.length : Int) k).getD i []).getD s 0).toNat []).getD (reqs.getD t.toNat 0).toNat 0 + (tb.getD (t + 1).toNat []).getD (F_spec_l7Index (F_spec_l6Configs (m.length : Int) k) (F_spec_l7Swap ((F_spec_l6Configs (m.length : Int) k).getD i []) (s : Int) (reqs.getD t.toNat 0))).toNat 0 = way m (F_spec_l6Configs (m.length : Int) k) (tb.getD (t + 1).toNat []) (reqs.getD t.toNat 0) i s := fun s => Int.add_comm _ _
  intro fuel
  induction fuel with
  | zero => intro s least h; omega
  | succ mf ih =>
    intro s least h h0
    rw [F_spec_l7Rest_L4_s, comm]
    by_cases hs : (s : Int) < (((F_spec_l6Configs (m.length : Int) k).getD i []).length : Int)
    · rw [decide_eq_true hs, cond_true, decide_eq_false (show ¬ least < 0 by omega), Bool.false_or]
      by_cases hd : way m (F_spec_l6Configs (m.length : Int) k) (tb.getD (t + 1).toNat []) (reqs.getD t.toNat 0) i s < least
      · rw [decide_eq_true hd, cond_true]
        obtain ⟨l', s', h1, h2, h3, h4⟩ := ih (s + 1) _ (by omega) (hS s)
        refine ⟨l', s', h1, by omega, fun q hq hk => ?_, ?_⟩
        · rcases Nat.eq_or_lt_of_le hq with rfl | hq
          · exact h2
          · exact h3 q hq hk
        · rcases h4 with h4 | h4
          · exact .inr ⟨s, by omega, h4⟩
          · exact .inr h4
      · rw [decide_eq_false hd, cond_false]
        obtain ⟨l', s', h1, h2, h3, h4⟩ := ih (s + 1) least (by omega) h0
        refine ⟨l', s', h1, h2, fun q hq hk => ?_, h4⟩
        rcases Nat.eq_or_lt_of_le hq with rfl | hq
        · omega
        · exact h3 q hq hk
    · rw [decide_eq_false hs, cond_false]
      exact ⟨least, s, rfl, Int.le_refl _, fun q h1 h2 => by omega, .inl rfl⟩
theorem rest_L4' {m : List (List Int)} {k : Int} (hk : Ks m k) (reqs : List Int) (t : Int) (i : Nat) (hi : i < (F_spec_l6Configs (m.length : Int) k).length) (tb : List (List Int)) (hw : ∀ p, 0 ≤ (tb.getD (t + 1).toNat []).getD p 0) :
    ∃ l' s', F_spec_l7Rest_L4 m (F_spec_l6Configs (m.length : Int) k) reqs t i tb (((F_spec_l6Configs (m.length : Int) k).getD i []).length - 0 + 1) (-1, 0) = .next (l', s') ∧ (∀ q, q < k.toNat → l' ≤ way m (F_spec_l6Configs (m.length : Int) k) (tb.getD (t + 1).toNat []) (reqs.getD t.toNat 0) i q) ∧
      ∃ q, q < k.toNat ∧ l' = way m (F_spec_l6Configs (m.length : Int) k) (tb.getD (t + 1).toNat []) (reqs.getD t.toNat 0) i q := by
  have hcl := (hk.scf i hi).2
  have hk1 := hk.k1
  have h0 : 0 ≤ way m (F_spec_l6Configs (m.length : Int) k) (tb.getD (t + 1).toNat []) (reqs.getD t.toNat 0) i 0 := by
    have h1 := hw (F_spec_l7Index (F_spec_l6Configs (m.length : Int) k) (F_spec_l7Swap ((F_spec_l6Configs (m.length : Int) k).getD i []) ((0 : Nat) : Int) (reqs.getD t.toNat 0))).toNat
    have h2 := (el_bd hk.tp (((F_spec_l6Configs (m.length : Int) k).getD i []).getD 0 0).toNat (reqs.getD t.toNat 0).toNat).1
    unfold way; unfold el at h2; omega
  obtain ⟨l', s', h1, h2, h3, h4⟩ := rest_L4 hk reqs t i hi tb hw (((F_spec_l6Configs (m.length : Int) k).getD i []).length - 0) 1 _ (by omega) h0
  refine ⟨l', s', ?_, fun q hq => ?_, ?_⟩
  · rw [F_spec_l7Rest_L4_s, decide_eq_true (show ((0 : Nat) : Int) < (((F_spec_l6Configs (m.length : Int) k).getD i []).length : Int) by omega), cond_true, show decide ((-1 : Int) < 0) = true from rfl, Bool.true_or, cond_true]
    rw [← h1]
    congr 2
    exact Int.add_comm _ _
  · rcases Nat.eq_zero_or_pos q with rfl | hp
    · exact h2
    · exact h3 q hp hq
  · rcases h4 with h4 | h4
    · exact ⟨0, by omega, h4⟩
    · exact h4
theorem rest_L3 {m : List (List Int)} {k : Int} (hk : Ks m k) (reqs : List Int) (t : Nat) (w : List Int) (hw : ∀ p, 0 ≤ w.getD p 0) : ∀ fuel i tb, (F_spec_l6Configs (m.length : Int) k).length - i < fuel → t + 1 < tb.length → tb.getD (t + 1) [] = w → (tb.getD t []).length = (F_spec_l6Configs (m.length : Int) k).length → i ≤ (F_spec_l6Configs (m.length : Int) k).length →
    ∃ i' tb' , F_spec_l7Rest_L3 m (F_spec_l6Configs (m.length : Int) k) reqs (t : Int) fuel (i, tb) = .next (i', tb') ∧ tb'.length = tb.length ∧ (∀ q, q ≠ t → tb'.getD q [] = tb.getD q []) ∧ (tb'.getD t []).length = (F_spec_l6Configs (m.length : Int) k).length ∧
      (∀ p, p < i → (tb'.getD t []).getD p 0 = (tb.getD t []).getD p 0) ∧ ∀ p, i ≤ p → p < (F_spec_l6Configs (m.length : Int) k).length → (∀ q, q < k.toNat → (tb'.getD t []).getD p 0 ≤ way m (F_spec_l6Configs (m.length : Int) k) w (reqs.getD t 0) p q) ∧ ∃ q, q < k.toNat ∧ (tb'.getD t []).getD p 0 = way m (F_spec_l6Configs (m.length : Int) k) w (reqs.getD t 0) p q := by
  have e1 : ((t : Int) + 1).toNat = t + 1 := by omega
  intro fuel
  induction fuel with
  | zero => intro i tb h; omega
  | succ mf ih =>
    intro i tb h hl hr hrow hi
    rw [F_spec_l7Rest_L3_s]
    by_cases hlt : (i : Int) < ((F_spec_l6Configs (m.length : Int) k).length : Int)
    · obtain ⟨l', s', g1, g2, g3⟩ := rest_L4' hk reqs (t : Int) i (by omega) tb (by rw [e1, hr]; exact hw)
      rw [e1, hr, Int.toNat_natCast] at g2 g3
      rw [decide_eq_true hlt, cond_true, g1]
      simp only [elim_next, Int.toNat_natCast]
      obtain ⟨i', tb', h1, h2, h3, h4, h5, h6⟩ := ih (i + 1) (tb.set t ((tb.getD t []).set i l')) (by omega) (by rw [List.length_set]; exact hl) (by rw [getD_set_ne _ _ _ _ _ (by omega)]; exact hr) (by rw [getD_set_eq _ _ _ _ (by omega), List.length_set]; exact hrow) (by omega)
      rw [getD_set_eq _ _ _ _ (by omega)] at h5
      refine ⟨i', tb', h1, by rw [h2, List.length_set], fun q hq => by rw [h3 q hq, getD_set_ne _ _ _ _ _ (Ne.symm hq)], h4, fun p hp => by rw [h5 p (by omega), getD_set_ne _ _ _ _ _ (by omega)], fun p hp hpl => ?_⟩
      by_cases e : p = i
      · subst e
        rw [h5 p (by omega), getD_set_eq _ _ _ _ (by omega)]
        exact ⟨g2, g3⟩
      · exact h6 p (by omega) hpl
    · rw [decide_eq_false hlt, cond_false]
      exact ⟨i, tb, rfl, rfl, fun q _ => rfl, hrow, fun p _ => rfl, fun p h1 h2 => by omega⟩
theorem ns_uniq {m cs : List (List Int)} {k : Int} {w : List Int} {r : Int} {a b : List Int} (ha : Ns m cs k w r a) (hb : Ns m cs k w r b) : a = b := by
  refine list_ext_getD 0 (ha.len.trans hb.len.symm) fun i hi => ?_
  rw [ha.len] at hi
  obtain ⟨q, hq, e⟩ := ha.hit i hi
  obtain ⟨p, hp, e2⟩ := hb.hit i hi
  have h1 := ha.low i hi p hp
  have h2 := hb.low i hi q hq
  omega
theorem rest_L2 {m : List (List Int)} {k : Int} (hk : Ks m k) (reqs : List Int) : ∀ fuel (t : Int) tb, -1 ≤ t → t < reqs.length → (t + 1).toNat < fuel → tb.length = reqs.length + 1 → (∀ q, q < tb.length → (tb.getD q []).length = (F_spec_l6Configs (m.length : Int) k).length) → (∀ q : Nat, t < (q : Int) → ∀ p, 0 ≤ (tb.getD q []).getD p 0) →
    ∃ tb', F_spec_l7Rest_L2 m (F_spec_l6Configs (m.length : Int) k) reqs fuel (t, tb) = .next (-1, tb') ∧ tb'.length = reqs.length + 1 ∧ (∀ q : Nat, t < (q : Int) → tb'.getD q [] = tb.getD q []) ∧
      ∀ q : Nat, (q : Int) ≤ t → tb'.getD q [] = F_spec_l7Next m k (tb'.getD (q + 1) []) (reqs.getD q 0) := by
  intro fuel
  induction fuel with
  | zero => intro t tb h1 h2 h3; omega
  | succ mf ih =>
    intro t tb h1 h2 h3 hl hrow hpos
    rw [F_spec_l7Rest_L2_s]
    by_cases ht : 0 ≤ t
    · obtain ⟨n, rfl⟩ : ∃ n : Nat, t = n := ⟨t.toNat, by omega⟩
      rw [decide_eq_true ht, cond_true]
      obtain ⟨i', tb1, g1, g2, g3, g4, _, g6⟩ := rest_L3 hk reqs n (tb.getD (n + 1) []) (hpos (n + 1) (by omega)) ((F_spec_l6Configs (m.length : Int) k).length - 0 + 1) 0 tb (by omega) (by omega) rfl (hrow n (by omega)) (Nat.zero_le _)
      have hns : Ns m (F_impl_configsOf (m.length : Int) k 0) k (tb.getD (n + 1) []) (reqs.getD n 0) (tb1.getD n []) := by
        rw [← hk.same]
        exact ⟨g4, fun p hp => (g6 p (Nat.zero_le _) hp).1, fun p hp => (g6 p (Nat.zero_le _) hp).2⟩
      have hrn : tb1.getD n [] = F_spec_l7Next m k (tb.getD (n + 1) []) (reqs.getD n 0) := ns_uniq hns (ns_next hk (hpos (n + 1) (by omega)) _)
      rw [g1]
      simp only [elim_next]
      obtain ⟨tb', e1, e2, e3, e4⟩ := ih ((n : Int) - 1) tb1 (by omega) (by omega) (by omega) (by omega) (fun q hq => by
        by_cases e : q = n
        · subst e; exact g4
        · rw [g3 q e]; exact hrow q (by omega)) (fun q hq p => by
        by_cases e : q = n
        · subst e
          rw [hrn]
          have hns2 := ns_next hk (hpos (q + 1) (by omega)) (reqs.getD q 0)
          by_cases hp : p < (F_impl_configsOf (m.length : Int) k 0).length
          · obtain ⟨s, _, e⟩ := hns2.hit p hp
            rw [e]
            have h1 := hpos (q + 1) (by omega) (F_spec_l7Index (F_impl_configsOf (m.length : Int) k 0) (F_spec_l7Swap ((F_impl_configsOf (m.length : Int) k 0).getD p []) (s : Int) (reqs.getD q 0))).toNat
            have h2 := (el_bd hk.tp (((F_impl_configsOf (m.length : Int) k 0).getD p []).getD s 0).toNat (reqs.getD q 0).toNat).1
            unfold way; unfold el at h2; omega
          · rw [getD_ge _ _ _ (by rw [hns2.len]; omega)]; omega
        · rw [g3 q e]; exact hpos q (by omega) p)
      refine ⟨tb', e1, e2, fun q hq => by rw [e3 q (by omega), g3 q (by omega)], fun q hq => ?_⟩
      by_cases e : q = n
      · subst e
        rw [e3 q (by omega), e3 (q + 1) (by omega), hrn, g3 (q + 1) (by omega)]
      · exact e4 q (by omega)
    · rw [decide_eq_false ht, cond_false]
      have e : t = -1 := by omega
      subst e
      exact ⟨tb, rfl, hl, fun q _ => rfl, fun q hq => by omega⟩
theorem rest_L1 (cs : List (List Int)) (reqs : List Int) : ∀ fuel out i, reqs.length + 1 - i < fuel → i ≤ reqs.length + 1 → ∃ i', F_spec_l7Rest_L1 cs reqs fuel (out, i) = .next (out ++ List.replicate (reqs.length + 1 - i) (List.replicate cs.length 0), i') := by
  intro fuel
  induction fuel with
  | zero => intro out i h; omega
  | succ mf ih =>
    intro out i h hi
    rw [F_spec_l7Rest_L1_s]
    by_cases hlt : (i : Int) ≤ (reqs.length : Int)
    · rw [decide_eq_true hlt, cond_true]
      obtain ⟨i', e⟩ := ih (out ++ [List.replicate cs.length 0]) (i + 1) (by omega) (by omega)
      refine ⟨i', ?_⟩
      rw [e, show reqs.length + 1 - i = (reqs.length + 1 - (i + 1)) + 1 by omega, List.replicate_succ, List.append_assoc]; rfl
    · rw [decide_eq_false hlt, cond_false, show reqs.length + 1 - i = 0 by omega]
      exact ⟨i, by simp⟩
/-- What is left from each place on. -/
structure Rt (m : List (List Int)) (k : Int) (reqs : List Int) (tb : List (List Int)) : Prop where
  len : tb.length = reqs.length + 1
  last : tb.getD reqs.length [] = List.replicate (F_impl_configsOf (m.length : Int) k 0).length 0
  step : ∀ q, q < reqs.length → tb.getD q [] = F_spec_l7Next m k (tb.getD (q + 1) []) (reqs.getD q 0)
theorem rest_rt {m : List (List Int)} {k : Int} (hk : Ks m k) (reqs : List Int) : Rt m k reqs (F_spec_l7Rest m (F_spec_l6Configs (m.length : Int) k) reqs) := by
  unfold F_spec_l7Rest
  obtain ⟨i', e1⟩ := rest_L1 (F_spec_l6Configs (m.length : Int) k) reqs (reqs.length + 1 - 0 + 1) [] 0 (by omega) (Nat.zero_le _)
  rw [e1, List.nil_append, Nat.sub_zero]
  simp only [elim_next]
  have hg : ∀ q, q < reqs.length + 1 → (List.replicate (reqs.length + 1) (List.replicate (F_spec_l6Configs (m.length : Int) k).length (0 : Int))).getD q [] = List.replicate (F_spec_l6Configs (m.length : Int) k).length 0 := fun q hq => getD_rep _ _ _ _ hq
  obtain ⟨tb', h1, h2, h3, h4⟩ := rest_L2 hk reqs (((reqs.length : Int) - 1 + 1).toNat + 1) ((reqs.length : Int) - 1) (List.replicate (reqs.length + 1) (List.replicate (F_spec_l6Configs (m.length : Int) k).length 0)) (by omega) (by omega) (by omega) (by simp) (fun q hq => by rw [hg q (by simpa using hq)]; simp) (fun q hq p => by
    by_cases h : q < reqs.length + 1
    · rw [hg q h]
      by_cases hp : p < (F_spec_l6Configs (m.length : Int) k).length
      · rw [getD_rep _ _ _ _ hp]; omega
      · rw [getD_ge _ _ _ (by simp; omega)]; omega
    · rw [getD_ge _ q [] (by simp; omega), getD_ge [] p 0 (Nat.zero_le _)]; omega)
  rw [h1]
  simp only [elim_next]
  exact ⟨h2, by rw [h3 _ (by omega), hg _ (by omega), hk.same], fun q hq => h4 q (by omega)⟩
theorem rt_bd {m : List (List Int)} {k : Int} (hk : Ks m k) {reqs : List Int} {tb : List (List Int)} (h : Rt m k reqs tb) : ∀ d q, q + d = reqs.length → (tb.getD q []).length = (F_impl_configsOf (m.length : Int) k 0).length ∧ ∀ p, 0 ≤ (tb.getD q []).getD p 0 ∧ (tb.getD q []).getD p 0 ≤ 99 * (d : Int) := by
  intro d
  induction d with
  | zero =>
    intro q hq
    have e : q = reqs.length := by omega
    subst e
    rw [h.last]
    refine ⟨by simp, fun p => ?_⟩
    by_cases hp : p < (F_impl_configsOf (m.length : Int) k 0).length
    · rw [getD_rep _ _ _ _ hp]; omega
    · rw [getD_ge _ _ _ (by simp; omega)]; omega
  | succ d ih =>
    intro q hq
    obtain ⟨h1, h2⟩ := ih (q + 1) (by omega)
    rw [h.step q (by omega)]
    have := lnext_bd hk (by omega) h2 (reqs.getD q 0)
    exact ⟨this.1, fun p => by have := this.2 p; omega⟩
theorem left_rt {m : List (List Int)} {a reqs : List Int} (h : F_impl_isServed m a reqs = true) {t' : List (List Int)} (hl : t'.length = reqs.length + 1)
    (hlast : t'.getD reqs.length [] = List.replicate (F_impl_configsOf (m.length : Int) (a.length : Int) 0).length 0)
    (hst : ∀ q : Nat, q < reqs.length → t'.getD q [] = F_impl_works_next (F_impl_configsOf (m.length : Int) (a.length : Int) 0) (costs m (F_impl_configsOf (m.length : Int) (a.length : Int) 0)) (t'.getD (q + 1) []) (reqs.getD q 0)) :
    Rt m (a.length : Int) reqs t' ∧ ∀ d q, q + d = reqs.length → Lp m (F_impl_configsOf (m.length : Int) (a.length : Int) 0) (99 * (d : Int)) (t'.getD q []) := by
  have hs := isServed_t h
  have ht := served_tri h
  have hk := hs.ks
  have key : ∀ d q, q + d = reqs.length → Lp m (F_impl_configsOf (m.length : Int) (a.length : Int) 0) (99 * (d : Int)) (t'.getD q []) := by
    intro d
    induction d with
    | zero =>
      intro q hq
      have e : q = reqs.length := by omega
      subst e
      rw [hlast]
      refine ⟨by simp, fun p => ?_, fun i j hi hj => ?_⟩
      · by_cases hp : p < (F_impl_configsOf (m.length : Int) (a.length : Int) 0).length
        · rw [getD_rep _ _ _ _ hp]; omega
        · rw [getD_ge _ _ _ (by simp; omega)]; omega
      · rw [getD_rep _ _ _ _ hi, getD_rep _ _ _ _ hj]
        have := (moveCost_le hk.tp (hk.cfgs i hi).1 (hk.cfgs j hj).1 (hk.eqlen i j hi hj)).1
        omega
    | succ d ih =>
      intro q hq
      have hr := hs.el q (by omega)
      have h60 := hs.r60
      have := next_lp hk ht (by omega) (by omega) (ih (q + 1) (by omega)) hr.1 hr.2
      rw [← hst q (by omega)] at this
      rwa [show 99 * (d : Int) + 99 = 99 * ((d + 1 : Nat) : Int) by omega] at this
  refine ⟨⟨hl, hlast, fun q hq => ?_⟩, key⟩
  have hr := hs.el q hq
  have h60 := hs.r60
  rw [hst q hq, next_same hk (by omega) (key (reqs.length - (q + 1)) (q + 1) (by omega)) hr.1 hr.2]
theorem rt_uniq {m : List (List Int)} {k : Int} {reqs : List Int} {a b : List (List Int)} (ha : Rt m k reqs a) (hb : Rt m k reqs b) : a = b := by
  have key : ∀ d q, q + d = reqs.length → a.getD q [] = b.getD q [] := by
    intro d
    induction d with
    | zero =>
      intro q hq
      have e : q = reqs.length := by omega
      subst e
      rw [ha.last, hb.last]
    | succ d ih =>
      intro q hq
      rw [ha.step q (by omega), hb.step q (by omega), ih (q + 1) (by omega)]
  exact list_ext_getD [] (ha.len.trans hb.len.symm) fun q hq => key (reqs.length - q) q (by rw [ha.len] at hq; omega)
theorem left_eq {m : List (List Int)} {a reqs : List Int} (h : F_impl_isServed m a reqs = true) : F_impl_LeastSchedule_L1 m a reqs (((reqs.length : Int) - 1 + 1).toNat + 1) ((reqs.length : Int) - 1, (List.replicate (reqs.length + 1) ([] : List Int)).set reqs.length (List.replicate (F_impl_worksOf m (a.length : Int)).1.length (0 : Int))) =
    .next (-1, F_spec_l7Rest m (F_spec_l6Configs (m.length : Int) (a.length : Int)) reqs) := by
  have hs := isServed_t h
  obtain ⟨t', h1, h2, h3, h4⟩ := left_L1 m a reqs (((reqs.length : Int) - 1 + 1).toNat + 1) ((reqs.length : Int) - 1) ((List.replicate (reqs.length + 1) ([] : List Int)).set reqs.length (List.replicate (F_impl_worksOf m (a.length : Int)).1.length (0 : Int))) (by omega) (by omega) (by omega) (by simp)
  rw [h1]
  rw [worksOf_eq] at h3 h4
  have hl := h3 reqs.length (by omega)
  rw [getD_set_eq _ _ _ _ (by simp)] at hl
  have hr := (left_rt h h2 hl (fun q hq => h4 q (by omega))).1
  rw [rt_uniq hr (rest_rt hs.ks reqs)]

/-! the schedule -/
theorem first_spec (m cs : List (List Int)) (rest x : List Int) (r cost : Int) : (F_spec_l7First m cs rest x r cost = -1 ∧ ∀ j, j < cs.length → ((F_spec_l1Has (cs.getD j []) r) && (decide (F_spec_l6Move m x (cs.getD j []) + rest.getD j 0 = cost))) = false) ∨
    ∃ j : Nat, j < cs.length ∧ F_spec_l7First m cs rest x r cost = (j : Int) ∧ ((F_spec_l1Has (cs.getD j []) r) && (decide (F_spec_l6Move m x (cs.getD j []) + rest.getD j 0 = cost))) = true ∧ ∀ q, q < j → ((F_spec_l1Has (cs.getD q []) r) && (decide (F_spec_l6Move m x (cs.getD q []) + rest.getD q 0 = cost))) = false := by
  unfold F_spec_l7First
  rcases scan (F_spec_l7First_L1 m cs rest x r cost) cs.length _ (fun j => ((j : Nat) : Int)) (fun q j => F_spec_l7First_L1_s m cs rest x r cost j q) (cs.length - 0 + 1) 0 (by omega) with ⟨h1, h2⟩ | ⟨j, _, h2, h3, h4, h5⟩
  · rw [h1]; exact .inl ⟨rfl, fun j hj => h2 j (Nat.zero_le _) hj⟩
  · rw [h3]; exact .inr ⟨j, h2, rfl, h4, fun q hq => h5 q (Nat.zero_le _) hq⟩
theorem first_lt {m cs : List (List Int)} {rest x : List Int} {r cost : Int} (h : 1 ≤ cs.length) : F_spec_l7First m cs rest x r cost < cs.length := by
  rcases first_spec m cs rest x r cost with ⟨e, _⟩ | ⟨j, hj, e, _⟩ <;> rw [e] <;> omega
theorem plan_L3 (m : List (List Int)) (a reqs : List Int) (tb : List (List Int)) (i : Nat) (out : List (List Int)) (at_ : Int) (j0 : Nat) (hj0 : j0 < (F_impl_worksOf m (a.length : Int)).1.length)
    (hc : ((F_slices_Contains_Sint_int ((F_impl_worksOf m (a.length : Int)).1.getD j0 []) (reqs.getD i 0)) && (decide (((F_impl_worksOf m (a.length : Int)).2.getD at_.toNat []).getD j0 0 + (tb.getD (i + 1) []).getD j0 0 = (tb.getD i []).getD at_.toNat 0))) = true)
    (hn : ∀ q, q < j0 → ((F_slices_Contains_Sint_int ((F_impl_worksOf m (a.length : Int)).1.getD q []) (reqs.getD i 0)) && (decide (((F_impl_worksOf m (a.length : Int)).2.getD at_.toNat []).getD q 0 + (tb.getD (i + 1) []).getD q 0 = (tb.getD i []).getD at_.toNat 0))) = false) : ∀ fuel j, j ≤ j0 → j0 - j < fuel →
    F_impl_LeastSchedule_L3 m a reqs tb i fuel (out, at_, j) = .next (out ++ [(F_impl_worksOf m (a.length : Int)).1.getD j0 []], (j0 : Int), j0) := by
  intro fuel
  induction fuel with
  | zero => intro j h1 h2; omega
  | succ mf ih =>
    intro j h1 h2
    rw [F_impl_LeastSchedule_L3_s, decide_eq_true (show (j : Int) < ((F_impl_worksOf m (a.length : Int)).1.length : Int) by omega), cond_true]
    by_cases e : j = j0
    · subst e; rw [hc, cond_true]
    · rw [hn j (by omega), cond_false]; exact ih (j + 1) (by omega) (by omega)
theorem plan_L2 {m : List (List Int)} {a reqs : List Int} (h : F_impl_isServed m a reqs = true) : ∀ fuel (i at_ : Nat) (out : List (List Int)), at_ < (F_impl_configsOf (m.length : Int) (a.length : Int) 0).length →
    (F_impl_LeastSchedule_L2 m a reqs (F_spec_l7Rest m (F_spec_l6Configs (m.length : Int) (a.length : Int)) reqs) fuel (out, (at_ : Int), i)).elim (fun s => (s.1, true)) (fun r => r) =
    (F_spec_LeastSchedule_L1 m a reqs fuel (out, (F_impl_configsOf (m.length : Int) (a.length : Int) 0).getD at_ [], i)).elim (fun s => (s.1, true)) (fun r => r) := by
  have hs := isServed_t h
  have hk := hs.ks
  have ht := served_tri h
  have hrt := rest_rt hk reqs
  intro fuel
  induction fuel with
  | zero => intro i at_ out _; rfl
  | succ mf ih =>
    intro i at_ out hat
    rw [F_impl_LeastSchedule_L2_s, F_spec_LeastSchedule_L1_s]
    by_cases hi : (i : Int) < (reqs.length : Int)
    · have hri := hs.el i (by omega)
      have h60 := hs.r60
      have h56 := hk.c56
      rw [decide_eq_true hi, cond_true, cond_true, hk.same, (hk.at [] at_ hat).2, Int.toNat_natCast]
      have hbd := rt_bd hk hrt (reqs.length - i) i (by omega)
      have hbd1 := rt_bd hk hrt (reqs.length - (i + 1)) (i + 1) (by omega)
      rw [hk.same] at hbd hbd1 hrt
      -- the two conditions are one
      have hcond : ∀ j, j < (F_impl_configsOf (m.length : Int) (a.length : Int) 0).length →
          ((F_slices_Contains_Sint_int ((F_impl_worksOf m (a.length : Int)).1.getD j []) (reqs.getD i 0)) && (decide (((F_impl_worksOf m (a.length : Int)).2.getD ((at_ : Nat) : Int).toNat []).getD j 0 + ((F_spec_l7Rest m (F_impl_configsOf (m.length : Int) (a.length : Int) 0) reqs).getD (i + 1) []).getD j 0 = ((F_spec_l7Rest m (F_impl_configsOf (m.length : Int) (a.length : Int) 0) reqs).getD i []).getD ((at_ : Nat) : Int).toNat 0))) =
          ((F_spec_l1Has ((F_impl_configsOf (m.length : Int) (a.length : Int) 0).getD j []) (reqs.getD i 0)) && (decide (F_spec_l6Move m ((F_impl_configsOf (m.length : Int) (a.length : Int) 0).getD at_ []) ((F_impl_configsOf (m.length : Int) (a.length : Int) 0).getD j []) + ((F_spec_l7Rest m (F_impl_configsOf (m.length : Int) (a.length : Int) 0) reqs).getD (i + 1) []).getD j 0 = ((F_spec_l7Rest m (F_impl_configsOf (m.length : Int) (a.length : Int) 0) reqs).getD i []).getD at_ 0))) := fun j hj => by
        rw [worksOf_eq, contains_eq, Int.toNat_natCast]
        dsimp only
        rw [costs_el _ _ _ _ hat hj, move_eq hk.tp (hk.cfgs at_ hat).1 (hk.cfgs j hj).1 (hk.eqlen at_ j hat hj)]
      rcases first_spec m (F_impl_configsOf (m.length : Int) (a.length : Int) 0) ((F_spec_l7Rest m (F_impl_configsOf (m.length : Int) (a.length : Int) 0) reqs).getD (i + 1) []) ((F_impl_configsOf (m.length : Int) (a.length : Int) 0).getD at_ []) (reqs.getD i 0) (((F_spec_l7Rest m (F_impl_configsOf (m.length : Int) (a.length : Int) 0) reqs).getD i []).getD at_ 0) with ⟨_, hno⟩ | ⟨j0, hj0, e, hyes, hfirst⟩
      · exfalso
        have hlp : Lp m (F_impl_configsOf (m.length : Int) (a.length : Int) 0) (99 * ((reqs.length - (i + 1) : Nat) : Int)) ((F_spec_l7Rest m (F_impl_configsOf (m.length : Int) (a.length : Int) 0) reqs).getD (i + 1) []) := by
          have key : ∀ d q, q + d = reqs.length → Lp m (F_impl_configsOf (m.length : Int) (a.length : Int) 0) (99 * (d : Int)) ((F_spec_l7Rest m (F_impl_configsOf (m.length : Int) (a.length : Int) 0) reqs).getD q []) := by
            intro d
            induction d with
            | zero =>
              intro q hq
              have e : q = reqs.length := by omega
              subst e
              rw [hrt.last]
              refine ⟨by simp, fun p => ?_, fun i j hi hj => ?_⟩
              · by_cases hp : p < (F_impl_configsOf (m.length : Int) (a.length : Int) 0).length
                · rw [getD_rep _ _ _ _ hp]; omega
                · rw [getD_ge _ _ _ (by simp; omega)]; omega
              · rw [getD_rep _ _ _ _ hi, getD_rep _ _ _ _ hj]
                have := (moveCost_le hk.tp (hk.cfgs i hi).1 (hk.cfgs j hj).1 (hk.eqlen i j hi hj)).1
                omega
            | succ d ihd =>
              intro q hq
              have hr := hs.el q (by omega)
              have h1 := ihd (q + 1) (by omega)
              have := next_lp hk ht (by omega) (by omega) h1 hr.1 hr.2
              rw [next_same hk (by omega) h1 hr.1 hr.2, ← hrt.step q (by omega)] at this
              rwa [show 99 * (d : Int) + 99 = 99 * ((d + 1 : Nat) : Int) by omega] at this
          exact key _ (i + 1) (by omega)
        have hx := nx_next (F_impl_configsOf (m.length : Int) (a.length : Int) 0) (costs m (F_impl_configsOf (m.length : Int) (a.length : Int) 0)) ((F_spec_l7Rest m (F_impl_configsOf (m.length : Int) (a.length : Int) 0) reqs).getD (i + 1) []) (reqs.getD i 0) (by rw [hlp.len]; omega)
        rw [next_same hk (by omega) hlp hri.1 hri.2, ← hrt.step i (by omega)] at hx
        rcases hx.hit at_ (by rw [hlp.len]; exact hat) with e | ⟨q, hq, hc, e⟩
        · have := hbd.2 at_; omega
        · have := hno q hq
          rw [costs_el _ _ _ _ hq hat, move_symm hk.tp (hk.cfgs q hq).1 (hk.cfgs at_ hat).1 (hk.eqlen q at_ hq hat)] at e
          rw [← contains_eq, hc, move_eq hk.tp (hk.cfgs at_ hat).1 (hk.cfgs q hq).1 (hk.eqlen at_ q hat hq), decide_eq_true (by omega)] at this
          cases this
      · have hw1 : (F_impl_worksOf m (a.length : Int)).1 = F_impl_configsOf (m.length : Int) (a.length : Int) 0 := by rw [worksOf_eq]
        rw [plan_L3 m a reqs (F_spec_l7Rest m (F_impl_configsOf (m.length : Int) (a.length : Int) 0) reqs) i out ((at_ : Nat) : Int) j0 (by rw [hw1]; exact hj0) (by rw [hcond j0 hj0]; exact hyes) (fun q hq => by rw [hcond q (by omega)]; exact hfirst q hq) _ 0 (Nat.zero_le _) (by rw [hw1]; omega), e]
        simp only [elim_next]
        have hrp : ∀ x, rowpure (F_impl_configsOf (m.length : Int) (a.length : Int) 0) x (j0 : Int) = (F_impl_configsOf (m.length : Int) (a.length : Int) 0).getD j0 [] := fun x => by
          unfold rowpure; rw [decide_eq_true (by omega), cond_true, Int.toNat_natCast]
        rw [hrp, hw1]
        have := ih (i + 1) j0 (out ++ [(F_impl_configsOf (m.length : Int) (a.length : Int) 0).getD j0 []]) hj0
        rw [hk.same] at this
        exact this
    · rw [decide_eq_false hi, cond_false, cond_false]; rfl
theorem leastSchedule_eq (m : List (List Int)) (a reqs : List Int) : F_impl_LeastSchedule m a reqs = F_spec_LeastSchedule m a reqs := by
  unfold F_impl_LeastSchedule F_spec_LeastSchedule
  rw [served_or]
  cases h : F_impl_isServed m a reqs with
  | false => rfl
  | true =>
    have hs := isServed_t h
    obtain ⟨i, hi, e1, e2, _⟩ := hs.ks.find (costs m (F_impl_configsOf (m.length : Int) (a.length : Int) 0)) hs.cf rfl
    simp only [Bool.not_true, cond_false]
    rw [left_eq h]
    simp only [elim_next]
    have hix : F_impl_works_index (F_impl_worksOf m (a.length : Int)).1 (F_impl_worksOf m (a.length : Int)).2 a = (i : Int) := by rw [worksOf_eq]; exact e2
    have := plan_L2 h (reqs.length - 0 + 1) 0 i [] hi
    rw [e1] at this
    rw [hix]
    exact this
theorem plan_tot {m : List (List Int)} {a reqs : List Int} {tb : List (List Int)} (hk : Ks m (a.length : Int)) : ∀ fuel (i : Nat) (at_ : Int) (out : List (List Int)), reqs.length - i < fuel → (∀ r ∈ out, r.length ≤ 3) → out.length ≤ i → i ≤ reqs.length →
    ∃ s, F_impl_LeastSchedule_L2 m a reqs tb fuel (out, at_, i) = .next s ∧ (∀ r ∈ s.1, r.length ≤ 3) ∧ s.1.length ≤ reqs.length := by
  have hw1 : (F_impl_worksOf m (a.length : Int)).1 = F_impl_configsOf (m.length : Int) (a.length : Int) 0 := by rw [worksOf_eq]
  have inner : ∀ (i : Nat) fuel (j : Nat) (at_ : Int) (out : List (List Int)), (∀ r ∈ out, r.length ≤ 3) → ∃ s, F_impl_LeastSchedule_L3 m a reqs tb i fuel (out, at_, j) = .next s ∧ (∀ r ∈ s.1, r.length ≤ 3) ∧ s.1.length ≤ out.length + 1 := by
    intro i fuel
    induction fuel with
    | zero => intro j at_ out ho; exact ⟨_, rfl, ho, by simp⟩
    | succ mf ih =>
      intro j at_ out ho
      rw [F_impl_LeastSchedule_L3_s]
      by_cases hj : (j : Int) < ((F_impl_worksOf m (a.length : Int)).1.length : Int)
      · rw [decide_eq_true hj, cond_true]
        cases ((F_slices_Contains_Sint_int ((F_impl_worksOf m (a.length : Int)).1.getD j []) (reqs.getD i 0)) && (decide (((F_impl_worksOf m (a.length : Int)).2.getD at_.toNat []).getD j 0 + (tb.getD (i + 1) []).getD j 0 = (tb.getD i []).getD at_.toNat 0))) with
        | true =>
          refine ⟨_, rfl, fun r hr => ?_, by simp⟩
          rcases List.mem_append.1 hr with hr | hr
          · exact ho r hr
          · rw [List.mem_singleton.1 hr, hw1]; exact (hk.cfgs j (by rw [hw1] at hj; omega)).1.n3
        | false => exact ih (j + 1) at_ out ho
      · rw [decide_eq_false hj, cond_false]; exact ⟨_, rfl, ho, by simp⟩
  intro fuel
  induction fuel with
  | zero => intro i at_ out h; omega
  | succ mf ih =>
    intro i at_ out h ho hl hi
    rw [F_impl_LeastSchedule_L2_s]
    by_cases hlt : (i : Int) < (reqs.length : Int)
    · obtain ⟨s, e1, e2, e3⟩ := inner i ((F_impl_worksOf m (a.length : Int)).1.length - 0 + 1) 0 at_ out ho
      obtain ⟨s1, s2, s3⟩ := s
      rw [decide_eq_true hlt, cond_true, e1]
      simp only [elim_next] at e2 e3 ⊢
      exact ih (i + 1) s2 s1 (by omega) e2 (by omega) (by omega)
    · rw [decide_eq_false hlt, cond_false]
      exact ⟨_, rfl, ho, by show out.length ≤ _; omega⟩
theorem leastSchedule_total (m : List (List Int)) (a reqs : List Int) : total (F_impl_LeastSchedule m a reqs).1 ≤ 180 := by
  unfold F_impl_LeastSchedule
  cases h : F_impl_isServed m a reqs with
  | false => simp [total]
  | true =>
    have hs := isServed_t h
    simp only [Bool.not_true, cond_false]
    rw [left_eq h]
    simp only [elim_next]
    obtain ⟨s, h1, h2, h3⟩ := plan_tot (m := m) (a := a) (reqs := reqs) (tb := F_spec_l7Rest m (F_spec_l6Configs (m.length : Int) (a.length : Int)) reqs) hs.ks (reqs.length - 0 + 1) 0 (F_impl_works_index (F_impl_worksOf m (a.length : Int)).1 (F_impl_worksOf m (a.length : Int)).2 a) [] (by omega) (fun r hr => by cases hr) (Nat.le_refl _) (Nat.zero_le _)
    obtain ⟨s1, s2, s3⟩ := s
    rw [h1]
    have h60 := hs.r60
    have := total_le 3 s1 h2
    simp only [elim_next] at h3 ⊢
    omega
theorem law_LeastSchedule (m : List (List Int)) (a reqs : List Int) : F_laws_FnExactLeastSchedule m a reqs = true := by
  unfold F_laws_FnExactLeastSchedule
  simp only [toMetric_eq, toIntS_eq, leastSchedule_eq, eqMetric_refl, eqIntS_refl, eqIntSS_refl, markIntS_eq, markMetric_eq, heldIntSS_marked _ 1 (by omega)]
  simp only [markIntSS_eq]
  have h1 : ¬ ((1 : Int) + (total m : Int) + (a.length : Int) + (reqs.length : Int) < 0) := by omega
  have h2 : ¬ ((1 : Int) + (total (F_spec_LeastSchedule m a reqs).1 : Int) < 0) := by omega
  simp [h1, h2]
end

section
open Go Go.RowKit

theorem Ks.wcf {m : List (List Int)} {k : Int} (h : Ks m k) (i : Nat) (hi : i < (F_impl_worksOf m k).1.length) : Cf m.length ((F_impl_worksOf m k).1.getD i []) ∧ ((((F_impl_worksOf m k).1.getD i []).length : Nat) : Int) = k := by
  rw [worksOf_eq] at hi ⊢; exact h.cfgs i hi
/-- Rows behind a place have a length, their values are small. -/
def Ltr (n : Nat) (k : Int) (L : Nat) (t : List (List Int)) : Prop := ∀ q : Nat, k < (q : Int) → q ≤ L → (t.getD q []).length = n ∧ ∀ p, 0 ≤ (t.getD q []).getD p 0 ∧ (t.getD q []).getD p 0 ≤ 1073741824
theorem rep0_bd (n p : Nat) : 0 ≤ (List.replicate n (0 : Int)).getD p 0 ∧ (List.replicate n (0 : Int)).getD p 0 ≤ 0 := by
  by_cases hp : p < n
  · rw [getD_rep _ _ _ _ hp]; omega
  · rw [getD_ge _ _ _ (by simp; omega)]; omega
theorem ltr_init (n L : Nat) : Ltr n ((L : Int) - 1) L ((List.replicate (L + 1) ([] : List Int)).set L (List.replicate n (0 : Int))) := fun q h1 h2 => by
  have e : q = L := by omega
  subst e
  rw [getD_set_eq _ _ _ _ (by simp)]
  exact ⟨by simp, fun p => by have := rep0_bd n p; omega⟩
theorem Ltr.set {n L : Nat} {k : Int} {t : List (List Int)} (h : Ltr n k L t) (hk : 0 ≤ k) (hl : k < t.length) {r : List Int} (hr : r.length = n ∧ ∀ p, 0 ≤ r.getD p 0 ∧ r.getD p 0 ≤ 1073741824) : Ltr n (k - 1) L (t.set k.toNat r) := fun q h1 h2 => by
  by_cases e : q = k.toNat
  · subst e; rw [getD_set_eq _ _ _ _ (by omega)]; exact hr
  · rw [getD_set_ne _ _ _ _ _ (Ne.symm e)]; exact h q (by omega) h2
theorem listed_of {m cs : List (List Int)} {vs : List Int} (h : (((((!(F_impl_IsMetric m)) || (!((decide (1 ≤ (cs.length : Int))) && (decide ((cs.length : Int) ≤ 56))))) || (!decide ((vs.length : Int) = (cs.length : Int)))) || (!(F_impl_isSmall vs))) || (F_slices_ContainsFunc_SSint_Sint cs (fun a => F_impl_FromSupport_1 a m cs))) = false) : Ls m cs vs := by
  rw [listed_guard] at h
  exact l7Listed_t (by rwa [Bool.not_eq_false'] at h)
theorem flow_pt {m : List (List Int)} {a reqs : List Int} (h : Sv m a reqs) {i : Nat} (hi : i ≤ reqs.length) (k : Nat) (hk : k < a.length + i) : 0 ≤ (((F_slices_Concat_Sint_int ([a, reqs])).take (a.length + i)).drop 0).getD k 0 ∧ (((F_slices_Concat_Sint_int ([a, reqs])).take (a.length + i)).drop 0).getD k 0 < m.length := by
  rw [List.drop_zero, take_getD _ _ _ _ hk]
  exact concat_el h k (by omega)
theorem flow_ln (a reqs : List Int) {i : Nat} (hi : i ≤ reqs.length) : (((F_slices_Concat_Sint_int ([a, reqs])).take (a.length + i)).drop 0).length = a.length + i := by
  rw [List.drop_zero, List.length_take, concat_len]; omega
theorem total_two (a b : List Int) : total [a, b] = a.length + b.length := by simp [total]
theorem support_len {m : List (List Int)} {k : Int} {w : List Int} (h : Wf m k w) : (F_spec_l7Support m (F_spec_l6Configs (m.length : Int) k) w).length ≤ 56 ∧ ∀ i, i < (F_spec_l7Support m (F_spec_l6Configs (m.length : Int) k) w).length → 0 ≤ (F_spec_l7Support m (F_spec_l6Configs (m.length : Int) k) w).getD i 0 ∧ (F_spec_l7Support m (F_spec_l6Configs (m.length : Int) k) w).getD i 0 < (F_spec_l6Configs (m.length : Int) k).length := by
  rw [support_eq h]
  have h1 := suppN_len m k w
  have h2 := h.ks.s56
  refine ⟨by rw [List.length_map]; omega, fun i hi => ?_⟩
  have hi' : i < (suppN m k w).length := by simpa using hi
  rw [getD_lt _ _ _ hi, List.getElem_map]
  have := (suppN_ok m k w).2 _ (List.getElem_mem hi')
  omega
/-- What has been gathered of the support. -/
theorem gat_push {α : Type} (d : α) (f : Nat → α) {own : List Int} {i : Nat} {u : List α} (h : u = (own.take i).map (fun z => f z.toNat)) (hi : i < own.length) : u ++ [f (own.getD i 0).toNat] = (own.take (i + 1)).map (fun z => f z.toNat) := by
  rw [h, List.take_succ_eq_append_getElem hi, List.map_append, getD_lt own i 0 hi]; rfl
theorem gather_ok {m : List (List Int)} {k : Int} {w : List Int} (h : Wf m k w) {i : Nat} (hi : (F_spec_l7Support m (F_spec_l6Configs (m.length : Int) k) w).length ≤ i) {us tus : List Value} {xss : List (List Int)}
    (hu : us = ((F_spec_l7Support m (F_spec_l6Configs (m.length : Int) k) w).take i).map (fun z => tus.getD z.toNat undef)) (hx : xss = ((F_spec_l7Support m (F_spec_l6Configs (m.length : Int) k) w).take i).map (fun z => (F_spec_l6Configs (m.length : Int) k).getD z.toNat [])) :
    ∃ lt : List Nat, us = lt.map (fun p => tus.getD p undef) ∧ xss = lt.map (fun p => (F_spec_l6Configs (m.length : Int) k).getD p []) ∧ lt.Nodup ∧ ∀ p ∈ lt, p < (F_spec_l6Configs (m.length : Int) k).length := by
  rw [List.take_of_length_le hi, support_eq h, List.map_map] at hu hx
  exact ⟨suppN m k w, hu, hx, (suppN_ok m k w).1, (suppN_ok m k w).2⟩

/-! the reference's table -/
def Zr (cs : List (List Int)) (n : Nat) (out : List (List Int)) : Prop := ∀ j, j < out.length → (out.getD j []).length = cs.length ∧ ∀ p, 0 ≤ (out.getD j []).getD p 0 ∧ (out.getD j []).getD p 0 ≤ 99 * ((n : Int) - j)
theorem Zr.nil (cs : List (List Int)) (n : Nat) : Zr cs n [] := fun j hj => absurd hj (by simp)
theorem Zr.push {cs : List (List Int)} {n : Nat} {out : List (List Int)} (h : Zr cs n out) (hn : out.length ≤ n) : Zr cs n (out ++ [List.replicate cs.length (0 : Int)]) := fun j hj => by
  simp only [List.length_append, List.length_cons, List.length_nil] at hj
  by_cases e : j < out.length
  · rw [getDD_app_lt e]; exact h j e
  · rw [getDD_app_eq (by omega)]
    exact ⟨by simp, fun p => by have := rep0_bd cs.length p; omega⟩
theorem Zr.set {cs : List (List Int)} {n : Nat} {out : List (List Int)} (h : Zr cs n out) {t p : Nat} (ht : t < out.length) {v : Int} (hv : 0 ≤ v ∧ v ≤ 99 * ((n : Int) - t)) : Zr cs n (out.set t ((out.getD t []).set p v)) := fun j hj => by
  rw [List.length_set] at hj
  by_cases e : j = t
  · subst e
    rw [getD_set_eq _ _ _ _ hj]
    exact ⟨by rw [List.length_set]; exact (h j hj).1, set_bd (h j hj).2 hv⟩
  · rw [getD_set_ne _ _ _ _ _ (Ne.symm e)]; exact h j hj
def Kf (m cs : List (List Int)) : Prop := ∃ k, Ks m k ∧ cs = F_spec_l6Configs (m.length : Int) k
theorem Ks.kf {m : List (List Int)} {k : Int} (h : Ks m k) : Kf m (F_spec_l6Configs (m.length : Int) k) := ⟨k, h, rfl⟩
theorem Kf.ksc {m cs : List (List Int)} (h : Kf m cs) : Ksc m cs := by obtain ⟨k, hk, rfl⟩ := h; exact hk.ksc
theorem Kf.swap {m cs : List (List Int)} (h : Kf m cs) (i s : Nat) {r : Int} (h0 : 0 ≤ r) (hr : r < m.length) (hi : i < cs.length) : 0 ≤ F_spec_l7Index cs (F_spec_l7Swap (cs.getD i []) (s : Int) r) ∧ F_spec_l7Index cs (F_spec_l7Swap (cs.getD i []) (s : Int) r) < cs.length := by
  obtain ⟨k, hk, rfl⟩ := h; exact hk.sswap i s h0 hr hi
theorem Kf.n1 {m cs : List (List Int)} (h : Kf m cs) : 1 ≤ cs.length := by obtain ⟨k, hk, rfl⟩ := h; exact hk.s56.1
theorem rest_bd {m : List (List Int)} {k : Int} (hk : Ks m k) {reqs : List Int} (h60 : reqs.length ≤ 60) : (F_spec_l7Rest m (F_spec_l6Configs (m.length : Int) k) reqs).length = reqs.length + 1 ∧ ∀ q, q ≤ reqs.length → ((F_spec_l7Rest m (F_spec_l6Configs (m.length : Int) k) reqs).getD q []).length = (F_spec_l6Configs (m.length : Int) k).length ∧
    ∀ p, 0 ≤ ((F_spec_l7Rest m (F_spec_l6Configs (m.length : Int) k) reqs).getD q []).getD p 0 ∧ ((F_spec_l7Rest m (F_spec_l6Configs (m.length : Int) k) reqs).getD q []).getD p 0 ≤ 1073741824 := by
  have h := rest_rt hk reqs
  refine ⟨h.len, fun q hq => ?_⟩
  have hb := rt_bd hk h (reqs.length - q) q (by omega)
  exact ⟨hb.1.trans (by rw [hk.same]), fun p => by have := hb.2 p; omega⟩
theorem rowpure_cf {m : List (List Int)} {k : Int} (hk : Ks m k) {x : List Int} (hx : Cf m.length x) (hl : (x.length : Int) = k) {i : Int} (hi : i < (F_spec_l6Configs (m.length : Int) k).length) : Cf m.length (rowpure (F_spec_l6Configs (m.length : Int) k) x i) ∧ (((rowpure (F_spec_l6Configs (m.length : Int) k) x i).length : Nat) : Int) = k := by
  unfold rowpure
  by_cases h0 : 0 ≤ i
  · rw [decide_eq_true h0]; exact hk.scf i.toNat (by omega)
  · rw [decide_eq_false h0]; exact ⟨hx, hl⟩
theorem first_lt2 (m cs : List (List Int)) (rest x : List Int) (r cost : Int) (h : 1 ≤ cs.length) : F_spec_l7First m cs rest x r cost < cs.length := first_lt h
theorem gap_bd {m : List (List Int)} {a reqs : List Int} (h : Sv m a reqs) {l i : Int} (_hl : 0 ≤ l) (_hi : 0 ≤ i) : 0 ≤ F_spec_l7Gap m a reqs l i ∧ F_spec_l7Gap m a reqs l i ≤ 99 := el_bd h.tp _ _
theorem markIntSS_fst2 (a : List (List Int)) (k : Int) : (F_laws_markIntSS a k).1 = k + total a := by rw [markIntSS_eq]
end
end Go.Proofs.Ytilmadapmcnlgaa
