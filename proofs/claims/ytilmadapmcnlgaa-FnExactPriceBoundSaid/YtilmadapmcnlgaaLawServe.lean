/-
  Plain laws on schedules of moves and on runs of double coverage. No condition.
-/
import Derived.Test.YtilmadapmcnlgaaDefH
import Derived.Test.YtilmadapmcnlgaaLawMatch
import Derived.Test.YtilmadapmcnlgaaLawConf
namespace Go.Proofs.Ytilmadapmcnlgaa

theorem szMetric_e {m : List (List Int)} {left : Int} (h : 0 ≤ F_laws_szMetric m left) : F_laws_szMetric m left = left - m.length - total m := by
  unfold F_laws_szMetric at *
  by_cases h1 : F_laws_szIntSS m left < 0
  · rw [decide_eq_true h1, cond_true] at h; omega
  · rw [decide_eq_false h1, cond_false]
    exact szIntSS_t m left (by omega)
theorem isServed_iff (m : List (List Int)) (a reqs : List Int) : F_impl_isServed m a reqs = true ↔ F_spec_l6Good m = true ∧ Cf m.length a ∧ reqs.length ≤ 60 ∧ ∀ i, i < reqs.length → 0 ≤ reqs.getD i 0 ∧ reqs.getD i 0 < m.length := by
  unfold F_impl_isServed
  rw [Bool.and_eq_true, Bool.and_eq_true, Bool.and_eq_true, isConfig_iff, areBelow_iff, decide_eq_true_eq, isMetric_eq]
  constructor
  · rintro ⟨⟨⟨h1, h2⟩, h3⟩, h4⟩; exact ⟨h1, h2, by omega, h4⟩
  · rintro ⟨h1, h2, h3, h4⟩; exact ⟨⟨⟨h1, h2⟩, by omega⟩, h4⟩
theorem served_eq (m : List (List Int)) (a reqs : List Int) : F_impl_isServed m a reqs = F_spec_l6Start m a reqs := by
  rw [Bool.eq_iff_iff, isServed_iff]
  unfold F_spec_l6Start
  rw [Bool.and_eq_true, Bool.and_eq_true, Bool.and_eq_true, l6Config_iff, l6List_iff, decide_eq_true_eq]
  constructor
  · rintro ⟨h1, h2, h3, h4⟩; exact ⟨⟨⟨h1, h2⟩, by omega⟩, h4⟩
  · rintro ⟨⟨⟨h1, h2⟩, h3⟩, h4⟩; exact ⟨h1, h2, by omega, h4⟩
/-- What is known where a sequence is served. -/
structure Sv (m : List (List Int)) (a reqs : List Int) : Prop where
  tp : TabP false m
  tab : Tab m
  cf : Cf m.length a
  r60 : reqs.length ≤ 60
  el : ∀ i, i < reqs.length → 0 ≤ reqs.getD i 0 ∧ reqs.getD i 0 < m.length
theorem isServed_t {m : List (List Int)} {a reqs : List Int} (h : F_impl_isServed m a reqs = true) : Sv m a reqs := by
  obtain ⟨h1, h2, h3, h4⟩ := (isServed_iff m a reqs).1 h
  exact ⟨((l6Good_iff m).1 h1).1, l6Good_t h1, h2, h3, h4⟩
theorem l6Start_t {m : List (List Int)} {a reqs : List Int} (h : F_spec_l6Start m a reqs = true) : Sv m a reqs := isServed_t (by rw [served_eq]; exact h)
theorem least_L1 {m : List (List Int)} (hT : TabP false m) {a b : List Int} (ha : Cf m.length a) (hb : Cf m.length b) (hl : a.length = b.length) : ∀ (fuel i : Nat) (best : List Int) (least : Int) s, 0 ≤ least →
    F_impl_Metric_matched_L1 m a b fuel (best, least, i) = .next s → 0 ≤ s.2.1 ∧ s.2.1 ≤ least := by
  intro fuel
  induction fuel with
  | zero => intro i best least s h hs; injection hs with hs; subst hs; exact ⟨h, Int.le_refl _⟩
  | succ mf ih =>
    intro i best least s h
    rw [F_impl_Metric_matched_L1_s]
    by_cases hi : (i : Int) < ((F_impl_orders (a.length : Int)).length : Int)
    · obtain ⟨j1, e1⟩ := matched_L2 m a b ha.n1 ha.n3 i (by omega)
      have hc := ordCost_le hT ha hb hl _ ((orders_row a.length ha.n1 ha.n3).2.2 i (by omega)).2
      rw [e1, decide_eq_true hi]
      simp only [elim_next, cond_true]
      by_cases hd : ordCost m a b ((F_impl_orders (a.length : Int)).getD i []) < least
      · rw [decide_eq_true hd, cond_true]
        intro hs
        have := ih _ _ _ _ hc.1 hs
        omega
      · rw [decide_eq_false hd, cond_false]
        exact ih _ _ _ _ h
    · rw [decide_eq_false hi, cond_false]; intro hs; injection hs with hs; subst hs; exact ⟨h, Int.le_refl _⟩
theorem moveCost_le {m : List (List Int)} (hT : TabP false m) {a b : List Int} (ha : Cf m.length a) (hb : Cf m.length b) (hl : a.length = b.length) : 0 ≤ F_impl_Metric_moveCost m a b ∧ F_impl_Metric_moveCost m a b ≤ 297 := by
  unfold F_impl_Metric_moveCost F_impl_Metric_matched
  have hor := orders_row a.length ha.n1 ha.n3
  have hi : ((0 : Nat) : Int) < ((F_impl_orders (a.length : Int)).length : Int) := by omega
  have hc := ordCost_le hT ha hb hl _ (hor.2.2 0 (by omega)).2
  obtain ⟨j1, h1⟩ := matched_L2 m a b ha.n1 ha.n3 0 (by omega)
  rw [F_impl_Metric_matched_L1_s, h1, decide_eq_true hi]
  simp only [elim_next, cond_true]
  rw [decide_eq_true (show ordCost m a b ((F_impl_orders (a.length : Int)).getD 0 []) < 1073741824 by omega), cond_true]
  cases hs : F_impl_Metric_matched_L1 m a b ((F_impl_orders (a.length : Int)).length - 0) ((F_impl_orders (a.length : Int)).getD 0 [], ordCost m a b ((F_impl_orders (a.length : Int)).getD 0 []), 0 + 1) with
  | next s =>
    obtain ⟨s1, s2, s3⟩ := s
    have := least_L1 hT ha hb hl _ _ _ _ _ hc.1 hs
    simp only [elim_next] at this ⊢
    omega
  | ret r => exact absurd hs (noret_L1 m a b ha.n1 ha.n3 _ _ _ _ r)
theorem move_eq {m : List (List Int)} (hT : TabP false m) {a b : List Int} (ha : Cf m.length a) (hb : Cf m.length b) (hl : a.length = b.length) : F_spec_l6Move m a b = F_impl_Metric_moveCost m a b := by
  unfold F_impl_Metric_moveCost F_spec_l6Move
  rw [matched_eq hT ha hb hl]
theorem l6Move_le {m : List (List Int)} (hT : TabP false m) {a b : List Int} (ha : Cf m.length a) (hb : Cf m.length b) (hl : a.length = b.length) : 0 ≤ F_spec_l6Move m a b ∧ F_spec_l6Move m a b ≤ 297 := by
  rw [move_eq hT ha hb hl]; exact moveCost_le hT ha hb hl

/-! schedules -/
/-! runs of double coverage -/
end Go.Proofs.Ytilmadapmcnlgaa
