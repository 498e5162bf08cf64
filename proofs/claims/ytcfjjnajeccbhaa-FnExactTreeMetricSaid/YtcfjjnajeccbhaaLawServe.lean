/-
  Plain laws on schedules of moves and on runs of double coverage. No condition.
-/
import Derived.Test.YtcfjjnajeccbhaaDefH
import Derived.Test.YtcfjjnajeccbhaaLawMatch
import Derived.Test.YtcfjjnajeccbhaaLawConf
namespace Go.Proofs.Ytcfjjnajeccbhaa

theorem szMetric_e {m : List (List Int)} {left : Int} (h : 0 ≤ F_laws_szMetric m left) : F_laws_szMetric m left = left - m.length - total m := by
  unfold F_laws_szMetric at *
  by_cases h1 : F_laws_szIntSS m left < 0
  · rw [decide_eq_true h1, cond_true] at h; omega
  · rw [decide_eq_false h1, cond_false]
    exact szIntSS_t m left (by omega)
theorem isServed_iff (m : List (List Int)) (a reqs : List Int) : F_impl_isServed m a reqs = true ↔ F_spec_l6Good m = true ∧ Cf m.length a ∧ reqs.length ≤ 60 ∧ ∀ i, i < reqs.length → 0 ≤ reqs.getD i 0 ∧ reqs.getD i 0 < m.length := by
  unfold F_impl_isServed
  rw [Bool.and_eq_true, Bool.and_eq_true, Bool.and_eq_true, isConfig_iff, areBelow_iff, decide_eq_true_eq, isMetric_eq]
  constructor
  · rintro ⟨⟨⟨h1, h2⟩, h3⟩, h4⟩; exact ⟨h1, h2, by omega, h4⟩
  · rintro ⟨h1, h2, h3, h4⟩; exact ⟨⟨⟨h1, h2⟩, by omega⟩, h4⟩
theorem served_eq (m : List (List Int)) (a reqs : List Int) : F_impl_isServed m a reqs = F_spec_l6Start m a reqs := by
  rw [Bool.eq_iff_iff, isServed_iff]
  unfold F_spec_l6Start
  rw [Bool.and_eq_true, Bool.and_eq_true, Bool.and_eq_true, l6Config_iff, l6List_iff, decide_eq_true_eq]
  constructor
  · rintro ⟨h1, h2, h3, h4⟩; exact ⟨⟨⟨h1, h2⟩, by omega⟩, h4⟩
  · rintro ⟨⟨⟨h1, h2⟩, h3⟩, h4⟩; exact ⟨h1, h2, by omega, h4⟩
/-- What is known where a sequence is served. -/
structure Sv (m : List (List Int)) (a reqs : List Int) : Prop where
  tp : TabP false m
  tab : Tab m
  cf : Cf m.length a
  r60 : reqs.length ≤ 60
  el : ∀ i, i < reqs.length → 0 ≤ reqs.getD i 0 ∧ reqs.getD i 0 < m.length
theorem isServed_t {m : List (List Int)} {a reqs : List Int} (h : F_impl_isServed m a reqs = true) : Sv m a reqs := by
  obtain ⟨h1, h2, h3, h4⟩ := (isServed_iff m a reqs).1 h
  exact ⟨((l6Good_iff m).1 h1).1, l6Good_t h1, h2, h3, h4⟩
theorem l6Start_t {m : List (List Int)} {a reqs : List Int} (h : F_spec_l6Start m a reqs = true) : Sv m a reqs := isServed_t (by rw [served_eq]; exact h)
theorem least_L1 {m : List (List Int)} (hT : TabP false m) {a b : List Int} (ha : Cf m.length a) (hb : Cf m.length b) (hl : a.length = b.length) : ∀ (fuel i : Nat) (best : List Int) (least : Int) s, 0 ≤ least →
    F_impl_Metric_matched_L1 m a b fuel (best, least, i) = .next s → 0 ≤ s.2.1 ∧ s.2.1 ≤ least := by
  intro fuel
  induction fuel with
  | zero => intro i best least s h hs; injection hs with hs; subst hs; exact ⟨h, Int.le_refl _⟩
  | succ mf ih =>
    intro i best least s h
    rw [F_impl_Metric_matched_L1_s]
    by_cases hi : (i : Int) < ((F_impl_orders (a.length : Int)).length : Int)
    · obtain ⟨j1, e1⟩ := matched_L2 m a b ha.n1 ha.n3 i (by omega)
      have hc := ordCost_le hT ha hb hl _ ((orders_row a.length ha.n1 ha.n3).2.2 i (by omega)).2
      rw [e1, decide_eq_true hi]
      simp only [elim_next, cond_true]
      by_cases hd : ordCost m a b ((F_impl_orders (a.length : Int)).getD i []) < least
      · rw [decide_eq_true hd, cond_true]
        intro hs
        have := ih _ _ _ _ hc.1 hs
        omega
      · rw [decide_eq_false hd, cond_false]
        exact ih _ _ _ _ h
    · rw [decide_eq_false hi, cond_false]; intro hs; injection hs with hs; subst hs; exact ⟨h, Int.le_refl _⟩
theorem moveCost_le {m : List (List Int)} (hT : TabP false m) {a b : List Int} (ha : Cf m.length a) (hb : Cf m.length b) (hl : a.length = b.length) : 0 ≤ F_impl_Metric_moveCost m a b ∧ F_impl_Metric_moveCost m a b ≤ 297 := by
  unfold F_impl_Metric_moveCost F_impl_Metric_matched
  have hor := orders_row a.length ha.n1 ha.n3
  have hi : ((0 : Nat) : Int) < ((F_impl_orders (a.length : Int)).length : Int) := by omega
  have hc := ordCost_le hT ha hb hl _ (hor.2.2 0 (by omega)).2
  obtain ⟨j1, h1⟩ := matched_L2 m a b ha.n1 ha.n3 0 (by omega)
  rw [F_impl_Metric_matched_L1_s, h1, decide_eq_true hi]
  simp only [elim_next, cond_true]
  rw [decide_eq_true (show ordCost m a b ((F_impl_orders (a.length : Int)).getD 0 []) < 1073741824 by omega), cond_true]
  cases hs : F_impl_Metric_matched_L1 m a b ((F_impl_orders (a.length : Int)).length - 0) ((F_impl_orders (a.length : Int)).getD 0 [], ordCost m a b ((F_impl_orders (a.length : Int)).getD 0 []), 0 + 1) with
  | next s =>
    obtain ⟨s1, s2, s3⟩ := s
    have := least_L1 hT ha hb hl _ _ _ _ _ hc.1 hs
    simp only [elim_next] at this ⊢
    omega
  | ret r => exact absurd hs (noret_L1 m a b ha.n1 ha.n3 _ _ _ _ r)
theorem move_eq {m : List (List Int)} (hT : TabP false m) {a b : List Int} (ha : Cf m.length a) (hb : Cf m.length b) (hl : a.length = b.length) : F_spec_l6Move m a b = F_impl_Metric_moveCost m a b := by
  unfold F_impl_Metric_moveCost F_spec_l6Move
  rw [matched_eq hT ha hb hl]
theorem l6Move_le {m : List (List Int)} (hT : TabP false m) {a b : List Int} (ha : Cf m.length a) (hb : Cf m.length b) (hl : a.length = b.length) : 0 ≤ F_spec_l6Move m a b ∧ F_spec_l6Move m a b ≤ 297 := by
  rw [move_eq hT ha hb hl]; exact moveCost_le hT ha hb hl

/-! schedules -/
theorem schedule_L1 {m : List (List Int)} (hT : TabP false m) (start reqs : List Int) (configs : List (List Int)) (hl : configs.length = reqs.length) : ∀ (fuel i : Nat) (now : List Int) (sum : Int), Cf m.length now → now.length = start.length →
    (F_impl_ScheduleMoves_L1 m reqs configs fuel (now, sum, i)).elim (fun s => (s.2.1, true)) (fun r => r) = (F_spec_ScheduleMoves_L1 m start reqs configs fuel (sum, now, i)).elim (fun s => (s.1, true)) (fun r => r) := by
  intro fuel
  induction fuel with
  | zero => intro i now sum _ _; rfl
  | succ mf ih =>
    intro i now sum hc hn
    rw [F_impl_ScheduleMoves_L1_s, F_spec_ScheduleMoves_L1_s, config_eq, contains_eq, hn, hl]
    by_cases hi : (i : Int) < (reqs.length : Int)
    · rw [decide_eq_true hi, cond_true, cond_true]
      cases hb : ((!(F_spec_l6Config (m.length : Int) (configs.getD i []))) || (!decide (((configs.getD i []).length : Int) = (start.length : Int)))) || (!(F_spec_l1Has (configs.getD i []) (reqs.getD i 0))) with
      | true => rfl
      | false =>
        simp only [Bool.or_eq_false_iff, Bool.not_eq_false', decide_eq_true_eq] at hb
        have hc2 := (l6Config_iff m.length _).1 hb.1.1
        rw [cond_false, cond_false, move_eq hT hc hc2 (by omega)]
        exact ih (i + 1) _ _ hc2 (by omega)
    · rw [decide_eq_false hi, cond_false, cond_false]; rfl
theorem schedule_eq (m : List (List Int)) (start reqs : List Int) (configs : List (List Int)) : F_impl_ScheduleMoves m start reqs configs = F_spec_ScheduleMoves m start reqs configs := by
  unfold F_impl_ScheduleMoves F_spec_ScheduleMoves
  rw [served_eq]
  cases hb : ((!(F_spec_l6Start m start reqs)) || (!decide ((configs.length : Int) = (reqs.length : Int)))) with
  | true => rfl
  | false =>
    simp only [Bool.or_eq_false_iff, Bool.not_eq_false', decide_eq_true_eq] at hb
    have hs := l6Start_t hb.1
    rw [cond_false, cond_false, show configs.length = reqs.length by omega]
    exact schedule_L1 hs.tp start reqs configs (by omega) _ 0 start 0 hs.cf rfl
theorem law_ScheduleMoves (m : List (List Int)) (start reqs : List Int) (configs : List (List Int)) : F_laws_FnExactScheduleMoves m start reqs configs = true := by
  unfold F_laws_FnExactScheduleMoves
  simp only [toMetric_eq, toIntS_eq, toIntSS_eq, schedule_eq, eqMetric_refl, eqIntS_refl, eqIntSS_refl]
  simp

/-! runs of double coverage -/
theorem arePlaces_iff (l : List Int) (many : Int) : F_impl_arePlaces l many = true ↔ (l.length : Int) ≤ many ∧ ∀ i, i < l.length → 0 ≤ l.getD i 0 ∧ l.getD i 0 ≤ 99 := by
  unfold F_impl_arePlaces
  rw [Bool.and_eq_true, areBelow_iff, decide_eq_true_eq]
  refine and_congr Iff.rfl ⟨fun h i hi => ?_, fun h i hi => ?_⟩
  · have := h i hi; omega
  · have := h i hi; omega
theorem arePlaces_t {l : List Int} {many : Int} (h : F_impl_arePlaces l many = true) : (l.length : Int) ≤ many ∧ ∀ i, i < l.length → 0 ≤ l.getD i 0 ∧ l.getD i 0 ≤ 99 := (arePlaces_iff l many).1 h
theorem placesOf_t {l : List Int} (h : F_spec_l6Places l = true) : ∀ i, i < l.length → 0 ≤ l.getD i 0 ∧ l.getD i 0 ≤ 99 := (places_iff l).1 h
theorem rowDistance_le {a b : List Int} (ha : Row a) (hb : Row b) : 0 ≤ F_impl_rowDistance a b ∧ F_impl_rowDistance a b ≤ 297 := by
  rw [dist_fold]
  have h := foldFrom_inv (fun i s => s + max (a.getD i 0 - b.getD i 0) (-(a.getD i 0 - b.getD i 0))) (fun j s => 0 ≤ s ∧ s ≤ 99 * (j : Int)) a.length 0 0 (by omega) (fun j s _ hj hs => by
    have h1 := ha.el j; have h2 := hb.el j
    omega)
  have := ha.1.2
  omega
theorem l6Cover_row {row : List Int} {r : Int} (h : Row row) (h0 : 0 ≤ r) (h9 : r ≤ 99) : Row (F_spec_l6Cover row r).1 ∧ row.length = (F_spec_l6Cover row r).1.length ∧ 0 ≤ (F_spec_l6Cover row r).2 ∧ (F_spec_l6Cover row r).2 ≤ 297 := by
  have h1 := (cover_both h h0 h9).1
  have h2 := covered_row row r h h0 h9
  have h3 := cover_moved h h0 h9
  have h4 := rowDistance_le h h2.1
  rw [← h1, ← h3]
  exact ⟨h2.1, h2.2, h4.1, h4.2⟩
theorem coverRun_L1 (reqs : List Int) (hr : ∀ i, i < reqs.length → 0 ≤ reqs.getD i 0 ∧ reqs.getD i 0 ≤ 99) : ∀ (fuel i : Nat) (row : List Int) (out : List (List Int)) (sum : Int), Row row →
    (F_impl_CoverRun_L1 reqs fuel (row, out, sum, i)).elim (fun s => (s.2.1, s.2.2.1, true)) (fun r => r) = (F_spec_CoverRun_L1 reqs fuel (out, sum, row, i)).elim (fun s => (s.1, s.2.1, true)) (fun r => r) := by
  intro fuel
  induction fuel with
  | zero => intro i row out sum _; rfl
  | succ mf ih =>
    intro i row out sum hrow
    rw [F_impl_CoverRun_L1_s, F_spec_CoverRun_L1_s]
    by_cases hi : (i : Int) < (reqs.length : Int)
    · obtain ⟨h0, h9⟩ := hr i (by omega)
      rw [decide_eq_true hi, cond_true, cond_true, ← cover_moved hrow h0 h9, ← (cover_both hrow h0 h9).1]
      exact ih (i + 1) _ _ _ (covered_row row _ hrow h0 h9).1
    · rw [decide_eq_false hi, cond_false, cond_false]; rfl
theorem coverRun_eq (row reqs : List Int) : F_impl_CoverRun row reqs = F_spec_CoverRun row reqs := by
  unfold F_impl_CoverRun F_spec_CoverRun
  have hg : ((!(F_impl_isRow row)) || (!(F_impl_arePlaces reqs 60))) = (((!(F_spec_l6Row row)) || (decide (60 < (reqs.length : Int)))) || (!(F_spec_l6Places reqs))) := by
    have h1 := arePlaces_iff reqs 60
    have h2 := places_iff reqs
    rw [l6Row_eq, Bool.or_assoc]
    congr 1
    by_cases hl : (60 : Int) < (reqs.length : Int)
    · have : F_impl_arePlaces reqs 60 = false := by
        cases ha : F_impl_arePlaces reqs 60 with
        | false => rfl
        | true => have := (h1.1 ha).1; omega
      rw [this, decide_eq_true hl]; rfl
    · have : F_impl_arePlaces reqs 60 = F_spec_l6Places reqs := by
        rw [Bool.eq_iff_iff, h1, h2]
        exact ⟨fun h => h.2, fun h => ⟨by omega, h⟩⟩
      rw [this, decide_eq_false hl, Bool.false_or]
  rw [hg]
  cases hb : (((!(F_spec_l6Row row)) || (decide (60 < (reqs.length : Int)))) || (!(F_spec_l6Places reqs))) with
  | true => rfl
  | false =>
    simp only [Bool.or_eq_false_iff, Bool.not_eq_false', decide_eq_false_iff_not] at hb
    rw [cond_false, cond_false]
    exact coverRun_L1 reqs ((places_iff reqs).1 hb.2) _ 0 row [] 0 (l6Row_t hb.1.1)
theorem coverRun_tot (reqs : List Int) (hr : ∀ i, i < reqs.length → 0 ≤ reqs.getD i 0 ∧ reqs.getD i 0 ≤ 99) : ∀ (fuel i : Nat) (row : List Int) (out : List (List Int)) (sum : Int), Row row → (∀ r ∈ out, r.length ≤ 3) → out.length ≤ i → reqs.length - i < fuel →
    ∃ s, F_impl_CoverRun_L1 reqs fuel (row, out, sum, i) = .next s ∧ (∀ r ∈ s.2.1, r.length ≤ 3) ∧ s.2.1.length ≤ max i reqs.length := by
  intro fuel
  induction fuel with
  | zero => intro i row out sum _ _ _ h; omega
  | succ mf ih =>
    intro i row out sum hrow ho hl h
    rw [F_impl_CoverRun_L1_s]
    by_cases hi : (i : Int) < (reqs.length : Int)
    · obtain ⟨h0, h9⟩ := hr i (by omega)
      have hcr := (covered_row row _ hrow h0 h9).1
      rw [decide_eq_true hi, cond_true]
      obtain ⟨s, h1, h2, h3⟩ := ih (i + 1) _ (out ++ [F_impl_covered row (reqs.getD i 0)]) (sum + F_impl_rowDistance row (F_impl_covered row (reqs.getD i 0))) hcr (fun r hr => by
        rcases List.mem_append.1 hr with hr | hr
        · exact ho r hr
        · rw [List.mem_singleton.1 hr]; exact hcr.1.2) (by simp; omega) (by omega)
      exact ⟨s, h1, h2, by omega⟩
    · rw [decide_eq_false hi, cond_false]
      exact ⟨_, rfl, ho, by show out.length ≤ _; omega⟩
theorem coverRun_total (row reqs : List Int) : total (F_impl_CoverRun row reqs).1 ≤ 180 := by
  unfold F_impl_CoverRun
  cases hb : ((!(F_impl_isRow row)) || (!(F_impl_arePlaces reqs 60))) with
  | true => simp [total]
  | false =>
    simp only [Bool.or_eq_false_iff, Bool.not_eq_false'] at hb
    have hp := arePlaces_t hb.2
    obtain ⟨s, h1, h2, h3⟩ := coverRun_tot reqs hp.2 (reqs.length - 0 + 1) 0 row [] 0 (isRow_t hb.1) (fun r hr => by cases hr) (by simp) (by omega)
    obtain ⟨s1, s2, s3, s4⟩ := s
    rw [cond_false, h1]
    have := total_le 3 s2 h2
    simp only [elim_next] at h3 ⊢
    omega
theorem law_CoverRun (row reqs : List Int) : F_laws_FnExactCoverRun row reqs = true := by
  unfold F_laws_FnExactCoverRun
  simp only [toIntS_eq, coverRun_eq, eqIntS_refl, eqIntSS_refl, markIntS_eq, heldIntSS_marked _ 1 (by omega)]
  simp only [markIntSS_eq]
  have h1 : ¬ ((1 : Int) + (row.length : Int) + (reqs.length : Int) < 0) := by omega
  have h2 : ¬ ((1 : Int) + (total (F_spec_CoverRun row reqs).1 : Int) < 0) := by omega
  simp [h1, h2]
end Go.Proofs.Ytcfjjnajeccbhaa
