/-
  Plain laws on schedules of moves and on runs of double coverage. No condition.
-/
import Derived.Test.YtfhhfhiooehlcaaDefH
import Derived.Test.YtfhhfhiooehlcaaLawMatch
import Derived.Test.YtfhhfhiooehlcaaLawConf
namespace Go.Proofs.Ytfhhfhiooehlcaa

/-- What is known where a sequence is served. -/
structure Sv (m : List (List Int)) (a reqs : List Int) : Prop where
  tp : TabP false m
  tab : Tab m
  cf : Cf m.length a
  r60 : reqs.length ≤ 60
  el : ∀ i, i < reqs.length → 0 ≤ reqs.getD i 0 ∧ reqs.getD i 0 < m.length
theorem least_L1 {m : List (List Int)} (hT : TabP false m) {a b : List Int} (ha : Cf m.length a) (hb : Cf m.length b) (hl : a.length = b.length) : ∀ (fuel i : Nat) (best : List Int) (least : Int) s, 0 ≤ least →
    F_impl_Metric_matched_L1 m a b fuel (best, least, i) = .next s → 0 ≤ s.2.1 ∧ s.2.1 ≤ least := by
  intro fuel
  induction fuel with
  | zero => intro i best least s h hs; injection hs with hs; subst hs; exact ⟨h, Int.le_refl _⟩
  | succ mf ih =>
    intro i best least s h
    rw [F_impl_Metric_matched_L1_s]
    by_cases hi : (i : Int) < ((F_impl_orders (a.length : Int)).length : Int)
    · obtain ⟨j1, e1⟩ := matched_L2 m a b ha.n1 ha.n3 i (by omega)
      have hc := ordCost_le hT ha hb hl _ ((orders_row a.length ha.n1 ha.n3).2.2 i (by omega)).2
      rw [e1, decide_eq_true hi]
      simp only [elim_next, cond_true]
      by_cases hd : ordCost m a b ((F_impl_orders (a.length : Int)).getD i []) < least
      · rw [decide_eq_true hd, cond_true]
        intro hs
        have := ih _ _ _ _ hc.1 hs
        omega
      · rw [decide_eq_false hd, cond_false]
        exact ih _ _ _ _ h
    · rw [decide_eq_false hi, cond_false]; intro hs; injection hs with hs; subst hs; exact ⟨h, Int.le_refl _⟩
theorem moveCost_le {m : List (List Int)} (hT : TabP false m) {a b : List Int} (ha : Cf m.length a) (hb : Cf m.length b) (hl : a.length = b.length) : 0 ≤ F_impl_Metric_moveCost m a b ∧ F_impl_Metric_moveCost m a b ≤ 297 := by
  unfold F_impl_Metric_moveCost F_impl_Metric_matched
  have hor := orders_row a.length ha.n1 ha.n3
  have hi : ((0 : Nat) : Int) < ((F_impl_orders (a.length : Int)).length : Int) := by omega
  have hc := ordCost_le hT ha hb hl _ (hor.2.2 0 (by omega)).2
  obtain ⟨j1, h1⟩ := matched_L2 m a b ha.n1 ha.n3 0 (by omega)
  rw [F_impl_Metric_matched_L1_s, h1, decide_eq_true hi]
  simp only [elim_next, cond_true]
  rw [decide_eq_true (show ordCost m a b ((F_impl_orders (a.length : Int)).getD 0 []) < 1073741824 by omega), cond_true]
  cases hs : F_impl_Metric_matched_L1 m a b ((F_impl_orders (a.length : Int)).length - 0) ((F_impl_orders (a.length : Int)).getD 0 [], ordCost m a b ((F_impl_orders (a.length : Int)).getD 0 []), 0 + 1) with
  | next s =>
    obtain ⟨s1, s2, s3⟩ := s
    have := least_L1 hT ha hb hl _ _ _ _ _ hc.1 hs
    simp only [elim_next] at this ⊢
    omega
  | ret r => exact absurd hs (noret_L1 m a b ha.n1 ha.n3 _ _ _ _ r)
/-! schedules -/
/-! runs of double coverage -/
theorem placesOf_t {l : List Int} (h : F_spec_l6Places l = true) : ∀ i, i < l.length → 0 ≤ l.getD i 0 ∧ l.getD i 0 ≤ 99 := (places_iff l).1 h
theorem rowDistance_le {a b : List Int} (ha : Row a) (hb : Row b) : 0 ≤ F_impl_rowDistance a b ∧ F_impl_rowDistance a b ≤ 297 := by
  rw [dist_fold]
  have h := foldFrom_inv (fun i s => s + max (a.getD i 0 - b.getD i 0) (-(a.getD i 0 - b.getD i 0))) (fun j s => 0 ≤ s ∧ s ≤ 99 * (j : Int)) a.length 0 0 (by omega) (fun j s _ hj hs => by
    have h1 := ha.el j; have h2 := hb.el j
    omega)
  have := ha.1.2
  omega
theorem l6Cover_row {row : List Int} {r : Int} (h : Row row) (h0 : 0 ≤ r) (h9 : r ≤ 99) : Row (F_spec_l6Cover row r).1 ∧ row.length = (F_spec_l6Cover row r).1.length ∧ 0 ≤ (F_spec_l6Cover row r).2 ∧ (F_spec_l6Cover row r).2 ≤ 297 := by
  have h1 := (cover_both h h0 h9).1
  have h2 := covered_row row r h h0 h9
  have h3 := cover_moved h h0 h9
  have h4 := rowDistance_le h h2.1
  rw [← h1, ← h3]
  exact ⟨h2.1, h2.2, h4.1, h4.2⟩
end Go.Proofs.Ytfhhfhiooehlcaa
