/-
  Plain: the law of closed tables, shortest ways and detours holds for all codes. No condition.
-/
import Derived.Test.YtfhhfhiooehlcaaDefV
import Derived.Test.YtfhhfhiooehlcaaLawLin
import Derived.Test.YtfhhfhiooehlcaaLawWay
namespace Go.Proofs.Ytfhhfhiooehlcaa

theorem rInts_eq {a b : List Int} (h : F_laws_rInts a b = true) : a = b := by
  unfold F_laws_rInts at h
  by_cases hl : (a.length : Int) = (b.length : Int)
  · rw [decide_eq_true hl, Bool.not_true, cond_false] at h
    rcases scan (F_laws_rInts_L1 a b) a.length (fun i => !decide (a.getD i 0 = b.getD i 0)) (fun _ => false) (fun m i => F_laws_rInts_L1_s a b i m) (a.length - 0 + 1) 0 (by omega) with ⟨h1, h2⟩ | ⟨j, _, h2, h3, h4, _⟩
    · refine list_ext_getD 0 (by omega) fun i hi => ?_
      have := h2 i (by omega) hi
      rw [Bool.not_eq_false', decide_eq_true_eq] at this
      exact this
    · rw [h3] at h; cases h
  · rw [decide_eq_false hl, Bool.not_false, cond_true] at h; cases h
theorem rTable_eq {a b : List (List Int)} (h : F_laws_rTable a b = true) : a = b := by
  unfold F_laws_rTable at h
  by_cases hl : (a.length : Int) = (b.length : Int)
  · rw [decide_eq_true hl, Bool.not_true, cond_false] at h
    rcases scan (F_laws_rTable_L1 a b) a.length (fun i => !(F_laws_rInts (a.getD i []) (b.getD i []))) (fun _ => false) (fun m i => F_laws_rTable_L1_s a b i m) (a.length - 0 + 1) 0 (by omega) with ⟨h1, h2⟩ | ⟨j, _, h2, h3, h4, _⟩
    · refine list_ext_getD [] (by omega) fun i hi => ?_
      have := h2 i (by omega) hi
      rw [Bool.not_eq_false'] at this
      exact rInts_eq this
    · rw [h3] at h; cases h
  · rw [decide_eq_false hl, Bool.not_false, cond_true] at h; cases h
theorem rMetric_iff (a b : List (List Int)) : F_laws_rMetric a b = true ↔ a = b := ⟨fun h => rTable_eq h, fun h => by subst h; exact rMetric_refl a⟩
theorem tabP_weak {m : List (List Int)} (h : TabP false m) : TabP true m := by
  refine ⟨h.n1, h.n6, h.rows, fun x y hx hy => ?_⟩
  obtain ⟨a, b, c⟩ := h.ok x y hx hy
  refine ⟨a, b, fun e => ?_⟩
  rcases c e with c | ⟨c, _⟩
  · exact .inl c
  · cases c
/-! a metric is closed -/
theorem stages_same {D : Nat → Nat → Int} {n : Nat} (ht : ∀ x y z, x < n → y < n → z < n → D x z ≤ D x y + D y z) : ∀ k, k ≤ n → ∀ x z, x < n → z < n → stages D k x z = D x z := by
  intro k
  induction k with
  | zero => intro _ x z _ _; rfl
  | succ k ih =>
    intro hk x z hx hz
    show stage k (stages D k) x z = D x z
    unfold stage
    rw [ih (by omega) x z hx hz, ih (by omega) x k hx (by omega), ih (by omega) k z (by omega) hz]
    have := ht x k z hx (by omega) hz
    omega
theorem closed_self {m : List (List Int)} (h : F_impl_IsMetric m = true) : F_impl_Metric_closed m = m := by
  obtain ⟨hT, ht⟩ := (isMetric_iff m).1 h
  obtain ⟨c1, c2⟩ := closed_el (tabP_weak hT)
  have hnn : ∀ x y, x < m.length → y < m.length → 0 ≤ el m x y := fun x y hx hy => by
    obtain ⟨a, b, c⟩ := hT.ok x y hx hy
    by_cases e : x = y
    · have := b e; omega
    · rcases c e with c | ⟨c, _⟩
      · omega
      · cases c
  have hD : ∀ x y, x < m.length → y < m.length → D0 m x y = el m x y := fun x y hx hy => by
    unfold D0; rw [if_neg]; have := hnn x y hx hy; omega
  refine list_ext_getD [] c1.len fun x hx => ?_
  rw [c1.len] at hx
  refine list_ext_getD 0 (by rw [c1.rows x hx, hT.rows x hx]) fun y hy => ?_
  rw [c1.rows x hx] at hy
  have h1 := c2 x y hx hy
  rw [stages_same (n := m.length) (fun x y z hx hy hz => by rw [hD x z hx hz, hD x y hx hy, hD y z hy hz]; exact ht x y z hx hy hz) m.length (Nat.le_refl _) x y hx hy, hD x y hx hy] at h1
  exact h1
theorem closed_ok {m : List (List Int)} (h : (F_impl_ClosedMetric m).2 = true) : TabP true m ∧ (F_impl_ClosedMetric m).1 = F_impl_Metric_closed m ∧ F_impl_IsMetric (F_impl_Metric_closed m) = true := by
  unfold F_impl_ClosedMetric at *
  cases hT : F_impl_Metric_isTable m true with
  | false => rw [hT, Bool.not_false, cond_true] at h; cases h
  | true =>
    rw [hT, Bool.not_true, cond_false] at h
    rw [Bool.not_true, cond_false]
    rw [metricOf_eq] at *
    by_cases hm : F_impl_IsMetric (F_impl_Metric_closed m) = true
    · rw [if_pos hm]; exact ⟨(isTable_iff m true).1 hT, rfl, hm⟩
    · rw [if_neg hm] at h; cases h
theorem metric_ok {m : List (List Int)} (h : F_impl_IsMetric m = true) : F_impl_ClosedMetric m = (m, true) := by
  have hT := ((isMetric_iff m).1 h).1
  unfold F_impl_ClosedMetric
  rw [(isTable_iff m true).2 (tabP_weak hT), Bool.not_true, cond_false, closed_self h, metricOf_eq, if_pos h]
/-! the way -/
def wsum (m : List (List Int)) : Int → List Int → Int
  | _, [] => 0
  | x, z :: l => el m x.toNat z.toNat + wsum m z l
def wf (m : List (List Int)) (w : List Int) (i : Nat) (s : Int) : Int := s + (m.getD ((w.getD (((i : Int) - 1).toNat) 0)).toNat []).getD ((w.getD i 0)).toNat 0
theorem wf_sum (m : List (List Int)) : ∀ (l : List Int) (pre : List Int) (x : Int) (s : Int), foldFrom (wf m (pre ++ x :: l)) (pre.length + 1) l.length s = s + wsum m x l
  | [], _, _, s => by simp [foldFrom, wsum]
  | z :: l, pre, x, s => by
    rw [List.length_cons, foldFrom]
    have ih := wf_sum m l (pre ++ [x]) z (wf m (pre ++ x :: z :: l) (pre.length + 1) s)
    rw [List.append_assoc, List.length_append, List.length_singleton] at ih
    rw [show [x] ++ z :: l = x :: z :: l from rfl] at ih
    rw [ih, wsum]
    unfold wf el
    have g1 : (pre ++ x :: z :: l).getD ((((pre.length + 1 : Nat) : Int) - 1).toNat) 0 = x := by
      rw [show (((pre.length + 1 : Nat) : Int) - 1).toNat = pre.length by omega]; simp
    have g2 : (pre ++ x :: z :: l).getD (pre.length + 1) 0 = z := by simp
    rw [g1, g2]; omega
theorem gw_sum {m : List (List Int)} (hT : TabP true m) {y x : Nat} {l : List Int} (h : Gw m y x l) : wsum m (x : Int) l = dl m x y := by
  induction h with
  | nil => exact (dl_self hT y).symm
  | @cons x z l hne hz ht hf hl ih =>
    rw [wsum, ih, Int.toNat_natCast, Int.toNat_natCast]
    exact ht.2.2
theorem gw_el {m : List (List Int)} {y x : Nat} {l : List Int} (h : Gw m y x l) : ∀ v ∈ l, 0 ≤ v ∧ v < m.length := by
  induction h with
  | nil => intro v hv; cases hv
  | @cons x z l hne hz ht hf hl ih =>
    intro v hv
    rcases List.mem_cons.1 hv with rfl | hv
    · omega
    · exact ih v hv
theorem gw_last {m : List (List Int)} {y x : Nat} {l : List Int} (h : Gw m y x l) : ((x : Int) :: l).getD l.length 0 = (y : Int) := by
  induction h with
  | nil => rfl
  | @cons x z l hne hz ht hf hl ih =>
    rw [List.length_cons, List.getD_cons_succ]; exact ih
/-- What is known of a shortest way in a table that closes to a metric. -/
structure Wp (t : List (List Int)) (x y : Int) (w : List Int) (m : List (List Int)) : Prop where
  tp : TabP true t
  tab : Tab t
  n1 : 1 ≤ w.length
  n9 : w.length ≤ 7000
  el : ∀ i, i < w.length → 0 ≤ w.getD i 0 ∧ w.getD i 0 < t.length
  hx : 0 ≤ x ∧ x < t.length
  hy : 0 ≤ y ∧ y < t.length
  first : w.getD 0 0 = x
  last : w.getD (((w.length : Int) - 1).toNat) 0 = y
  sum : foldFrom (wf t w) 1 (w.length - 1) 0 = (m.getD x.toNat []).getD y.toNat 0
  sq : Sq t.length m
theorem met_way {t : List (List Int)} {x y : Int} (h1 : (F_impl_ClosedMetric t).2 = true) (h2 : (F_impl_ShortestWay t x y).2 = true) : Wp t x y (F_impl_ShortestWay t x y).1 (F_impl_ClosedMetric t).1 := by
  obtain ⟨hT, c1, c2⟩ := closed_ok h1
  have h7 := (shortestWay_both t x y).2
  rw [c1]
  unfold F_impl_ShortestWay at *
  cases hb : (((!(F_impl_Metric_isTable t true)) || (!((decide (0 ≤ x)) && (decide (x ≤ ((t.length : Int) - 1)))))) || (!((decide (0 ≤ y)) && (decide (y ≤ ((t.length : Int) - 1)))))) with
  | true => rw [hb, cond_true] at h2; cases h2
  | false =>
    rw [hb, cond_false] at h2 h7
    rw [cond_false]
    simp only [Bool.or_eq_false_iff, Bool.not_eq_false', Bool.and_eq_true, decide_eq_true_eq] at hb
    obtain ⟨⟨_, hx⟩, hy⟩ := hb
    obtain ⟨x, rfl⟩ : ∃ k : Nat, x = k := ⟨x.toNat, by omega⟩
    obtain ⟨y, rfl⟩ : ∃ k : Nat, y = k := ⟨y.toNat, by omega⟩
    have hx : x < t.length := by omega
    have hy : y < t.length := by omega
    obtain ⟨q1, q2⟩ := closed_el hT
    have hc : ((F_impl_Metric_closed t).getD ((x : Int)).toNat []).getD ((y : Int)).toNat 0 = dl t x y := q2 x y hx hy
    rw [hc] at h2 h7 ⊢
    by_cases hd : 1073741824 ≤ dl t x y
    · rw [decide_eq_true hd, cond_true] at h2; cases h2
    · rw [decide_eq_false hd, cond_false] at h7 ⊢
      obtain ⟨l, g1, g2⟩ := gw_ex hT hy ((dl t x y).toNat + 1) x hx (by omega) (by omega)
      rw [way_L1 hT hy g1 hx _ _ (by omega)] at h7 ⊢
      simp only [elim_next, List.singleton_append] at h7 ⊢
      refine ⟨hT, hT.tab, by simp, h7, fun i hi => ?_, by omega, by omega, rfl, ?_, ?_, q1⟩
      · match i, hi with
        | 0, _ => exact ⟨by simp, by simpa using hx⟩
        | i + 1, hi =>
          rw [List.getD_cons_succ]
          rw [List.length_cons] at hi
          refine gw_el g1 _ ?_
          rw [List.getD_eq_getElem?_getD, List.getElem?_eq_getElem (by omega : i < l.length)]
          exact List.getElem_mem _
      · rw [show ((((x : Int) :: l).length : Int) - 1).toNat = l.length by simp]
        exact gw_last g1
      · have := wf_sum t l [] (x : Int) 0
        rw [List.nil_append, List.length_nil, Nat.zero_add, gw_sum hT g1] at this
        rw [show ((x : Int) :: l).length - 1 = l.length by simp, this, hc, Int.zero_add]
/-! detours -/
theorem det_L3 (m : List (List Int)) (x y : Nat) : ((∃ s, F_impl_Metric_detour_L3 m x y (m.length - 0 + 1) 0 = .next s)) ∨
    (∃ z : Nat, z < m.length ∧ F_impl_Metric_detour_L3 m x y (m.length - 0 + 1) 0 = .ret ([(x : Int), (y : Int), (z : Int)], true) ∧ el m x y + el m y z < el m x z) := by
  rcases scan (F_impl_Metric_detour_L3 m x y) m.length (fun z => decide (el m x y + el m y z < el m x z)) (fun z => ([(x : Int), (y : Int), (z : Int)], true)) (fun mf i => F_impl_Metric_detour_L3_s m x y i mf) (m.length - 0 + 1) 0 (by omega) with ⟨h1, h2⟩ | ⟨j, h1, h2, h3, h4, h5⟩
  · exact .inl ⟨_, h1⟩
  · exact .inr ⟨j, h2, h3, by simpa using h4⟩
theorem det_L2 (m : List (List Int)) (x : Nat) (hr : (m.getD x []).length = m.length) : ((∃ s, F_impl_Metric_detour_L2 m x ((m.getD x []).length - 0 + 1) 0 = .next s)) ∨
    (∃ y z : Nat, y < m.length ∧ z < m.length ∧ F_impl_Metric_detour_L2 m x ((m.getD x []).length - 0 + 1) 0 = .ret ([(x : Int), (y : Int), (z : Int)], true) ∧ el m x y + el m y z < el m x z) := by
  rcases scanC (F_impl_Metric_detour_L2 m x) (m.getD x []).length _ (fun mf i => F_impl_Metric_detour_L2_s m x i mf) ((m.getD x []).length - 0 + 1) 0 (by omega) with ⟨h1, h2⟩ | ⟨j, r, h1, h2, h3, h4, h5⟩
  · exact .inl ⟨_, h1⟩
  · rcases det_L3 m x j with ⟨s, h⟩ | ⟨z, hz, h, hh⟩
    · rw [h] at h4; cases h4
    · rw [h] at h4; cases h4
      exact .inr ⟨j, z, by omega, hz, h3, hh⟩
/-- What is known of three points that are a detour. -/
structure Dt (u : List (List Int)) (three : List Int) : Prop where
  tab : Tab u
  len : three.length = 3
  e0 : 0 ≤ three.getD 0 0 ∧ three.getD 0 0 < u.length
  e1 : 0 ≤ three.getD 1 0 ∧ three.getD 1 0 < u.length
  e2 : 0 ≤ three.getD 2 0 ∧ three.getD 2 0 < u.length
  lt : (u.getD ((three.getD 0 0)).toNat []).getD ((three.getD 1 0)).toNat 0 + (u.getD ((three.getD 1 0)).toNat []).getD ((three.getD 2 0)).toNat 0 < (u.getD ((three.getD 0 0)).toNat []).getD ((three.getD 2 0)).toNat 0
  no : F_impl_IsMetric u = false
theorem det_three {u : List (List Int)} (h : (F_impl_FirstDetour u).2 = true) : Dt u (F_impl_FirstDetour u).1 := by
  unfold F_impl_FirstDetour at *
  cases hT : F_impl_Metric_isTable u false with
  | false => rw [hT, Bool.not_false, cond_true] at h; cases h
  | true =>
    have hTP := (isTable_iff u false).1 hT
    rw [hT, Bool.not_true, cond_false] at h
    rw [Bool.not_true, cond_false]
    dsimp only at h ⊢
    have hm : F_impl_IsMetric u = false := by
      unfold F_impl_IsMetric; rw [hT, Bool.not_true, cond_false, h]; rfl
    unfold F_impl_Metric_detour at *
    rcases scanC (F_impl_Metric_detour_L1 u) u.length _ (fun mf i => F_impl_Metric_detour_L1_s u i mf) (u.length - 0 + 1) 0 (by omega) with ⟨h1, h2⟩ | ⟨j, r, h1, h2, h3, h4, h5⟩
    · rw [h1] at h; cases h
    · rcases det_L2 u j (hTP.rows j h2) with ⟨s, h⟩ | ⟨y, z, hy, hz, h, hh⟩
      · rw [h] at h4; cases h4
      · rw [h] at h4; cases h4
        rw [h3, elim_ret]
        refine ⟨hTP.tab, rfl, ?_, ?_, ?_, ?_, hm⟩
        · show 0 ≤ (j : Int) ∧ (j : Int) < _; omega
        · show 0 ≤ (y : Int) ∧ (y : Int) < _; omega
        · show 0 ≤ (z : Int) ∧ (z : Int) < _; omega
        · exact hh
theorem det_all {u : List (List Int)} {three : List Int} (h : Dt u three) : three.length = 3 ∧ (0 ≤ three.getD 0 0 ∧ three.getD 0 0 < u.length) ∧ (0 ≤ three.getD 1 0 ∧ three.getD 1 0 < u.length) ∧ (0 ≤ three.getD 2 0 ∧ three.getD 2 0 < u.length) ∧
    (u.getD ((three.getD 0 0)).toNat []).length = u.length ∧ (u.getD ((three.getD 1 0)).toNat []).length = u.length ∧
    (-1 ≤ (u.getD ((three.getD 0 0)).toNat []).getD ((three.getD 1 0)).toNat 0 ∧ (u.getD ((three.getD 0 0)).toNat []).getD ((three.getD 1 0)).toNat 0 ≤ 99) ∧
    (-1 ≤ (u.getD ((three.getD 1 0)).toNat []).getD ((three.getD 2 0)).toNat 0 ∧ (u.getD ((three.getD 1 0)).toNat []).getD ((three.getD 2 0)).toNat 0 ≤ 99) ∧
    (-1 ≤ (u.getD ((three.getD 0 0)).toNat []).getD ((three.getD 2 0)).toNat 0 ∧ (u.getD ((three.getD 0 0)).toNat []).getD ((three.getD 2 0)).toNat 0 ≤ 99) :=
  ⟨h.len, h.e0, h.e1, h.e2, h.tab.rows _ (by have := h.e0; omega), h.tab.rows _ (by have := h.e1; omega), h.tab.el _ _, h.tab.el _ _, h.tab.el _ _⟩
theorem law_fMetrics (code : List Int) : F_laws_FnMetrics code = true := by
  unfold F_laws_FnMetrics
  cases F_laws_rBig code with
  | true => rfl
  | false =>
    rw [cond_false, ← closedMetric_eq, ← (shortestWay_both _ _ _).1, ← firstDetour_eq]
    simp only [rMetric_refl, rInts_refl, bne_self_eq_false, Bool.not_true, Bool.or_self, cond_false, Bool.false_or]
    have hu : (bif ((F_impl_FirstDetour (F_spec_DrawFirstDetour code)).2 && F_impl_IsMetric (F_spec_DrawFirstDetour code)) then false else
        (!(F_impl_FirstDetour (F_spec_DrawFirstDetour code)).2 || (decide (((F_impl_FirstDetour (F_spec_DrawFirstDetour code)).1.length : Int) = 3) && decide (((F_spec_DrawFirstDetour code).getD ((((F_impl_FirstDetour (F_spec_DrawFirstDetour code)).1.getD 0 0)).toNat) []).getD ((((F_impl_FirstDetour (F_spec_DrawFirstDetour code)).1.getD 1 0)).toNat) 0 + ((F_spec_DrawFirstDetour code).getD ((((F_impl_FirstDetour (F_spec_DrawFirstDetour code)).1.getD 1 0)).toNat) []).getD ((((F_impl_FirstDetour (F_spec_DrawFirstDetour code)).1.getD 2 0)).toNat) 0 < ((F_spec_DrawFirstDetour code).getD ((((F_impl_FirstDetour (F_spec_DrawFirstDetour code)).1.getD 0 0)).toNat) []).getD ((((F_impl_FirstDetour (F_spec_DrawFirstDetour code)).1.getD 2 0)).toNat) 0)))) = true := by
      generalize F_spec_DrawFirstDetour code = u
      cases h : (F_impl_FirstDetour u).2 with
      | false => rfl
      | true =>
        have d := det_three h
        rw [d.no, d.len, decide_eq_true d.lt]; rfl
    rw [hu]
    have hs : ∀ k15_1 k16_1, F_laws_FnMetrics_L1 code ((F_impl_ShortestWay (F_spec_DrawShortestWay code).1 (F_spec_DrawShortestWay code).2.1 (F_spec_DrawShortestWay code).2.2).1.length - 1 + 1) (k15_1, k16_1) = .next (foldFrom (wf (F_spec_DrawShortestWay code).1 (F_impl_ShortestWay (F_spec_DrawShortestWay code).1 (F_spec_DrawShortestWay code).2.1 (F_spec_DrawShortestWay code).2.2).1) k16_1 ((F_impl_ShortestWay (F_spec_DrawShortestWay code).1 (F_spec_DrawShortestWay code).2.1 (F_spec_DrawShortestWay code).2.2).1.length - k16_1) k15_1, max k16_1 (F_impl_ShortestWay (F_spec_DrawShortestWay code).1 (F_spec_DrawShortestWay code).2.1 (F_spec_DrawShortestWay code).2.2).1.length) ∨ k16_1 = 0 := fun s k => by
      by_cases hk : k = 0
      · exact .inr hk
      · exact .inl (fold_last (F_laws_FnMetrics_L1 code) _ (wf (F_spec_DrawShortestWay code).1 (F_impl_ShortestWay (F_spec_DrawShortestWay code).1 (F_spec_DrawShortestWay code).2.1 (F_spec_DrawShortestWay code).2.2).1) (fun m s i => F_laws_FnMetrics_L1_s code s i m) _ _ _ (by omega))
    rcases hs 0 1 with hs | hs
    · rw [hs, elim_next]
      dsimp only
      clear hs hu
      generalize (F_spec_DrawShortestWay code).2.1 = x
      generalize (F_spec_DrawShortestWay code).2.2 = y
      generalize (F_spec_DrawShortestWay code).1 = t
      cases hc : (F_impl_ClosedMetric t).2 with
      | false =>
        have hi : F_impl_IsMetric t = false := by
          rw [Bool.eq_false_iff]; intro h; rw [metric_ok h] at hc; cases hc
        rw [hi]; rfl
      | true =>
        obtain ⟨_, c1, c2⟩ := closed_ok hc
        have hi : F_impl_IsMetric t = F_laws_rMetric t (F_impl_ClosedMetric t).1 := by
          rw [Bool.eq_iff_iff, rMetric_iff]
          constructor
          · intro h; rw [metric_ok h]
          · intro h; rw [h, c1]; exact c2
        rw [← hi, c1, c2]
        simp only [Bool.not_true, Bool.and_false, bne_self_eq_false, Bool.or_self, cond_false, Bool.true_and]
        cases ho : (F_impl_ShortestWay t x y).2 with
        | false => rfl
        | true =>
          have w := met_way hc ho
          rw [cond_true, w.first, w.last, w.sum, c1, decide_eq_true rfl, decide_eq_true rfl, decide_eq_true rfl, decide_eq_false (by have := w.n1; omega)]
          rfl
    · cases hs
end Go.Proofs.Ytfhhfhiooehlcaa
