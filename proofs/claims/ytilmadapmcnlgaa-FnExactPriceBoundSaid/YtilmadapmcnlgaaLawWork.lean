/-
  Plain laws on work lists: configurations, costs, what a work list is. No condition.
-/
import Derived.Test.YtilmadapmcnlgaaDefW
import Derived.Test.YtilmadapmcnlgaaLawPerm
import Derived.Test.YtilmadapmcnlgaaLawConf
namespace Go.Proofs.Ytilmadapmcnlgaa

/-- A metric and a number of servers. -/
structure Ks (m : List (List Int)) (k : Int) : Prop where
  tp : TabP false m
  tab : Tab m
  k1 : 1 ≤ k
  k3 : k ≤ 3
theorem Sv.ks {m : List (List Int)} {a reqs : List Int} (h : Sv m a reqs) : Ks m (a.length : Int) := ⟨h.tp, h.tab, by have := h.cf.n1; omega, by have := h.cf.n3; omega⟩
theorem isKs_iff (m : List (List Int)) (k : Int) : F_impl_isKs m k = true ↔ F_spec_l6Good m = true ∧ 1 ≤ k ∧ k ≤ 3 := by
  unfold F_impl_isKs
  rw [Bool.and_eq_true, Bool.and_eq_true, isMetric_eq, decide_eq_true_eq, decide_eq_true_eq]
theorem isKs_t {m : List (List Int)} {k : Int} (h : F_impl_isKs m k = true) : Ks m k := by
  obtain ⟨h1, h2, h3⟩ := (isKs_iff m k).1 h
  exact ⟨((l6Good_iff m).1 h1).1, l6Good_t h1, h2, h3⟩
theorem asked_eq (m : List (List Int)) (k : Int) : F_spec_l7Asked m k = F_impl_isKs m k := by
  unfold F_spec_l7Asked F_impl_isKs
  rw [isMetric_eq]
theorem l7Asked_t {m : List (List Int)} {k : Int} (h : F_spec_l7Asked m k = true) : Ks m k := isKs_t (by rw [← asked_eq]; exact h)

/-! the configurations -/
theorem cfg_ev1 (n k : Int) (h : 1 ≤ n ∧ n ≤ 6) (hk : 1 ≤ k ∧ k ≤ 3) : (((F_impl_configsOf n k 0).all fun a => F_spec_l6Config n a && decide ((a.length : Int) = k)) && decide (1 ≤ (F_impl_configsOf n k 0).length) && decide ((F_impl_configsOf n k 0).length ≤ 56) && decide (F_spec_l6Configs n k = F_impl_configsOf n k 0)) = true := by
  have hn : n = 1 ∨ n = 2 ∨ n = 3 ∨ n = 4 ∨ n = 5 ∨ n = 6 := by omega
  have hk : k = 1 ∨ k = 2 ∨ k = 3 := by omega
  rcases hn with rfl | rfl | rfl | rfl | rfl | rfl <;> rcases hk with rfl | rfl | rfl <;> decide +kernel
theorem Ks.cfgs {m : List (List Int)} {k : Int} (h : Ks m k) (i : Nat) (hi : i < (F_impl_configsOf (m.length : Int) k 0).length) : Cf m.length ((F_impl_configsOf (m.length : Int) k 0).getD i []) ∧ ((((F_impl_configsOf (m.length : Int) k 0).getD i []).length : Nat) : Int) = k := by
  have h1 := cfg_ev1 (m.length : Int) k ⟨by have := h.tab.n1; omega, by have := h.tab.n6; omega⟩ ⟨h.k1, h.k3⟩
  simp only [Bool.and_eq_true, List.all_eq_true, decide_eq_true_eq] at h1
  have h2 := h1.1.1.1 _ (getD_mem _ i [] hi)
  exact ⟨(l6Config_iff _ _).1 h2.1, h2.2⟩
theorem Ks.c56 {m : List (List Int)} {k : Int} (h : Ks m k) : 1 ≤ (F_impl_configsOf (m.length : Int) k 0).length ∧ (F_impl_configsOf (m.length : Int) k 0).length ≤ 56 := by
  have h1 := cfg_ev1 (m.length : Int) k ⟨by have := h.tab.n1; omega, by have := h.tab.n6; omega⟩ ⟨h.k1, h.k3⟩
  simp only [Bool.and_eq_true, decide_eq_true_eq] at h1
  exact ⟨h1.1.1.2, h1.1.2⟩
theorem Ks.same {m : List (List Int)} {k : Int} (h : Ks m k) : F_spec_l6Configs (m.length : Int) k = F_impl_configsOf (m.length : Int) k 0 := by
  have h1 := cfg_ev1 (m.length : Int) k ⟨by have := h.tab.n1; omega, by have := h.tab.n6; omega⟩ ⟨h.k1, h.k3⟩
  simp only [Bool.and_eq_true, decide_eq_true_eq] at h1
  exact h1.2
/-- Two configurations of the list have as many servers. -/
theorem Ks.eqlen {m : List (List Int)} {k : Int} (h : Ks m k) (i j : Nat) (hi : i < (F_impl_configsOf (m.length : Int) k 0).length) (hj : j < (F_impl_configsOf (m.length : Int) k 0).length) :
    ((F_impl_configsOf (m.length : Int) k 0).getD i []).length = ((F_impl_configsOf (m.length : Int) k 0).getD j []).length := by
  have h1 := (h.cfgs i hi).2
  have h2 := (h.cfgs j hj).2
  omega
/-- The reference's list of configurations. -/
structure Ksc (m : List (List Int)) (cs : List (List Int)) : Prop where
  tp : TabP false m
  tab : Tab m
  cf : ∀ i, i < cs.length → Cf m.length (cs.getD i [])
  eq : ∀ i j, i < cs.length → j < cs.length → (cs.getD i []).length = (cs.getD j []).length
  n56 : cs.length ≤ 56
theorem Ks.ksc {m : List (List Int)} {k : Int} (h : Ks m k) : Ksc m (F_spec_l6Configs (m.length : Int) k) := by
  rw [h.same]
  exact ⟨h.tp, h.tab, fun i hi => (h.cfgs i hi).1, fun i j hi hj => h.eqlen i j hi hj, h.c56.2⟩

/-! the costs -/
theorem works_L2 (m : List (List Int)) (k : Int) (i : Nat) : ∃ j, F_impl_worksOf_L2 m k i ((F_impl_configsOf (m.length : Int) k 0).length - 0 + 1) ([], 0) = .next ((List.range (F_impl_configsOf (m.length : Int) k 0).length).map (fun j => F_impl_Metric_moveCost m ((F_impl_configsOf (m.length : Int) k 0).getD i []) ((F_impl_configsOf (m.length : Int) k 0).getD j [])), j) := by
  have h := fold_last (F_impl_worksOf_L2 m k i) (F_impl_configsOf (m.length : Int) k 0).length _ (fun mf s j => F_impl_worksOf_L2_s m k i s j mf) ((F_impl_configsOf (m.length : Int) k 0).length - 0 + 1) [] 0 (by omega)
  exact ⟨_, by rw [h, Nat.sub_zero, fold_app, List.nil_append, range'_range]⟩
def costs (m : List (List Int)) (cs : List (List Int)) : List (List Int) := (List.range cs.length).map fun i => (List.range cs.length).map fun j => F_impl_Metric_moveCost m (cs.getD i []) (cs.getD j [])
theorem worksOf_eq (m : List (List Int)) (k : Int) : F_impl_worksOf m k = (F_impl_configsOf (m.length : Int) k 0, costs m (F_impl_configsOf (m.length : Int) k 0)) := by
  unfold F_impl_worksOf
  have h := fold_first (F_impl_worksOf_L1 m k) (F_impl_configsOf (m.length : Int) k 0).length (fun i s => s ++ [(List.range (F_impl_configsOf (m.length : Int) k 0).length).map (fun j => F_impl_Metric_moveCost m ((F_impl_configsOf (m.length : Int) k 0).getD i []) ((F_impl_configsOf (m.length : Int) k 0).getD j []))]) (fun mf s i => by
    obtain ⟨j, e⟩ := works_L2 m k i
    rw [F_impl_worksOf_L1_s, e]; rfl) ((F_impl_configsOf (m.length : Int) k 0).length - 0 + 1) [] 0 (by omega)
  rw [h, Nat.sub_zero, fold_app, List.nil_append, range'_range]
  rfl
theorem costs_len (m cs : List (List Int)) : (costs m cs).length = cs.length := by simp [costs]
theorem costs_get (m cs : List (List Int)) (i : Nat) (h : i < cs.length) : (costs m cs).getD i [] = (List.range cs.length).map fun j => F_impl_Metric_moveCost m (cs.getD i []) (cs.getD j []) := by
  unfold costs
  rw [getD_lt _ _ _ (by simpa using h)]
  simp
theorem costs_row (m cs : List (List Int)) (i : Nat) (h : i < cs.length) : ((costs m cs).getD i []).length = cs.length := by rw [costs_get m cs i h]; simp
theorem costs_el (m cs : List (List Int)) (i j : Nat) (h : i < cs.length) (hj : j < cs.length) : ((costs m cs).getD i []).getD j 0 = F_impl_Metric_moveCost m (cs.getD i []) (cs.getD j []) := by
  rw [costs_get m cs i h, getD_lt _ _ _ (by simpa using hj)]
  simp
/-- Configurations and costs as the walks need them. -/
structure Wd (cs ks : List (List Int)) : Prop where
  len : ks.length = cs.length
  row : ∀ i, i < ks.length → (ks.getD i []).length = cs.length
  el : ∀ i j, 0 ≤ (ks.getD i []).getD j 0 ∧ (ks.getD i []).getD j 0 ≤ 297
  n1 : 1 ≤ cs.length
  n56 : cs.length ≤ 56
theorem Ks.wd {m : List (List Int)} {k : Int} (h : Ks m k) : Wd (F_impl_worksOf m k).1 (F_impl_worksOf m k).2 := by
  rw [worksOf_eq]
  refine ⟨costs_len _ _, fun i hi => costs_row _ _ _ (by rw [costs_len] at hi; exact hi), fun i j => ?_, h.c56.1, h.c56.2⟩
  by_cases hi : i < (F_impl_configsOf (m.length : Int) k 0).length
  · by_cases hj : j < (F_impl_configsOf (m.length : Int) k 0).length
    · show 0 ≤ ((costs m (F_impl_configsOf (m.length : Int) k 0)).getD i []).getD j 0 ∧ _
      rw [costs_el _ _ _ _ hi hj]
      exact moveCost_le h.tp (h.cfgs i hi).1 (h.cfgs j hj).1 (h.eqlen i j hi hj)
    · rw [getD_ge ((costs m (F_impl_configsOf (m.length : Int) k 0)).getD i []) j 0 (by rw [costs_row _ _ _ hi]; omega)]; omega
  · rw [getD_ge (costs m (F_impl_configsOf (m.length : Int) k 0)) i [] (by rw [costs_len]; omega), getD_ge [] j 0 (Nat.zero_le _)]; omega

/-! work lists -/
theorem isWork_L2 (ks : List (List Int)) (w : List Int) (i : Nat) : ((∃ s, F_impl_works_isWork_L2 ks w i (w.length - 0 + 1) 0 = .next s) ∧ ∀ j, j < w.length → w.getD i 0 - w.getD j 0 ≤ (ks.getD i []).getD j 0) ∨
    (F_impl_works_isWork_L2 ks w i (w.length - 0 + 1) 0 = .ret false ∧ ∃ j, j < w.length ∧ ¬ w.getD i 0 - w.getD j 0 ≤ (ks.getD i []).getD j 0) := by
  rcases scan (F_impl_works_isWork_L2 ks w i) w.length _ (fun _ => false) (fun m j => F_impl_works_isWork_L2_s ks w i j m) (w.length - 0 + 1) 0 (by omega) with ⟨h1, h2⟩ | ⟨j, _, h2, h3, h4, _⟩
  · refine .inl ⟨⟨_, h1⟩, fun j hj => ?_⟩
    have := h2 j (Nat.zero_le _) hj
    rw [decide_eq_false_iff_not] at this; omega
  · refine .inr ⟨h3, j, h2, ?_⟩
    rw [decide_eq_true_eq] at h4; omega
theorem isWork_iff (cs ks : List (List Int)) (w : List Int) : F_impl_works_isWork cs ks w = true ↔ w.length = cs.length ∧ (∀ i, i < w.length → 0 ≤ w.getD i 0 ∧ w.getD i 0 < 100000) ∧ ∀ i j, i < w.length → j < w.length → w.getD i 0 - w.getD j 0 ≤ (ks.getD i []).getD j 0 := by
  unfold F_impl_works_isWork
  cases hb : ((!decide ((w.length : Int) = (cs.length : Int))) || (!(F_impl_areBelow 100000 w))) with
  | true =>
    rw [cond_true]
    refine ⟨fun h => by (cases h), fun ⟨h1, h2, _⟩ => ?_⟩
    rw [(areBelow_iff 100000 w).2 h2, decide_eq_true (by omega)] at hb
    cases hb
  | false =>
    simp only [Bool.or_eq_false_iff, Bool.not_eq_false', decide_eq_true_eq, areBelow_iff] at hb
    rw [cond_false]
    rcases scanC (F_impl_works_isWork_L1 ks w) w.length _ (fun m i => F_impl_works_isWork_L1_s ks w i m) (w.length - 0 + 1) 0 (by omega) with ⟨h1, h2⟩ | ⟨i, r, _, h2, h3, h4, _⟩
    · rw [h1]
      refine ⟨fun _ => ⟨by omega, hb.2, fun i j hi hj => ?_⟩, fun _ => rfl⟩
      obtain ⟨s, hs⟩ := h2 i (Nat.zero_le _) hi
      rcases isWork_L2 ks w i with ⟨_, g⟩ | ⟨g, _⟩
      · exact g j hj
      · rw [g] at hs; cases hs
    · rw [h3]
      rcases isWork_L2 ks w i with ⟨⟨s, g⟩, _⟩ | ⟨g, j, hj, gj⟩
      · rw [g] at h4; cases h4
      · rw [g] at h4; cases h4
        exact ⟨fun h => by (cases h), fun ⟨_, _, h⟩ => absurd (h i j h2 hj) gj⟩
theorem isWork_t {cs ks : List (List Int)} {w : List Int} (h : F_impl_works_isWork cs ks w = true) : w.length = cs.length ∧ (∀ i, i < w.length → 0 ≤ w.getD i 0 ∧ w.getD i 0 < 100000) ∧ ∀ i j, i < w.length → j < w.length → w.getD i 0 - w.getD j 0 ≤ (ks.getD i []).getD j 0 := (isWork_iff cs ks w).1 h
/-- A work list of a metric and so many servers. -/
structure Wk (m : List (List Int)) (cs : List (List Int)) (w : List Int) : Prop where
  len : w.length = cs.length
  el : ∀ i, i < w.length → 0 ≤ w.getD i 0 ∧ w.getD i 0 < 100000
  lip : ∀ i j, i < w.length → j < w.length → w.getD i 0 - w.getD j 0 ≤ F_impl_Metric_moveCost m (cs.getD i []) (cs.getD j [])
theorem isWork_wk (m : List (List Int)) (k : Int) (w : List Int) : F_impl_works_isWork (F_impl_worksOf m k).1 (F_impl_worksOf m k).2 w = true ↔ Wk m (F_impl_configsOf (m.length : Int) k 0) w := by
  rw [worksOf_eq, isWork_iff]
  constructor
  · rintro ⟨h1, h2, h3⟩
    exact ⟨h1, h2, fun i j hi hj => by have := h3 i j hi hj; rwa [costs_el _ _ _ _ (h1 ▸ hi) (h1 ▸ hj)] at this⟩
  · rintro ⟨h1, h2, h3⟩
    exact ⟨h1, h2, fun i j hi hj => by rw [costs_el _ _ _ _ (h1 ▸ hi) (h1 ▸ hj)]; exact h3 i j hi hj⟩
theorem work_L3 (m cs : List (List Int)) (w : List Int) (i : Nat) : ((∃ s, F_spec_l7Work_L3 m cs w i (i - 0 + 1) 0 = .next s) ∧ ∀ j, j < i → max (w.getD i 0 - w.getD j 0) (w.getD j 0 - w.getD i 0) ≤ F_spec_l6Move m (cs.getD i []) (cs.getD j [])) ∨
    (F_spec_l7Work_L3 m cs w i (i - 0 + 1) 0 = .ret false ∧ ∃ j, j < i ∧ ¬ max (w.getD i 0 - w.getD j 0) (w.getD j 0 - w.getD i 0) ≤ F_spec_l6Move m (cs.getD i []) (cs.getD j [])) := by
  rcases scan (F_spec_l7Work_L3 m cs w i) i _ (fun _ => false) (fun q j => F_spec_l7Work_L3_s m cs w i j q) (i - 0 + 1) 0 (by omega) with ⟨h1, h2⟩ | ⟨j, _, h2, h3, h4, _⟩
  · refine .inl ⟨⟨_, h1⟩, fun j hj => ?_⟩
    have := h2 j (Nat.zero_le _) hj
    rw [decide_eq_false_iff_not, l1Most_eq] at this; omega
  · refine .inr ⟨h3, j, h2, ?_⟩
    rw [decide_eq_true_eq, l1Most_eq] at h4; omega
theorem l7Work_iff (m cs : List (List Int)) (w : List Int) : F_spec_l7Work m cs w = true ↔ w.length = cs.length ∧ (∀ i, i < w.length → 0 ≤ w.getD i 0 ∧ w.getD i 0 < 100000) ∧ ∀ i j, i < w.length → j < i → max (w.getD i 0 - w.getD j 0) (w.getD j 0 - w.getD i 0) ≤ F_spec_l6Move m (cs.getD i []) (cs.getD j []) := by
  unfold F_spec_l7Work
  by_cases hl : (w.length : Int) = (cs.length : Int)
  · rw [decide_eq_true hl, Bool.not_true, cond_false]
    rcases scan (F_spec_l7Work_L1 w) w.length _ (fun _ => false) (fun q j => F_spec_l7Work_L1_s w j q) (w.length - 0 + 1) 0 (by omega) with ⟨h1, h2⟩ | ⟨j, _, h2, h3, h4, _⟩
    · have hb : ∀ i, i < w.length → 0 ≤ w.getD i 0 ∧ w.getD i 0 < 100000 := fun i hi => by
        have := h2 i (Nat.zero_le _) hi
        simp only [Bool.not_eq_false', Bool.and_eq_true, decide_eq_true_eq] at this
        omega
      rw [h1]
      simp only [Ctl.elim]
      rcases scanC (F_spec_l7Work_L2 m cs w) w.length _ (fun q i => F_spec_l7Work_L2_s m cs w i q) (w.length - 0 + 1) 0 (by omega) with ⟨g1, g2⟩ | ⟨i, r, _, g2, g3, g4, _⟩
      · rw [g1]
        refine ⟨fun _ => ⟨by omega, hb, fun i j hi hj => ?_⟩, fun _ => rfl⟩
        obtain ⟨s, hs⟩ := g2 i (Nat.zero_le _) hi
        rcases work_L3 m cs w i with ⟨_, g⟩ | ⟨g, _⟩
        · exact g j hj
        · rw [g] at hs; cases hs
      · rw [g3]
        rcases work_L3 m cs w i with ⟨⟨s, g⟩, _⟩ | ⟨g, j, hj, gj⟩
        · rw [g] at g4; cases g4
        · rw [g] at g4; cases g4
          exact ⟨fun h => by (cases h), fun ⟨_, _, h⟩ => absurd (h i j g2 hj) gj⟩
    · rw [h3]
      refine ⟨fun h => by (cases h), fun ⟨_, h, _⟩ => ?_⟩
      have := h j h2
      simp only [Bool.not_eq_true', Bool.and_eq_false_iff, decide_eq_false_iff_not] at h4
      omega
  · rw [decide_eq_false hl]
    exact ⟨fun h => by (cases h), fun ⟨h, _⟩ => absurd (by omega) hl⟩
theorem work_eq {m : List (List Int)} {k : Int} (hk : Ks m k) (w : List Int) : F_impl_works_isWork (F_impl_worksOf m k).1 (F_impl_worksOf m k).2 w = F_spec_l7Work m (F_spec_l6Configs (m.length : Int) k) w := by
  rw [Bool.eq_iff_iff, isWork_wk, l7Work_iff, hk.same]
  have hm : ∀ i j, i < (F_impl_configsOf (m.length : Int) k 0).length → j < (F_impl_configsOf (m.length : Int) k 0).length → F_spec_l6Move m ((F_impl_configsOf (m.length : Int) k 0).getD i []) ((F_impl_configsOf (m.length : Int) k 0).getD j []) = F_impl_Metric_moveCost m ((F_impl_configsOf (m.length : Int) k 0).getD i []) ((F_impl_configsOf (m.length : Int) k 0).getD j []) := fun i j hi hj =>
    move_eq hk.tp (hk.cfgs i hi).1 (hk.cfgs j hj).1 (hk.eqlen i j hi hj)
  have hs : ∀ i j, i < (F_impl_configsOf (m.length : Int) k 0).length → j < (F_impl_configsOf (m.length : Int) k 0).length → F_impl_Metric_moveCost m ((F_impl_configsOf (m.length : Int) k 0).getD i []) ((F_impl_configsOf (m.length : Int) k 0).getD j []) = F_impl_Metric_moveCost m ((F_impl_configsOf (m.length : Int) k 0).getD j []) ((F_impl_configsOf (m.length : Int) k 0).getD i []) := fun i j hi hj =>
    move_symm hk.tp (hk.cfgs i hi).1 (hk.cfgs j hj).1 (hk.eqlen i j hi hj)
  constructor
  · rintro ⟨h1, h2, h3⟩
    refine ⟨h1, h2, fun i j hi hj => ?_⟩
    rw [hm i j (by omega) (by omega)]
    have := h3 i j hi (by omega)
    have := h3 j i (by omega) hi
    have := hs i j (by omega) (by omega)
    omega
  · rintro ⟨h1, h2, h3⟩
    refine ⟨h1, h2, fun i j hi hj => ?_⟩
    have h4 := hs i j (by omega) (by omega)
    rcases Nat.lt_trichotomy i j with h | h | h
    · have := h3 j i hj h
      rw [hm j i (by omega) (by omega)] at this
      omega
    · subst h
      have := (moveCost_le hk.tp (hk.cfgs i (by omega)).1 (hk.cfgs i (by omega)).1 rfl).1
      omega
    · have := h3 i j hi h
      rw [hm i j (by omega) (by omega)] at this
      omega
theorem l7Work_t {m cs : List (List Int)} {w : List Int} (h : F_spec_l7Work m cs w = true) : w.length = cs.length ∧ (∀ i, i < w.length → 0 ≤ w.getD i 0 ∧ w.getD i 0 < 100000) := ⟨((l7Work_iff m cs w).1 h).1, ((l7Work_iff m cs w).1 h).2.1⟩
theorem isWorkFn_eq (m : List (List Int)) (k : Int) (w : List Int) : F_impl_IsWork m k w = F_spec_IsWork m k w := by
  unfold F_impl_IsWork F_spec_IsWork
  rw [asked_eq]
  cases h : F_impl_isKs m k with
  | false => rfl
  | true => rw [work_eq (isKs_t h)]
theorem law_IsWork (m : List (List Int)) (k : Int) (w : List Int) : F_laws_FnExactIsWork m k w = true := by
  unfold F_laws_FnExactIsWork
  simp only [toMetric_eq, toIntS_eq, isWorkFn_eq, eqMetric_refl, eqIntS_refl]
  simp
end Go.Proofs.Ytilmadapmcnlgaa
