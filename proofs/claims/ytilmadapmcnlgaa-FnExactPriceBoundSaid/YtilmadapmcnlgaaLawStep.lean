/-
  Plain laws on work lists: the steps, the lists, their values. No condition.
-/
import Derived.Test.YtilmadapmcnlgaaLawIdx
namespace Go.Proofs.Ytilmadapmcnlgaa

theorem isSmall_t {l : List Int} (h : F_impl_isSmall l = true) : ∀ i, i < l.length → 0 ≤ l.getD i 0 ∧ l.getD i 0 < 100000 := (areBelow_iff 100000 l).1 h
structure Wf (m : List (List Int)) (k : Int) (w : List Int) : Prop where
  ks : Ks m k
  b : (F_impl_worksFor m k w).1 = true
  c1 : (F_impl_worksFor m k w).2.1 = F_impl_configsOf (m.length : Int) k 0
  c2 : (F_impl_worksFor m k w).2.2.1 = costs m (F_impl_configsOf (m.length : Int) k 0)
  wk : Wk m (F_impl_configsOf (m.length : Int) k 0) w
theorem worksFor_t {m : List (List Int)} {k : Int} {w : List Int} (h : (F_impl_worksFor m k w).2.2.2 = true) : Wf m k w := by
  cases hk : F_impl_isKs m k with
  | false => unfold F_impl_worksFor at h; rw [hk] at h; cases h
  | true =>
    have e : F_impl_worksFor m k w = (true, (F_impl_worksOf m k).1, (F_impl_worksOf m k).2, F_impl_works_isWork (F_impl_worksOf m k).1 (F_impl_worksOf m k).2 w) := by unfold F_impl_worksFor; rw [hk]; rfl
    rw [e] at h
    exact ⟨isKs_t hk, by rw [e], by rw [e, worksOf_eq], by rw [e, worksOf_eq], (isWork_wk m k w).1 h⟩
theorem Wf.wd {m : List (List Int)} {k : Int} {w : List Int} (h : Wf m k w) : Wd (F_impl_worksFor m k w).2.1 (F_impl_worksFor m k w).2.2.1 := by
  have := h.ks.wd
  rw [worksOf_eq] at this
  rw [h.c1, h.c2]; exact this
theorem Wf.len {m : List (List Int)} {k : Int} {w : List Int} (h : Wf m k w) : w.length = (F_impl_worksFor m k w).2.1.length := by rw [h.c1]; exact h.wk.len
theorem Wf.el {m : List (List Int)} {k : Int} {w : List Int} (h : Wf m k w) (i : Nat) : 0 ≤ w.getD i 0 ∧ w.getD i 0 ≤ 99999 := h.wk.lp.el i
theorem Wf.idx {m : List (List Int)} {k : Int} {w : List Int} (h : Wf m k w) {c : List Int} (hc : Cf m.length c) (hl : (c.length : Int) = k) :
    0 ≤ F_impl_works_index (F_impl_worksFor m k w).2.1 (F_impl_worksFor m k w).2.2.1 c ∧ F_impl_works_index (F_impl_worksFor m k w).2.1 (F_impl_worksFor m k w).2.2.1 c < w.length := by
  obtain ⟨i, hi, _, e, _⟩ := h.ks.find (costs m (F_impl_configsOf (m.length : Int) k 0)) hc hl
  rw [h.c1, h.c2, e]
  have := h.wk.len
  omega
theorem for_eq (m : List (List Int)) (k : Int) (w : List Int) : (F_impl_worksFor m k w).2.2.2 = (bif F_spec_l7Asked m k then F_spec_l7Work m (F_spec_l6Configs (m.length : Int) k) w else false) := by
  rw [asked_eq]
  unfold F_impl_worksFor
  cases hk : F_impl_isKs m k with
  | false => rfl
  | true => exact work_eq (isKs_t hk) w
theorem given_eq (m : List (List Int)) (k : Int) (w : List Int) (r : Int) : F_spec_l7Given m k w r = ((F_impl_worksFor m k w).2.2.2 && ((decide (0 ≤ r)) && (decide (r ≤ ((m.length : Int) - 1))))) := by
  rw [for_eq]
  unfold F_spec_l7Given
  cases F_spec_l7Asked m k <;> cases ((decide (0 ≤ r)) && (decide (r ≤ ((m.length : Int) - 1)))) <;> simp
structure Gv (m : List (List Int)) (k : Int) (w : List Int) (r : Int) : Prop where
  wf : Wf m k w
  ks : Ks m k
  len : w.length = (F_spec_l6Configs (m.length : Int) k).length
  el : ∀ i, 0 ≤ w.getD i 0 ∧ w.getD i 0 ≤ 99999
  r0 : 0 ≤ r
  rn : r < m.length
theorem l7Given_t {m : List (List Int)} {k : Int} {w : List Int} {r : Int} (h : F_spec_l7Given m k w r = true) : Gv m k w r := by
  rw [given_eq] at h
  simp only [Bool.and_eq_true, decide_eq_true_eq] at h
  have hw := worksFor_t h.1
  exact ⟨hw, hw.ks, by rw [hw.ks.same]; exact hw.wk.len, hw.el, h.2.1, by omega⟩

/-! the first work list -/
theorem start_eq {m : List (List Int)} {k : Int} (hk : Ks m k) {a : List Int} (ha : Cf m.length a) (hl : (a.length : Int) = k) :
    F_spec_l7Start m k a = (List.range (F_impl_configsOf (m.length : Int) k 0).length).map fun j => F_impl_Metric_moveCost m a ((F_impl_configsOf (m.length : Int) k 0).getD j []) := by
  unfold F_spec_l7Start
  have h := fold_last (F_spec_l7Start_L1 m k a) (F_spec_l6Configs (m.length : Int) k).length _ (fun mf s j => F_spec_l7Start_L1_s m k a s j mf) ((F_spec_l6Configs (m.length : Int) k).length - 0 + 1) [] 0 (by omega)
  rw [h, Nat.sub_zero, fold_app, List.nil_append, range'_range, hk.same]
  simp only [elim_next]
  refine List.map_congr_left fun j hj => ?_
  have hj := List.mem_range.1 hj
  have h1 := hk.cfgs j hj
  exact move_eq hk.tp ha h1.1 (by omega)
theorem row_eq {m : List (List Int)} {k : Int} (hk : Ks m k) {a : List Int} (ha : Cf m.length a) (hl : (a.length : Int) = k) :
    (costs m (F_impl_configsOf (m.length : Int) k 0)).getD (F_impl_works_index (F_impl_configsOf (m.length : Int) k 0) (costs m (F_impl_configsOf (m.length : Int) k 0)) a).toNat [] = F_spec_l7Start m k a := by
  obtain ⟨i, hi, e1, e2, _⟩ := hk.find (costs m (F_impl_configsOf (m.length : Int) k 0)) ha hl
  rw [e2, Int.toNat_natCast, costs_get _ _ _ hi, e1, start_eq hk ha hl]
theorem start_lp {m : List (List Int)} {k : Int} (hk : Ks m k) (ht : ∀ x y z, x < m.length → y < m.length → z < m.length → el m x z ≤ el m x y + el m y z) {a : List Int} (ha : Cf m.length a) (hl : (a.length : Int) = k) :
    Lp m (F_impl_configsOf (m.length : Int) k 0) 297 (F_spec_l7Start m k a) := by
  rw [start_eq hk ha hl]
  have hg : ∀ i, i < (F_impl_configsOf (m.length : Int) k 0).length → ((List.range (F_impl_configsOf (m.length : Int) k 0).length).map fun j => F_impl_Metric_moveCost m a ((F_impl_configsOf (m.length : Int) k 0).getD j [])).getD i 0 = F_impl_Metric_moveCost m a ((F_impl_configsOf (m.length : Int) k 0).getD i []) := fun i hi => by
    rw [getD_lt _ _ _ (by simpa using hi)]; simp
  have hlen : ∀ i, i < (F_impl_configsOf (m.length : Int) k 0).length → a.length = ((F_impl_configsOf (m.length : Int) k 0).getD i []).length := fun i hi => by have := (hk.cfgs i hi).2; omega
  refine ⟨by simp, fun i => ?_, fun i j hi hj => ?_⟩
  · by_cases hi : i < (F_impl_configsOf (m.length : Int) k 0).length
    · rw [hg i hi]; exact moveCost_le hk.tp ha (hk.cfgs i hi).1 (hlen i hi)
    · rw [getD_ge _ _ _ (by simp; omega)]; omega
  · rw [hg i hi, hg j hj]
    have h1 := move_tri hk.tp ht ha (hk.cfgs j hj).1 (hk.cfgs i hi).1 (hlen j hj) (hk.eqlen j i hj hi)
    have h2 := move_symm hk.tp (hk.cfgs j hj).1 (hk.cfgs i hi).1 (hk.eqlen j i hj hi)
    omega
theorem start_bd {m : List (List Int)} {k : Int} (hk : Ks m k) {a : List Int} (ha : Cf m.length a) (hl : (a.length : Int) = k) :
    (F_spec_l7Start m k a).length = (F_impl_configsOf (m.length : Int) k 0).length ∧ ∀ i, 0 ≤ (F_spec_l7Start m k a).getD i 0 ∧ (F_spec_l7Start m k a).getD i 0 ≤ 297 := by
  rw [start_eq hk ha hl]
  refine ⟨by simp, fun i => ?_⟩
  by_cases hi : i < (F_impl_configsOf (m.length : Int) k 0).length
  · rw [getD_lt _ _ _ (by simpa using hi)]
    simp only [List.getElem_map, List.getElem_range]
    exact moveCost_le hk.tp ha (hk.cfgs i hi).1 (by have := (hk.cfgs i hi).2; omega)
  · rw [getD_ge _ _ _ (by simp; omega)]; omega
theorem startWork_eq (m : List (List Int)) (a : List Int) : F_impl_StartWork m a = F_spec_StartWork m a := by
  unfold F_impl_StartWork F_spec_StartWork
  have hg : (!(F_impl_isServed m a [])) = ((!(F_spec_l6Good m)) || (!(F_spec_l6Config (m.length : Int) a))) := by
    rw [← Bool.not_and]; congr 1
    rw [Bool.eq_iff_iff, isServed_iff, Bool.and_eq_true, l6Config_iff]
    exact ⟨fun h => ⟨h.1, h.2.1⟩, fun h => ⟨h.1, h.2, by simp, fun i hi => by simp at hi⟩⟩
  rw [← hg]
  cases h : F_impl_isServed m a [] with
  | false => rfl
  | true =>
    have hs := isServed_t h
    simp only [Bool.not_true, cond_false]
    rw [worksOf_eq, row_eq hs.ks hs.cf rfl]
theorem startWork_len (m : List (List Int)) (a : List Int) : (F_impl_StartWork m a).1.length ≤ 56 := by
  unfold F_impl_StartWork
  cases h : F_impl_isServed m a [] with
  | false => simp
  | true =>
    have hs := isServed_t h
    simp only [Bool.not_true, cond_false]
    rw [worksOf_eq, row_eq hs.ks hs.cf rfl]
    have := (start_bd hs.ks hs.cf rfl).1
    have := hs.ks.c56
    omega
theorem law_StartWork (m : List (List Int)) (a : List Int) : F_laws_FnExactStartWork m a = true := by
  unfold F_laws_FnExactStartWork
  simp only [toMetric_eq, toIntS_eq, startWork_eq, eqMetric_refl, eqIntS_refl, markIntS_eq, markMetric_eq, heldIntS_iota]
  have h1 : ¬ ((1 : Int) + (total m : Int) + (a.length : Int) < 0) := by omega
  have h2 : ¬ ((1 : Int) + ((F_spec_StartWork m a).1.length : Int) < 0) := by omega
  simp [h1, h2]

/-! a step -/
theorem greatest_L1 (l : List Int) : ∀ fuel i M, l.length - i < fuel → ∃ M' i', F_spec_l7Greatest_L1 l fuel (M, i) = .next (M', i') ∧ M ≤ M' ∧ (∀ q, i ≤ q → q < l.length → l.getD q 0 ≤ M') ∧ (M' = M ∨ ∃ q, q < l.length ∧ M' = l.getD q 0) := by
  intro fuel
  induction fuel with
  | zero => intro i M h; omega
  | succ mf ih =>
    intro i M h
    rw [F_spec_l7Greatest_L1_s, l1Most_eq]
    by_cases hi : (i : Int) < (l.length : Int)
    · rw [decide_eq_true hi, cond_true]
      obtain ⟨M', i', h1, h2, h3, h4⟩ := ih (i + 1) (max M (l.getD i 0)) (by omega)
      refine ⟨M', i', h1, by omega, fun q hq hl => ?_, ?_⟩
      · rcases Nat.eq_or_lt_of_le hq with rfl | hq
        · omega
        · exact h3 q hq hl
      · rcases h4 with h4 | h4
        · by_cases hm : l.getD i 0 ≤ M
          · left; omega
          · right; exact ⟨i, by omega, by omega⟩
        · exact .inr h4
    · rw [decide_eq_false hi, cond_false]
      exact ⟨M, i, rfl, Int.le_refl _, fun q h1 h2 => by omega, .inl rfl⟩
theorem small_eq {l : List Int} (h : ∀ i, 0 ≤ l.getD i 0) : F_impl_isSmall l = !decide (99999 < F_spec_l7Greatest l) := by
  obtain ⟨M, i', h1, h2, h3, h4⟩ := greatest_L1 l (l.length - 0 + 1) 0 0 (by omega)
  have e : F_spec_l7Greatest l = M := by unfold F_spec_l7Greatest; rw [h1]; rfl
  rw [e, Bool.eq_iff_iff]
  simp only [Bool.not_eq_true', decide_eq_false_iff_not]
  show F_impl_areBelow 100000 l = true ↔ _
  rw [areBelow_iff]
  constructor
  · intro hh
    rcases h4 with h4 | ⟨q, hq, h4⟩
    · omega
    · have := hh q hq; omega
  · intro hh q hq
    have := h3 q (Nat.zero_le _) hq
    exact ⟨h q, by omega⟩
theorem stepWork_eq (m : List (List Int)) (k : Int) (w : List Int) (r : Int) : F_impl_StepWork m k w r = F_spec_StepWork m k w r := by
  unfold F_impl_StepWork F_spec_StepWork
  rw [← Bool.not_and, ← given_eq]
  cases hg : F_spec_l7Given m k w r with
  | false => rfl
  | true =>
    have hv := l7Given_t hg
    simp only [Bool.not_true, cond_false]
    rw [hv.wf.c1, hv.wf.c2, next_same hv.ks (by omega) hv.wf.wk.lp hv.r0 hv.rn, small_eq (fun i => ((lnext_bd hv.ks (B := 99999) (by omega) hv.el r).2 i).1), Bool.not_not]
theorem stepWork_len (m : List (List Int)) (k : Int) (w : List Int) (r : Int) : (F_impl_StepWork m k w r).1.length ≤ 56 := by
  rw [stepWork_eq]
  unfold F_spec_StepWork
  cases hg : F_spec_l7Given m k w r with
  | false => simp
  | true =>
    have hv := l7Given_t hg
    simp only [Bool.not_true, cond_false]
    have h1 := (lnext_bd hv.ks (B := 99999) (by omega) hv.el r).1
    have h2 := hv.ks.c56
    cases decide (99999 < F_spec_l7Greatest (F_spec_l7Next m k w r))
    · simp only [cond_false]; omega
    · simp
theorem law_StepWork (m : List (List Int)) (k : Int) (w : List Int) (r : Int) : F_laws_FnExactStepWork m k w r = true := by
  unfold F_laws_FnExactStepWork
  simp only [toMetric_eq, toIntS_eq, stepWork_eq, eqMetric_refl, eqIntS_refl, markIntS_eq, markMetric_eq, heldIntS_iota]
  have h1 : ¬ ((1 : Int) + (total m : Int) + (w.length : Int) < 0) := by omega
  have h2 : ¬ ((1 : Int) + ((F_spec_StepWork m k w r).1.length : Int) < 0) := by omega
  simp [h1, h2]

/-! growth -/
theorem growth_fold (g : Nat → Int) : ∀ n i s, foldFrom (fun i s => F_spec_l1Most s (g i)) i n s = foldFrom (fun i s => max s (g i)) i n s
  | 0, _, _ => rfl
  | n + 1, i, s => by rw [foldFrom, foldFrom, l1Most_eq, growth_fold g n]
theorem growthOf_eq (m : List (List Int)) (k : Int) (w : List Int) (r : Int) : F_impl_GrowthOf m k w r = F_spec_GrowthOf m k w r := by
  have hst := stepWork_eq m k w r
  unfold F_impl_GrowthOf F_spec_GrowthOf
  cases hg : F_spec_l7Given m k w r with
  | false =>
    have e : F_spec_StepWork m k w r = ([], false) := by unfold F_spec_StepWork; rw [hg]; rfl
    rw [hst, e]; rfl
  | true =>
    have hv := l7Given_t hg
    simp only [Bool.not_true, cond_false]
    cases hd : decide (99999 < F_spec_l7Greatest (F_spec_l7Next m k w r)) with
    | true =>
      have e : F_spec_StepWork m k w r = ([], false) := by unfold F_spec_StepWork; rw [hg, hd]; rfl
      rw [hst, e]; rfl
    | false =>
      have e : F_spec_StepWork m k w r = (F_spec_l7Next m k w r, true) := by unfold F_spec_StepWork; rw [hg, hd]; rfl
      have hl : (F_spec_l7Next m k w r).length = w.length := by
        have h1 := (lnext_bd hv.ks (B := 99999) (by omega) hv.el r).1
        have h2 := hv.wf.wk.len
        omega
      have h := fold_last (F_impl_GrowthOf_L1 m k w r) (F_impl_StepWork m k w r).1.length _ (fun mf s j => F_impl_GrowthOf_L1_s m k w r s j mf) ((F_impl_StepWork m k w r).1.length - 0 + 1) 0 0 (by omega)
      rw [h, hst, e]
      unfold F_spec_l7Growth
      have h2 := fold_last (F_spec_l7Growth_L1 w (F_spec_l7Next m k w r)) w.length _ (fun mf s j => F_spec_l7Growth_L1_s w (F_spec_l7Next m k w r) s j mf) (w.length - 0 + 1) 0 0 (by omega)
      rw [h2]
      simp only [elim_next, Bool.not_true, cond_false, hl]
      rw [growth_fold (fun i => (F_spec_l7Next m k w r).getD i 0 - w.getD i 0)]
theorem law_GrowthOf (m : List (List Int)) (k : Int) (w : List Int) (r : Int) : F_laws_FnExactGrowthOf m k w r = true := by
  unfold F_laws_FnExactGrowthOf
  simp only [toMetric_eq, toIntS_eq, growthOf_eq, eqMetric_refl, eqIntS_refl]
  simp

/-! a value -/
theorem workOf_eq (m : List (List Int)) (k : Int) (w c : List Int) : F_impl_WorkOf m k w c = F_spec_WorkOf m k w c := by
  unfold F_impl_WorkOf F_spec_WorkOf
  have hg : (((!((F_impl_worksFor m k w).2.2.2)) || (!(F_impl_Metric_isConfig m c))) || (!decide ((c.length : Int) = k))) = (((!(F_spec_l7Given m k w 0)) || (!decide ((c.length : Int) = k))) || (!(F_spec_l6Config (m.length : Int) c))) := by
    rw [given_eq, config_eq]
    cases hf : (F_impl_worksFor m k w).2.2.2 with
    | false => rfl
    | true =>
      have hn := (worksFor_t hf).ks.n
      rw [decide_eq_true (show (0 : Int) ≤ (m.length : Int) - 1 by omega)]
      cases F_spec_l6Config (m.length : Int) c <;> cases decide ((c.length : Int) = k) <;> rfl
  rw [hg]
  cases hb : (((!(F_spec_l7Given m k w 0)) || (!decide ((c.length : Int) = k))) || (!(F_spec_l6Config (m.length : Int) c))) with
  | true => rfl
  | false =>
    simp only [Bool.or_eq_false_iff, Bool.not_eq_false', decide_eq_true_eq] at hb
    have hv := l7Given_t hb.1.1
    obtain ⟨i, hi, _, e1, e2⟩ := hv.ks.find (costs m (F_impl_configsOf (m.length : Int) k 0)) ((l6Config_iff _ _).1 hb.2) hb.1.2
    rw [cond_false, cond_false, hv.wf.c1, hv.wf.c2, e1, hv.ks.same, e2]
theorem law_WorkOf (m : List (List Int)) (k : Int) (w c : List Int) : F_laws_FnExactWorkOf m k w c = true := by
  unfold F_laws_FnExactWorkOf
  simp only [toMetric_eq, toIntS_eq, workOf_eq, eqMetric_refl, eqIntS_refl]
  simp

/-! the lists -/
def Rws (cs out : List (List Int)) : Prop := ∀ j, j < out.length → (out.getD j []).length = cs.length ∧ ∀ i, 0 ≤ (out.getD j []).getD i 0 ∧ (out.getD j []).getD i 0 ≤ 1073741824
theorem getDD_app_lt {a : List (List Int)} {v : List Int} {i : Nat} (h : i < a.length) : (a ++ [v]).getD i [] = a.getD i [] := by
  rw [List.getD_eq_getElem?_getD, List.getD_eq_getElem?_getD, List.getElem?_append_left h]
theorem getDD_app_eq {a : List (List Int)} {v : List Int} {i : Nat} (h : i = a.length) : (a ++ [v]).getD i [] = v := by
  subst h; simp
theorem Rws.one {cs : List (List Int)} {x : List Int} (h : x.length = cs.length) (hb : ∀ i, 0 ≤ x.getD i 0 ∧ x.getD i 0 ≤ 1073741824) : Rws cs [x] := fun j hj => by
  have : j = 0 := by simpa using hj
  subst this; exact ⟨h, hb⟩
theorem Rws.push {cs out : List (List Int)} (h : Rws cs out) {x : List Int} (hx : x.length = cs.length ∧ ∀ i, 0 ≤ x.getD i 0 ∧ x.getD i 0 ≤ 1073741824) : Rws cs (out ++ [x]) := fun j hj => by
  simp only [List.length_append, List.length_cons, List.length_nil] at hj
  by_cases e : j < out.length
  · rw [getDD_app_lt e]; exact h j e
  · rw [getDD_app_eq (by omega)]; exact hx
theorem Wd.row0 {cs ks : List (List Int)} (h : Wd cs ks) {i : Int} (h0 : 0 ≤ i ∧ i < cs.length) : Rws cs [ks.getD i.toNat []] :=
  Rws.one (h.row _ (by rw [h.len]; omega)) (fun j => by have := h.el i.toNat j; omega)
theorem lists_L1 {cs ks : List (List Int)} (h : Wd cs ks) (reqs : List Int) : ∀ fuel i out, reqs.length - i < fuel → out.length = i + 1 → i ≤ reqs.length → Rws cs out →
    ∃ out' i', F_impl_works_lists_L1 cs ks reqs fuel (out, i) = .next (out', i') ∧ out'.length = reqs.length + 1 ∧ Rws cs out' := by
  intro fuel
  induction fuel with
  | zero => intro i out h; omega
  | succ mf ih =>
    intro i out hf hl hi hr
    rw [F_impl_works_lists_L1_s]
    by_cases hlt : (i : Int) < (reqs.length : Int)
    · rw [decide_eq_true hlt, cond_true]
      have h1 := hr i (by omega)
      exact ih (i + 1) _ (by omega) (by simp [hl]) (by omega) (hr.push (next_bd h h1.1 h1.2 _))
    · rw [decide_eq_false hlt, cond_false]
      exact ⟨out, i, rfl, by omega, hr⟩
theorem lists_bd {cs ks : List (List Int)} (h : Wd cs ks) (a reqs : List Int) (h0 : 0 ≤ F_impl_works_index cs ks a ∧ F_impl_works_index cs ks a < cs.length) :
    (F_impl_works_lists cs ks a reqs).length = reqs.length + 1 ∧ Rws cs (F_impl_works_lists cs ks a reqs) := by
  obtain ⟨out', i', h1, h2, h3⟩ := lists_L1 h reqs (reqs.length - 0 + 1) 0 [ks.getD (F_impl_works_index cs ks a).toNat []] (by omega) rfl (by omega) (h.row0 h0)
  unfold F_impl_works_lists
  rw [h1]
  exact ⟨h2, h3⟩
/-- What the reference's lists are. -/
def Rvs (m : List (List Int)) (k : Int) (out : List (List Int)) : Prop := ∀ j, j < out.length → (out.getD j []).length = (F_spec_l6Configs (m.length : Int) k).length ∧ ∀ i, 0 ≤ (out.getD j []).getD i 0 ∧ (out.getD j []).getD i 0 ≤ 297 + 99 * (j : Int)
theorem Rvs.one {m : List (List Int)} {k : Int} (hk : Ks m k) {a : List Int} (ha : Cf m.length a) (hl : (a.length : Int) = k) : Rvs m k [F_spec_l7Start m k a] := fun j hj => by
  have : j = 0 := by simpa using hj
  subst this
  have h := start_bd hk ha hl
  rw [hk.same]
  exact ⟨h.1, fun i => by have := h.2 i; show 0 ≤ (F_spec_l7Start m k a).getD i 0 ∧ (F_spec_l7Start m k a).getD i 0 ≤ _; omega⟩
theorem Rvs.push {m : List (List Int)} {k : Int} (hk : Ks m k) {out : List (List Int)} (h : Rvs m k out) {i : Nat} (hi : out.length = i + 1) (r : Int) : Rvs m k (out ++ [F_spec_l7Next m k (out.getD i []) r]) := fun j hj => by
  simp only [List.length_append, List.length_cons, List.length_nil] at hj
  by_cases e : j < out.length
  · rw [getDD_app_lt e]; exact h j e
  · rw [getDD_app_eq (by omega)]
    have h1 := (h i (by omega)).2
    have h2 := lnext_bd hk (B := 297 + 99 * (i : Int)) (by omega) h1 r
    rw [hk.same]
    exact ⟨h2.1, fun p => by have := h2.2 p; omega⟩
theorem Rvs.small {m : List (List Int)} {k : Int} {out : List (List Int)} (h : Rvs m k out) {i : Nat} (hi : i < out.length) (h60 : i ≤ 60) : (out.getD i []).length = (F_spec_l6Configs (m.length : Int) k).length ∧ ∀ p, 0 ≤ (out.getD i []).getD p 0 ∧ (out.getD i []).getD p 0 ≤ 1073741824 :=
  ⟨(h i hi).1, fun p => by have := (h i hi).2 p; omega⟩
theorem values_L1 {m : List (List Int)} {k : Int} (hk : Ks m k) (reqs : List Int) : ∀ fuel i out, reqs.length - i < fuel → out.length = i + 1 → i ≤ reqs.length → Rvs m k out →
    ∃ out' i', F_spec_l7Values_L1 m k reqs fuel (out, i) = .next (out', i') ∧ out'.length = reqs.length + 1 ∧ Rvs m k out' := by
  intro fuel
  induction fuel with
  | zero => intro i out h; omega
  | succ mf ih =>
    intro i out hf hl hi hr
    rw [F_spec_l7Values_L1_s]
    by_cases hlt : (i : Int) < (reqs.length : Int)
    · rw [decide_eq_true hlt, cond_true]
      exact ih (i + 1) _ (by omega) (by simp [hl]) (by omega) (hr.push hk hl _)
    · rw [decide_eq_false hlt, cond_false]
      exact ⟨out, i, rfl, by omega, hr⟩
theorem values_bd {m : List (List Int)} {k : Int} (hk : Ks m k) {a : List Int} (ha : Cf m.length a) (hl : (a.length : Int) = k) (reqs : List Int) :
    (F_spec_l7Values m k a reqs).length = reqs.length + 1 ∧ Rvs m k (F_spec_l7Values m k a reqs) := by
  obtain ⟨out', i', h1, h2, h3⟩ := values_L1 hk reqs (reqs.length - 0 + 1) 0 [F_spec_l7Start m k a] (by omega) rfl (by omega) (Rvs.one hk ha hl)
  unfold F_spec_l7Values
  rw [h1]
  exact ⟨h2, h3⟩
theorem lists_eq_L1 {m : List (List Int)} {k : Int} (hk : Ks m k) (ht : ∀ x y z, x < m.length → y < m.length → z < m.length → el m x z ≤ el m x y + el m y z) {reqs : List Int} (h60 : reqs.length ≤ 60) (hr : ∀ i, i < reqs.length → 0 ≤ reqs.getD i 0 ∧ reqs.getD i 0 < m.length) : ∀ (fuel i : Nat) (out : List (List Int)), out.length = i + 1 → Lp m (F_impl_configsOf (m.length : Int) k 0) (297 + 99 * (i : Int)) (out.getD i []) →
    F_impl_works_lists_L1 (F_impl_configsOf (m.length : Int) k 0) (costs m (F_impl_configsOf (m.length : Int) k 0)) reqs fuel (out, i) = F_spec_l7Values_L1 m k reqs fuel (out, i) := by
  intro fuel
  induction fuel with
  | zero => intro i out _ _; rfl
  | succ mf ih =>
    intro i out hl hp
    rw [F_impl_works_lists_L1_s, F_spec_l7Values_L1_s]
    by_cases hi : (i : Int) < (reqs.length : Int)
    · have hri := hr i (by omega)
      have hs := next_same hk (by omega) hp hri.1 hri.2
      rw [decide_eq_true hi, cond_true, cond_true, hs]
      refine ih (i + 1) _ (by simp [hl]) ?_
      rw [getDD_app_eq (by omega), ← hs]
      have := next_lp hk ht (by omega) (by omega) hp hri.1 hri.2
      rwa [show 297 + 99 * (i : Int) + 99 = 297 + 99 * ((i + 1 : Nat) : Int) by omega] at this
    · rw [decide_eq_false hi, cond_false, cond_false]
theorem served_tri {m : List (List Int)} {a reqs : List Int} (h : F_impl_isServed m a reqs = true) : ∀ x y z, x < m.length → y < m.length → z < m.length → el m x z ≤ el m x y + el m y z :=
  ((isMetric_iff m).1 (by rw [isMetric_eq]; exact ((isServed_iff m a reqs).1 h).1)).2
theorem lists_eq {m : List (List Int)} {a reqs : List Int} (h : F_impl_isServed m a reqs = true) : F_impl_works_lists (F_impl_worksOf m (a.length : Int)).1 (F_impl_worksOf m (a.length : Int)).2 a reqs = F_spec_l7Values m (a.length : Int) a reqs := by
  have hs := isServed_t h
  have ht := served_tri h
  rw [worksOf_eq]
  unfold F_impl_works_lists F_spec_l7Values
  show ((F_impl_works_lists_L1 (F_impl_configsOf (m.length : Int) (a.length : Int) 0) (costs m (F_impl_configsOf (m.length : Int) (a.length : Int) 0)) reqs (reqs.length - 0 + 1) ([(costs m (F_impl_configsOf (m.length : Int) (a.length : Int) 0)).getD (F_impl_works_index (F_impl_configsOf (m.length : Int) (a.length : Int) 0) (costs m (F_impl_configsOf (m.length : Int) (a.length : Int) 0)) a).toNat []], 0)).elim _ _) = _
  rw [row_eq hs.ks hs.cf rfl, lists_eq_L1 hs.ks ht hs.r60 hs.el _ 0 [F_spec_l7Start m (a.length : Int) a] rfl (start_lp hs.ks ht hs.cf rfl)]
theorem served_or (m : List (List Int)) (a reqs : List Int) : ((!(F_spec_l6Good m)) || (!(F_spec_l6Start m a reqs))) = !(F_impl_isServed m a reqs) := by
  rw [← served_eq]
  cases h : F_impl_isServed m a reqs with
  | false => simp
  | true => rw [((isServed_iff m a reqs).1 h).1]; rfl
theorem workLists_eq (m : List (List Int)) (a reqs : List Int) : F_impl_WorkLists m a reqs = F_spec_WorkLists m a reqs := by
  unfold F_impl_WorkLists F_spec_WorkLists
  rw [served_or]
  cases h : F_impl_isServed m a reqs with
  | false => rfl
  | true => simp only [Bool.not_true, cond_false]; rw [lists_eq h]
theorem workLists_total (m : List (List Int)) (a reqs : List Int) : total (F_impl_WorkLists m a reqs).1 ≤ 3416 ∧ (F_impl_WorkLists m a reqs).1.length ≤ 61 := by
  rw [workLists_eq]
  unfold F_spec_WorkLists
  rw [served_or]
  cases h : F_impl_isServed m a reqs with
  | false => simp [total]
  | true =>
    have hs := isServed_t h
    have hv := values_bd hs.ks hs.cf rfl reqs
    have h60 := hs.r60
    have h56 := hs.ks.c56
    simp only [Bool.not_true, cond_false]
    have := total_leMul 56 (F_spec_l7Values m (a.length : Int) a reqs) (fun i hi => by
      have := (hv.2 i hi).1
      rw [hs.ks.same] at this; omega)
    omega
theorem law_WorkLists (m : List (List Int)) (a reqs : List Int) : F_laws_FnExactWorkLists m a reqs = true := by
  unfold F_laws_FnExactWorkLists
  simp only [toMetric_eq, toIntS_eq, workLists_eq, eqMetric_refl, eqIntS_refl, eqIntSS_refl, markIntS_eq, markMetric_eq, heldIntSS_marked _ 1 (by omega)]
  simp only [markIntSS_eq]
  have h1 : ¬ ((1 : Int) + (total m : Int) + (a.length : Int) + (reqs.length : Int) < 0) := by omega
  have h2 : ¬ ((1 : Int) + (total (F_spec_WorkLists m a reqs).1 : Int) < 0) := by omega
  simp [h1, h2]

/-! the least value -/
theorem min_L1 (l : List Int) : ∀ fuel s, F_slices_Min_Sint_int_L1 l fuel s = F_spec_l7Least_L1 l fuel s := by
  intro fuel
  induction fuel with
  | zero => intro s; rfl
  | succ mf ih =>
    intro ⟨x, i⟩
    have e : F_spec_l1Least x (l.getD i 0) = min x (l.getD i 0) := l1Least_eq _ _
    rw [F_slices_Min_Sint_int_L1_s, F_spec_l7Least_L1_s, ih, e]
theorem min_eq {l : List Int} (h : 1 ≤ l.length) : F_slices_Min_Sint_int l = F_spec_l7Least l := by
  unfold F_slices_Min_Sint_int F_spec_l7Least
  rw [decide_eq_false (by omega), cond_false, elim_next, min_L1]
theorem leastWork_eq (m : List (List Int)) (a reqs : List Int) : F_impl_LeastWork m a reqs = F_spec_LeastWork m a reqs := by
  unfold F_impl_LeastWork F_spec_LeastWork
  rw [served_or]
  cases h : F_impl_isServed m a reqs with
  | false => rfl
  | true =>
    have hs := isServed_t h
    simp only [Bool.not_true, cond_false]
    unfold F_impl_leastWork F_spec_l7Optimum
    rw [lists_eq h, min_eq]
    have hv := values_bd hs.ks hs.cf rfl reqs
    have := (hv.2 reqs.length (by omega)).1
    rw [hs.ks.same] at this
    have := hs.ks.c56
    omega
theorem law_LeastWork (m : List (List Int)) (a reqs : List Int) : F_laws_FnExactLeastWork m a reqs = true := by
  unfold F_laws_FnExactLeastWork
  simp only [toMetric_eq, toIntS_eq, leastWork_eq, eqMetric_refl, eqIntS_refl]
  simp
end Go.Proofs.Ytilmadapmcnlgaa
