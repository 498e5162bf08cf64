/-
  Plain laws on plans: the caches and faults of a plan, the plan that lets go of the farthest. No condition.
-/
import Derived.Test.YtlhmmhlfledleaaLawPageA
import Derived.Test.YtlhmmhlfledleaaLawConf
namespace Go.Proofs.Ytlhmmhlfledleaa
open Go

theorem has_eq (s : List Int) (v : Int) : F_spec_l1Has s v = decide (v ∈ s) := by
  rw [Bool.eq_iff_iff, ← contains_eq, contains_iff, decide_eq_true_eq, mem_getD]
theorem contains_eq2 (s : List Int) (v : Int) : F_slices_Contains_Sint_int s v = decide (v ∈ s) := by rw [contains_eq, has_eq]
theorem index_not {s : List Int} {v : Int} (h : v ∉ s) : F_slices_Index_Sint_int s v = -1 := by
  rcases index_spec s v with ⟨h1, _⟩ | ⟨i, h1, _, h3, _⟩
  · exact h1
  · exact absurd (mem_getD.2 ⟨i, h1, h3⟩) h
theorem index_in {s : List Int} {v : Int} (h : v ∈ s) : ∃ i : Nat, i < s.length ∧ F_slices_Index_Sint_int s v = i ∧ s.getD i 0 = v ∧ ∀ j, j < i → s.getD j 0 ≠ v := by
  rcases index_spec s v with ⟨_, h2⟩ | h2
  · obtain ⟨i, hi, e⟩ := mem_getD.1 h; exact absurd e (h2 i hi)
  · exact h2
/-- A cache, and its pages in ascending order. -/
structure Rel (c now : List Int) : Prop where
  nd : c.Nodup
  up : Rise now
  mem : ∀ v, v ∈ now ↔ v ∈ c
theorem Rel.nil : Rel [] [] := ⟨.nil, .nil, fun _ => Iff.rfl⟩
theorem Rel.rising {c now : List Int} (h : Rel c now) : F_impl_rising c = now := by
  obtain ⟨h1, h2⟩ := rising_spec c
  exact rise_unique h1 h.up fun v => (h2 v).trans (h.mem v).symm
theorem Rel.len {c now : List Int} (h : Rel c now) : now.length = c.length :=
  ((List.perm_ext_iff_of_nodup (rise_nodup h.up) h.nd).2 h.mem).length_eq
theorem Rel.put {c now : List Int} (h : Rel c now) {p : Int} (hp : p ∉ c) : Rel (c ++ [p]) (F_spec_l1Put now p) := by
  obtain ⟨h1, h2⟩ := put_rise h.up p
  refine ⟨?_, h1, fun v => ?_⟩
  · rw [List.nodup_append]
    exact ⟨h.nd, by simp, fun a ha b hb => by rw [List.mem_singleton.1 hb]; exact fun e => hp (e ▸ ha)⟩
  · rw [h2, h.mem, List.mem_append, List.mem_singleton]; exact Or.comm
theorem Rel.out {c now : List Int} (h : Rel c now) (x : Int) : Rel (c.filter fun y => !decide (y = x)) (F_spec_l5Out now x) := by
  rw [l5Out_eq]
  refine ⟨List.Pairwise.sublist List.filter_sublist h.nd, List.Pairwise.sublist List.filter_sublist h.up, fun v => ?_⟩
  rw [List.mem_filter, List.mem_filter, h.mem]
theorem delI_eq {c : List Int} (hn : c.Nodup) {i : Nat} (hi : i < c.length) : delI c (i : Int) ((i : Int) + 1) = c.filter fun y => !decide (y = c.getD i 0) := by
  unfold delI
  rw [Int.toNat_natCast, show ((i : Int) + 1).toNat = i + 1 by omega, getD_lt c i 0 hi]
  have e : c = c.take i ++ c[i] :: c.drop (i + 1) := by rw [← List.drop_eq_getElem_cons hi, List.take_append_drop]
  generalize c[i] = x at e ⊢
  have h := hn
  rw [e, List.nodup_append, List.nodup_cons] at h
  obtain ⟨_, ⟨h1, _⟩, h2⟩ := h
  conv => rhs; rw [e]
  rw [List.filter_append, List.filter_cons]
  simp only [decide_true, Bool.not_true, Bool.false_eq_true, if_false]
  rw [List.filter_eq_self.2, List.filter_eq_self.2]
  · intro x hx
    simp only [Bool.not_eq_true', decide_eq_false_iff_not]
    intro e; subst e; exact h1 hx
  · intro x hx
    simp only [Bool.not_eq_true', decide_eq_false_iff_not]
    exact fun e => h2 x hx _ (List.mem_cons_self ..) e
theorem Rel.filter_len {c : List Int} (hn : c.Nodup) {x : Int} (hx : x ∈ c) : (c.filter fun y => !decide (y = x)).length + 1 = c.length := by
  obtain ⟨i, hi, e⟩ := mem_getD.1 hx
  have h := delI_eq hn hi
  rw [e] at h
  rw [← h]
  unfold delI
  simp; omega

theorem played_L1 (k : Int) (reqs plan : List Int) : ∀ (fuel i faults : Nat) (c now : List Int) (out : List (List Int)), Rel c now → (c.length : Int) ≤ k → (∀ v ∈ c, 0 ≤ v) → (∀ i, 0 ≤ reqs.getD i 0) →
    (F_impl_played_L1 k reqs plan fuel (c, out, faults, i)).elim (fun s => (s.2.1, (s.2.2.1 : Int), true)) (fun r => r) = (F_spec_l5Run_L1 k reqs plan fuel (out, faults, now, i)).elim (fun s => (s.1, (s.2.1 : Int), true)) (fun r => r) := by
  intro fuel
  induction fuel with
  | zero => intro i faults c now out _ _ _ _; rfl
  | succ mf ih =>
    intro i faults c now out hr hk h0 hq
    rw [F_impl_played_L1_s, F_spec_l5Run_L1_s]
    by_cases hi : (i : Int) < (reqs.length : Int)
    · simp only [has_eq, contains_eq2, hr.mem, hr.rising]
      rw [decide_eq_true hi, cond_true, cond_true]
      by_cases hp : reqs.getD i 0 ∈ c
      · rw [decide_eq_true hp, cond_true, Bool.true_or, Bool.not_true, cond_true, cond_false]
        by_cases hl : 0 ≤ plan.getD i 0
        · rw [decide_eq_true hl]; rfl
        · rw [decide_eq_false hl]
          simp only [cond_false]
          rw [decide_eq_false (show ¬ k < (now.length : Int) by rw [hr.len]; omega), cond_false]
          exact ih (i + 1) faults c now _ hr hk h0 hq
      · rw [decide_eq_false hp, cond_false, Bool.false_or, Bool.not_false, cond_true, cond_true]
        have h0' : ∀ v ∈ c ++ [reqs.getD i 0], 0 ≤ v := fun v hv => by
          rcases List.mem_append.1 hv with hv | hv
          · exact h0 v hv
          · rw [List.mem_singleton.1 hv]; exact hq i
        by_cases hl : 0 ≤ plan.getD i 0
        · rw [decide_eq_true hl]
          simp only [cond_true]
          by_cases hm : plan.getD i 0 ∈ c
          · obtain ⟨j, hj, e1, e2, _⟩ := index_in hm
            rw [decide_eq_true hm, e1, decide_eq_true (show (0 : Int) ≤ (j : Int) by omega), delI_eq hr.nd hj, e2]
            simp only [Bool.not_true, cond_false, cond_true]
            have hr2 := (hr.out (plan.getD i 0)).put (p := reqs.getD i 0) (fun h => hp (List.mem_filter.1 h).1)
            rw [hr2.rising, hr2.len]
            cases hd : decide (k < (((c.filter fun y => !decide (y = plan.getD i 0)) ++ [reqs.getD i 0]).length : Int)) with
            | true => rfl
            | false =>
              simp only [cond_false]
              refine ih (i + 1) (faults + 1) _ _ _ hr2 (by have := of_decide_eq_false hd; omega) (fun v hv => ?_) hq
              rcases List.mem_append.1 hv with hv | hv
              · exact h0 v (List.mem_filter.1 hv).1
              · rw [List.mem_singleton.1 hv]; exact hq i
          · rw [decide_eq_false hm, index_not hm, decide_eq_false (by omega)]
            simp only [Bool.not_false, cond_true, cond_false]
            rfl
        · have hm : plan.getD i 0 ∉ c := fun h => hl (h0 _ h)
          rw [decide_eq_false hl, index_not hm, decide_eq_false (by omega)]
          simp only [cond_false]
          have hr2 := hr.put hp
          rw [hr2.rising, hr2.len]
          cases hd : decide (k < ((c ++ [reqs.getD i 0]).length : Int)) with
          | true => rfl
          | false =>
            simp only [cond_false]
            exact ih (i + 1) (faults + 1) _ _ _ hr2 (by have := of_decide_eq_false hd; omega) h0' hq
    · rw [decide_eq_false hi, cond_false, cond_false]; rfl
theorem nonneg_of {n : Int} {reqs : List Int} (h : ∀ i, i < reqs.length → 0 ≤ reqs.getD i 0 ∧ reqs.getD i 0 < n) (i : Nat) : 0 ≤ reqs.getD i 0 := by
  by_cases hi : i < reqs.length
  · exact (h i hi).1
  · rw [getD_ge reqs i 0 (by omega)]; omega
theorem played_eq {k : Int} {reqs plan : List Int} (hk : 0 ≤ k) (hq : ∀ i, 0 ≤ reqs.getD i 0) : F_impl_played k reqs plan = F_spec_l5Run k reqs plan := by
  unfold F_impl_played F_spec_l5Run
  exact played_L1 k reqs plan (reqs.length - 0 + 1) 0 0 [] [] [] Rel.nil (by simpa using hk) (fun v hv => by cases hv) hq
theorem planFaults_eq (k n : Int) (reqs plan : List Int) : F_impl_PlanFaults k n reqs plan = F_spec_PlanFaults k n reqs plan := by
  unfold F_impl_PlanFaults F_spec_PlanFaults
  rw [planList_eq, Bool.not_and]
  cases hb : ((!(F_spec_l5Takes k n reqs)) || (!(F_spec_l5Plan n reqs plan))) with
  | true => rfl
  | false =>
    simp only [Bool.or_eq_false_iff, Bool.not_eq_false'] at hb
    have ht := l5Takes_t hb.1
    rw [cond_false, cond_false, played_eq (by omega) (nonneg_of ht.2.2.2)]
theorem planCaches_eq (k n : Int) (reqs plan : List Int) : F_impl_PlanCaches k n reqs plan = F_spec_PlanCaches k n reqs plan := by
  unfold F_impl_PlanCaches F_spec_PlanCaches
  rw [planList_eq, Bool.not_and]
  cases hb : ((!(F_spec_l5Takes k n reqs)) || (!(F_spec_l5Plan n reqs plan))) with
  | true => rfl
  | false =>
    simp only [Bool.or_eq_false_iff, Bool.not_eq_false'] at hb
    have ht := l5Takes_t hb.1
    rw [cond_false, cond_false, played_eq (by omega) (nonneg_of ht.2.2.2)]
theorem law_PlanFaults (k n : Int) (reqs plan : List Int) : F_laws_FnExactPlanFaults k n reqs plan = true := by
  unfold F_laws_FnExactPlanFaults
  simp only [toIntS_eq, planFaults_eq, eqIntS_refl]
  simp
/-! the sizes of what is handed back -/
theorem run_tot (k : Int) (reqs plan : List Int) (hk : 0 ≤ k) (hk6 : k ≤ 6) : ∀ (fuel i faults : Nat) (now : List Int) (out : List (List Int)), (now.length : Int) ≤ k → (∀ r ∈ out, r.length ≤ 6) → out.length ≤ i → i ≤ reqs.length → reqs.length - i < fuel →
    (∀ r ∈ ((F_spec_l5Run_L1 k reqs plan fuel (out, faults, now, i)).elim (fun s => s.1) (fun r => r.1)), r.length ≤ 6) ∧ ((F_spec_l5Run_L1 k reqs plan fuel (out, faults, now, i)).elim (fun s => s.1) (fun r => r.1)).length ≤ reqs.length := by
  intro fuel
  induction fuel with
  | zero => intro i faults now out _ _ _ _ h; omega
  | succ mf ih =>
    intro i faults now out hn ho hl hi h
    rw [F_spec_l5Run_L1_s]
    have nil : (∀ r ∈ ([] : List (List Int)), r.length ≤ 6) ∧ ([] : List (List Int)).length ≤ reqs.length := ⟨fun r hr => (by cases hr), by simp⟩
    by_cases hlt : (i : Int) < (reqs.length : Int)
    · rw [decide_eq_true hlt, cond_true]
      have push : ∀ (z : List Int) (f : Nat), (∀ r ∈ ((bif decide (k < (z.length : Int)) then (Ctl.ret ([], 0, false)) else F_spec_l5Run_L1 k reqs plan mf ((out ++ [z]), f, z, (i + 1))).elim (fun s => s.1) (fun r => r.1)), r.length ≤ 6) ∧ ((bif decide (k < (z.length : Int)) then (Ctl.ret ([], 0, false)) else F_spec_l5Run_L1 k reqs plan mf ((out ++ [z]), f, z, (i + 1))).elim (fun s => s.1) (fun r => r.1)).length ≤ reqs.length := by
        intro z f
        cases hd : decide (k < (z.length : Int)) with
        | true => rw [cond_true]; exact nil
        | false =>
          have hz := of_decide_eq_false hd
          rw [cond_false]
          exact ih (i + 1) f z _ (by omega) (fun r hr => by
            rcases List.mem_append.1 hr with hr | hr
            · exact ho r hr
            · rw [List.mem_singleton.1 hr]; omega) (by simp; omega) (by omega) (by omega)
      cases decide (0 ≤ plan.getD i 0) with
      | true =>
        rw [cond_true]
        cases ((F_spec_l1Has now (reqs.getD i 0)) || (!(F_spec_l1Has now (plan.getD i 0)))) with
        | true => rw [cond_true]; exact nil
        | false =>
          rw [cond_false]
          cases !(F_spec_l1Has now (reqs.getD i 0)) with
          | true => rw [cond_true]; exact push _ _
          | false => rw [cond_false]; exact push _ _
      | false =>
        rw [cond_false]
        cases !(F_spec_l1Has now (reqs.getD i 0)) with
        | true => rw [cond_true]; exact push _ _
        | false => rw [cond_false]; exact push _ _
    · rw [decide_eq_false hlt, cond_false]
      exact ⟨ho, by show out.length ≤ _; omega⟩
theorem planCaches_total (k n : Int) (reqs plan : List Int) : total (F_spec_PlanCaches k n reqs plan).1 ≤ 360 := by
  unfold F_spec_PlanCaches
  cases hb : ((!(F_spec_l5Takes k n reqs)) || (!(F_spec_l5Plan n reqs plan))) with
  | true => simp [total]
  | false =>
    simp only [Bool.or_eq_false_iff, Bool.not_eq_false'] at hb
    have ht := l5Takes_t hb.1
    rw [cond_false]
    unfold F_spec_l5Run
    have h := run_tot k reqs plan (by omega) (by omega) (reqs.length - 0 + 1) 0 0 [] [] (by simp; omega) (fun r hr => by cases hr) (by simp) (by omega) (by omega)
    have e : ((F_spec_l5Run_L1 k reqs plan (reqs.length - 0 + 1) ([], 0, [], 0)).elim (fun x => match x with | (k9_1, k10_1, _, _) => (k9_1, (k10_1 : Int), true)) (fun r => r)).1 = (F_spec_l5Run_L1 k reqs plan (reqs.length - 0 + 1) ([], 0, [], 0)).elim (fun s => s.1) (fun r => r.1) := by
      cases F_spec_l5Run_L1 k reqs plan (reqs.length - 0 + 1) ([], 0, [], 0) <;> rfl
    dsimp only
    rw [e]
    have := total_le 6 _ h.1
    omega
theorem planCaches_totalI (k n : Int) (reqs plan : List Int) : total (F_impl_PlanCaches k n reqs plan).1 ≤ 360 := by rw [planCaches_eq]; exact planCaches_total k n reqs plan
theorem law_PlanCaches (k n : Int) (reqs plan : List Int) : F_laws_FnExactPlanCaches k n reqs plan = true := by
  unfold F_laws_FnExactPlanCaches
  simp only [toIntS_eq, planCaches_eq, eqIntS_refl, eqIntSS_refl, markIntS_eq, heldIntSS_marked _ 1 (by omega)]
  simp only [markIntSS_eq]
  have h1 : ¬ ((1 : Int) + (reqs.length : Int) + (plan.length : Int) < 0) := by omega
  have h2 : ¬ ((1 : Int) + (total (F_spec_PlanCaches k n reqs plan).1 : Int) < 0) := by omega
  simp [h1, h2]

/-! the farthest -/
theorem use_L1 (reqs : List Int) (p : Int) : ∀ (fuel i : Nat), reqs.length - i < fuel → i ≤ reqs.length → ∃ u : Nat, F_spec_l5Use_L1 reqs p fuel (i : Int) = .next (u : Int) ∧ i ≤ u ∧ u ≤ reqs.length ∧ (∀ j, i ≤ j → j < u → reqs.getD j 0 ≠ p) ∧ (u < reqs.length → reqs.getD u 0 = p) := by
  intro fuel
  induction fuel with
  | zero => intro i h; omega
  | succ mf ih =>
    intro i h hi
    rw [F_spec_l5Use_L1_s, Int.toNat_natCast]
    by_cases hc : i < reqs.length ∧ reqs.getD i 0 ≠ p
    · rw [decide_eq_true (show (i : Int) < (reqs.length : Int) by omega), decide_eq_false hc.2, Bool.not_false, Bool.and_self, cond_true]
      obtain ⟨u, h1, h2, h3, h4, h5⟩ := ih (i + 1) (by omega) (by omega)
      rw [show ((i + 1 : Nat) : Int) = (i : Int) + 1 by omega] at h1
      refine ⟨u, h1, by omega, h3, fun j h6 h7 => ?_, h5⟩
      rcases Nat.eq_or_lt_of_le h6 with rfl | h6
      · exact hc.2
      · exact h4 j h6 h7
    · have : ((decide ((i : Int) < (reqs.length : Int))) && (!decide ((reqs.getD i 0) = p))) = false := by
        rw [Bool.eq_false_iff]; intro hh
        simp only [Bool.and_eq_true, decide_eq_true_eq, Bool.not_eq_true', decide_eq_false_iff_not] at hh
        exact hc ⟨by omega, hh.2⟩
      rw [this, cond_false]
      exact ⟨i, rfl, Nat.le_refl _, hi, fun j h1 h2 => by omega, fun h1 => Classical.byContradiction fun h2 => hc ⟨h1, h2⟩⟩
/-- The next use of a page behind a place, or the end. -/
theorem use_spec (reqs : List Int) (i : Nat) (hi : i < reqs.length) (p : Int) : ∃ u : Nat, F_spec_l5Use reqs (i : Int) p = u ∧ i < u ∧ u ≤ reqs.length ∧ (∀ j, i < j → j < u → reqs.getD j 0 ≠ p) ∧ (u < reqs.length → reqs.getD u 0 = p) ∧
    F_slices_Index_Sint_int ((reqs.take reqs.length).drop (((i : Int) + 1).toNat)) p = if u < reqs.length then (u : Int) - (i : Int) - 1 else -1 := by
  unfold F_spec_l5Use
  obtain ⟨u, h1, h2, h3, h4, h5⟩ := use_L1 reqs p (((reqs.length : Int) - ((i : Int) + 1)).toNat + 1) (i + 1) (by omega) (by omega)
  rw [show ((i + 1 : Nat) : Int) = (i : Int) + 1 by omega] at h1
  rw [h1]
  refine ⟨u, rfl, by omega, h3, fun j h6 h7 => h4 j (by omega) h7, h5, ?_⟩
  rw [List.take_length, show ((i : Int) + 1).toNat = i + 1 by omega]
  have hg : ∀ j, j < reqs.length - (i + 1) → (reqs.drop (i + 1)).getD j 0 = reqs.getD (i + 1 + j) 0 := fun j hj => by
    rw [getD_lt _ j 0 (by simp; omega), getD_lt reqs _ 0 (by omega), List.getElem_drop]
  rcases index_spec (reqs.drop (i + 1)) p with ⟨e1, e2⟩ | ⟨j, e1, e2, e3, e4⟩
  · rw [e1]
    by_cases hu : u < reqs.length
    · have := e2 (u - (i + 1)) (by simp; omega)
      rw [hg _ (by omega), show i + 1 + (u - (i + 1)) = u by omega] at this
      exact absurd (h5 hu) this
    · rw [if_neg hu]
  · have e1' : j < reqs.length - (i + 1) := by simpa using e1
    rw [e2]
    rw [hg j e1'] at e3
    have hju : ¬ i + 1 + j < u := fun h => h4 _ (by omega) h e3
    have huj : ¬ u < i + 1 + j := fun h => by
      have hu : u < reqs.length := by omega
      have := e4 (u - (i + 1)) (by omega)
      rw [hg _ (by omega), show i + 1 + (u - (i + 1)) = u by omega] at this
      exact this (h5 hu)
    rw [if_pos (by omega)]
    omega
theorem far_stuck (reqs : List Int) (i : Nat) (hi : i < reqs.length) (now : List Int) (b : Int) (hb : F_spec_l5Use reqs (i : Int) b = reqs.length) : ∀ (fuel q : Nat), now.length - q < fuel → ∃ q', F_spec_l5Farthest_L1 reqs (i : Int) now fuel (b, q) = .next (b, q') := by
  intro fuel
  induction fuel with
  | zero => intro q h; omega
  | succ mf ih =>
    intro q h
    rw [F_spec_l5Farthest_L1_s]
    by_cases hq : q < now.length
    · obtain ⟨u, h1, _, h3, _⟩ := use_spec reqs i hi (now.getD q 0)
      rw [decide_eq_true (show (q : Int) < (now.length : Int) by omega), cond_true, hb, h1, decide_eq_false (by omega), cond_false]
      exact ih (q + 1) (by omega)
    · rw [decide_eq_false (show ¬ (q : Int) < (now.length : Int) by omega), cond_false]; exact ⟨q, rfl⟩
theorem far_L1 (reqs : List Int) (i : Nat) (hi : i < reqs.length) (now : List Int) : ∀ (fuel q : Nat) (b far : Int), now.length - q < fuel → (far < reqs.length - i - 1 ∧ 0 ≤ far) → F_spec_l5Use reqs (i : Int) b = i + 1 + far →
    (F_impl_farthest_L1 (i : Int) reqs now fuel (b, far, q)).elim (fun s => s.1) (fun r => r) = (F_spec_l5Farthest_L1 reqs (i : Int) now fuel (b, q)).elim (fun s => s.1) (fun r => r) := by
  intro fuel
  induction fuel with
  | zero => intro q b far h; omega
  | succ mf ih =>
    intro q b far h hf hb
    rw [F_impl_farthest_L1_s, F_spec_l5Farthest_L1_s]
    by_cases hq : q < now.length
    · obtain ⟨u, h1, h2, h3, _, _, h6⟩ := use_spec reqs i hi (now.getD q 0)
      rw [decide_eq_true (show (q : Int) < (now.length : Int) by omega), cond_true, cond_true, h6, hb, h1]
      by_cases hu : u < reqs.length
      · rw [if_pos hu, decide_eq_false (by omega), cond_false]
        by_cases hlt : far < (u : Int) - i - 1
        · rw [decide_eq_true hlt, decide_eq_true (by omega), cond_true, cond_true]
          exact ih (q + 1) _ _ (by omega) (by omega) (by rw [h1]; omega)
        · rw [decide_eq_false hlt, decide_eq_false (by omega), cond_false, cond_false]
          exact ih (q + 1) _ _ (by omega) hf hb
      · rw [if_neg hu, decide_eq_true (show (-1 : Int) < 0 by omega), cond_true, elim_ret, decide_eq_true (show (i : Int) + 1 + far < (u : Int) by omega), cond_true]
        obtain ⟨q', h7⟩ := far_stuck reqs i hi now (now.getD q 0) (by rw [h1]; omega) mf (q + 1) (by omega)
        rw [h7]; rfl
    · rw [decide_eq_false (show ¬ (q : Int) < (now.length : Int) by omega), cond_false, cond_false]; rfl
theorem farthest_eq (reqs : List Int) (i : Nat) (hi : i < reqs.length) (now : List Int) (hn : 1 ≤ now.length) : F_impl_farthest (i : Int) reqs now = F_spec_l5Farthest reqs (i : Int) now := by
  unfold F_impl_farthest F_spec_l5Farthest
  obtain ⟨u, h1, h2, h3, _, _, h6⟩ := use_spec reqs i hi (now.getD 0 0)
  rw [F_impl_farthest_L1_s, decide_eq_true (show ((0 : Nat) : Int) < (now.length : Int) by omega), cond_true, h6, Nat.sub_zero]
  by_cases hu : u < reqs.length
  · rw [if_pos hu, decide_eq_false (by omega), cond_false, decide_eq_true (by omega), cond_true]
    have := far_L1 reqs i hi now now.length 1 (now.getD 0 0) ((u : Int) - i - 1) (by omega) (by omega) (by rw [h1]; omega)
    rw [show now.length - 1 + 1 = now.length by omega]
    exact this
  · rw [if_neg hu, decide_eq_true (by omega), cond_true, elim_ret]
    obtain ⟨q', h7⟩ := far_stuck reqs i hi now (now.getD 0 0) (by rw [h1]; omega) (now.length - 1 + 1) 1 (by omega)
    rw [h7]; rfl
theorem far_mem_L1 (reqs : List Int) (at_ : Int) (now : List Int) : ∀ (fuel q : Nat) (b : Int), b ∈ now → (F_spec_l5Farthest_L1 reqs at_ now fuel (b, q)).elim (fun s => s.1) (fun r => r) ∈ now ∨ ∃ r, F_spec_l5Farthest_L1 reqs at_ now fuel (b, q) = .ret r := by
  intro fuel
  induction fuel with
  | zero => intro q b hb; exact .inl hb
  | succ mf ih =>
    intro q b hb
    rw [F_spec_l5Farthest_L1_s]
    by_cases hq : q < now.length
    · rw [decide_eq_true (show (q : Int) < (now.length : Int) by omega), cond_true]
      cases decide ((F_spec_l5Use reqs at_ b) < (F_spec_l5Use reqs at_ (now.getD q 0))) with
      | true => exact ih _ _ (getD_mem now q 0 hq)
      | false => exact ih _ _ hb
    · rw [decide_eq_false (show ¬ (q : Int) < (now.length : Int) by omega), cond_false]; exact .inl hb
theorem far_noret (reqs : List Int) (at_ : Int) (now : List Int) : ∀ (fuel q : Nat) (b r : Int), F_spec_l5Farthest_L1 reqs at_ now fuel (b, q) ≠ .ret r := by
  intro fuel
  induction fuel with
  | zero => intro q b r h; cases h
  | succ mf ih =>
    intro q b r
    rw [F_spec_l5Farthest_L1_s]
    cases decide ((q : Int) < (now.length : Int)) with
    | true =>
      rw [cond_true]
      cases decide ((F_spec_l5Use reqs at_ b) < (F_spec_l5Use reqs at_ (now.getD q 0))) with
      | true => exact ih _ _ r
      | false => exact ih _ _ r
    | false => intro h; cases h
theorem far_mem (reqs : List Int) (at_ : Int) (now : List Int) (hn : 1 ≤ now.length) : F_spec_l5Farthest reqs at_ now ∈ now := by
  unfold F_spec_l5Farthest
  rcases far_mem_L1 reqs at_ now (now.length - 1 + 1) 1 (now.getD 0 0) (getD_mem now 0 0 (by omega)) with h | ⟨r, h⟩
  · exact h
  · exact absurd h (far_noret _ _ _ _ _ _ _)
theorem farPlan_L1 {k : Int} (hk : 1 ≤ k) (reqs : List Int) : ∀ (fuel i : Nat) (c now out : List Int), Rel c now →
    (F_impl_planBy_L1 k reqs (fun i cache => F_impl_farthestPlan_1 i cache reqs) fuel (c, out, i)).elim (fun s => s.2.1) (fun r => r) = (F_spec_l5FarPlan_L1 k reqs fuel (out, now, i)).elim (fun s => s.1) (fun r => r) := by
  intro fuel
  induction fuel with
  | zero => intro i c now out _; rfl
  | succ mf ih =>
    intro i c now out hr
    rw [F_impl_planBy_L1_s, F_spec_l5FarPlan_L1_s]
    by_cases hi : (i : Int) < (reqs.length : Int)
    · simp only [has_eq, contains_eq2, hr.mem, hr.rising]
      rw [decide_eq_true hi, cond_true, cond_true]
      by_cases hp : reqs.getD i 0 ∈ c
      · rw [decide_eq_true hp, Bool.not_true, cond_false, Bool.false_and, cond_false, put_mem hr.up ((hr.mem _).2 hp)]
        exact ih (i + 1) _ _ _ hr
      · rw [decide_eq_false hp, Bool.not_false, cond_true, Bool.true_and, hr.len]
        by_cases hl : (c.length : Int) = k
        · have hn : 1 ≤ now.length := by rw [hr.len]; omega
          rw [decide_eq_true hl, cond_true, cond_true, deleteFunc_eq]
          unfold F_impl_farthestPlan_1 F_impl_planBy_1
          rw [farthest_eq reqs i (by omega) now hn]
          exact ih (i + 1) _ _ _ ((hr.out _).put fun h => hp (List.mem_filter.1 h).1)
        · rw [decide_eq_false hl, cond_false, cond_false]
          exact ih (i + 1) _ _ _ (hr.put hp)
    · rw [decide_eq_false hi, cond_false, cond_false]; rfl
theorem farPlan_eq {k : Int} (hk : 1 ≤ k) (reqs : List Int) : F_impl_farthestPlan k reqs = F_spec_l5FarPlan k reqs := by
  unfold F_impl_farthestPlan F_impl_planBy F_spec_l5FarPlan
  exact farPlan_L1 hk reqs (reqs.length - 0 + 1) 0 [] [] [] Rel.nil
theorem farthestPlan_eq (k n : Int) (reqs : List Int) : F_impl_FarthestPlan k n reqs = F_spec_FarthestPlan k n reqs := by
  unfold F_impl_FarthestPlan F_spec_FarthestPlan
  rw [paging_eq]
  cases hb : F_spec_l5Takes k n reqs with
  | false => rfl
  | true =>
    rw [Bool.not_true, cond_false, cond_false, farPlan_eq (l5Takes_t hb).1.1]
theorem farPlan_len (k : Int) (reqs : List Int) : ∀ (fuel i : Nat) (out now : List Int), out.length ≤ i → i ≤ reqs.length → reqs.length - i < fuel → ((F_spec_l5FarPlan_L1 k reqs fuel (out, now, i)).elim (fun s => s.1) (fun r => r)).length ≤ reqs.length := by
  intro fuel
  induction fuel with
  | zero => intro i out now _ _ h; omega
  | succ mf ih =>
    intro i out now ho hi h
    rw [F_spec_l5FarPlan_L1_s]
    by_cases hlt : (i : Int) < (reqs.length : Int)
    · rw [decide_eq_true hlt, cond_true]
      cases ((!(F_spec_l1Has now (reqs.getD i 0))) && (decide ((now.length : Int) = k))) with
      | true => rw [cond_true]; exact ih (i + 1) _ _ (by simp; omega) (by omega) (by omega)
      | false => rw [cond_false]; exact ih (i + 1) _ _ (by simp; omega) (by omega) (by omega)
    · rw [decide_eq_false hlt, cond_false]
      show out.length ≤ _
      omega
theorem farthestPlan_len (k n : Int) (reqs : List Int) : (F_impl_FarthestPlan k n reqs).1.length ≤ reqs.length := by
  rw [farthestPlan_eq]
  unfold F_spec_FarthestPlan
  cases F_spec_l5Takes k n reqs with
  | false => simp
  | true =>
    rw [Bool.not_true, cond_false]
    unfold F_spec_l5FarPlan
    exact farPlan_len k reqs (reqs.length - 0 + 1) 0 [] [] (by simp) (by omega) (by omega)
theorem law_FarthestPlan (k n : Int) (reqs : List Int) : F_laws_FnExactFarthestPlan k n reqs = true := by
  unfold F_laws_FnExactFarthestPlan
  simp only [toIntS_eq, farthestPlan_eq, eqIntS_refl, markIntS_eq, heldIntS_iota]
  have h1 : ¬ ((1 : Int) + (reqs.length : Int) < 0) := by omega
  have h2 : ¬ ((1 : Int) + ((F_spec_FarthestPlan k n reqs).1.length : Int) < 0) := by omega
  simp [h1, h2]
end Go.Proofs.Ytlhmmhlfledleaa
