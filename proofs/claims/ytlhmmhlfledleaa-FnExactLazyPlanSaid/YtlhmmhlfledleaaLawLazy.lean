/-
  Plain laws on lazy plans. No condition.
-/
import Derived.Test.YtlhmmhlfledleaaDefR
import Derived.Test.YtlhmmhlfledleaaLawPage
namespace Go.Proofs.Ytlhmmhlfledleaa
open Go

/-- The caches of a plan that is possible. -/
structure CacheOk (k : Int) (reqs : List Int) (cs : List (List Int)) : Prop where
  len : cs.length = reqs.length
  row : ∀ i, i < reqs.length → reqs.getD i 0 ∈ cs.getD i [] ∧ ((cs.getD i []).length : Int) ≤ k
theorem out_rise {l : List Int} (h : Rise l) (x : Int) : Rise (F_spec_l5Out l x) := by
  rw [l5Out_eq]; exact List.Pairwise.sublist List.filter_sublist h
theorem push_rows {k : Int} {reqs : List Int} {out : List (List Int)} {z : List Int} (h : ∀ j, j < out.length → reqs.getD j 0 ∈ out.getD j [] ∧ ((out.getD j []).length : Int) ≤ k) (hz : reqs.getD out.length 0 ∈ z) (hk : (z.length : Int) ≤ k) :
    ∀ j, j < (out ++ [z]).length → reqs.getD j 0 ∈ (out ++ [z]).getD j [] ∧ (((out ++ [z]).getD j []).length : Int) ≤ k := by
  intro j hj
  have hj' : j < out.length + 1 := by simpa using hj
  rcases Nat.lt_or_eq_of_le (Nat.le_of_lt_succ hj') with h1 | h1
  · have e : (out ++ [z]).getD j [] = out.getD j [] := by
      simp only [List.getD_eq_getElem?_getD, List.getElem?_append, if_pos h1]
    rw [e]; exact h j h1
  · subst h1
    have e : (out ++ [z]).getD out.length [] = z := by simp [List.getD]
    rw [e]; exact ⟨hz, hk⟩
theorem run_ok_L1 (k : Int) (reqs plan : List Int) : ∀ (fuel faults : Nat) (now : List Int) (out : List (List Int)), Rise now → out.length ≤ reqs.length → reqs.length - out.length < fuel → (∀ j, j < out.length → reqs.getD j 0 ∈ out.getD j [] ∧ ((out.getD j []).length : Int) ≤ k) →
    (∃ s, F_spec_l5Run_L1 k reqs plan fuel (out, faults, now, out.length) = .next s ∧ CacheOk k reqs s.1) ∨ (∃ r, F_spec_l5Run_L1 k reqs plan fuel (out, faults, now, out.length) = .ret r ∧ r.2.2 = false) := by
  intro fuel
  induction fuel with
  | zero => intro faults now out _ _ h; omega
  | succ mf ih =>
    intro faults now out hu hi h ho
    rw [F_spec_l5Run_L1_s]
    have hput := put_rise hu
    have push : ∀ (z : List Int) (f : Nat), Rise z → reqs.getD out.length 0 ∈ z → out.length < reqs.length →
        (∃ s, (bif decide (k < (z.length : Int)) then (Ctl.ret ([], 0, false)) else F_spec_l5Run_L1 k reqs plan mf ((out ++ [z]), f, z, (out.length + 1))) = .next s ∧ CacheOk k reqs s.1) ∨ (∃ r, (bif decide (k < (z.length : Int)) then (Ctl.ret ([], 0, false)) else F_spec_l5Run_L1 k reqs plan mf ((out ++ [z]), f, z, (out.length + 1))) = .ret r ∧ r.2.2 = false) := by
      intro z f hz hm hlt
      cases hd : decide (k < (z.length : Int)) with
      | true => rw [cond_true]; exact .inr ⟨_, rfl, rfl⟩
      | false =>
        have hk := of_decide_eq_false hd
        rw [cond_false]
        have := ih f z (out ++ [z]) hz (by simp; omega) (by simp; omega) (push_rows ho hm (by omega))
        rw [show (out ++ [z]).length = out.length + 1 by simp] at this
        exact this
    by_cases hlt : (out.length : Int) < (reqs.length : Int)
    · rw [decide_eq_true hlt, cond_true]
      cases decide (0 ≤ plan.getD out.length 0) with
      | true =>
        rw [cond_true]
        cases hb : ((F_spec_l1Has now (reqs.getD out.length 0)) || (!(F_spec_l1Has now (plan.getD out.length 0)))) with
        | true => rw [cond_true]; exact .inr ⟨_, rfl, rfl⟩
        | false =>
          rw [Bool.or_eq_false_iff] at hb
          rw [cond_false, hb.1, Bool.not_false, cond_true]
          exact push _ _ (put_rise (out_rise hu _) _).1 (((put_rise (out_rise hu _) _).2 _).2 (.inl rfl)) (by omega)
      | false =>
        rw [cond_false]
        cases hb : F_spec_l1Has now (reqs.getD out.length 0) with
        | true =>
          rw [Bool.not_true, cond_false]
          rw [has_eq, decide_eq_true_eq] at hb
          exact push _ _ hu hb (by omega)
        | false =>
          rw [Bool.not_false, cond_true]
          exact push _ _ (hput _).1 (((hput _).2 _).2 (.inl rfl)) (by omega)
    · rw [decide_eq_false hlt, cond_false]
      have : out.length = reqs.length := by omega
      exact .inl ⟨_, rfl, this, fun i h1 => ho i (by omega)⟩
theorem run_cacheOk {k : Int} {reqs plan : List Int} (h : (F_spec_l5Run k reqs plan).2.2 = true) : CacheOk k reqs (F_spec_l5Run k reqs plan).1 := by
  unfold F_spec_l5Run at *
  rcases run_ok_L1 k reqs plan (reqs.length - 0 + 1) 0 [] [] .nil (by simp) (by simp) (fun j hj => by simp at hj) with ⟨s, h1, h2⟩ | ⟨r, h1, h2⟩
  · have h1' : F_spec_l5Run_L1 k reqs plan (reqs.length - 0 + 1) ([], 0, [], 0) = .next s := h1
    rw [h1']
    obtain ⟨s1, s2, s3, s4⟩ := s
    exact h2
  · have h1' : F_spec_l5Run_L1 k reqs plan (reqs.length - 0 + 1) ([], 0, [], 0) = .ret r := h1
    rw [h1', elim_ret, h2] at h; cases h
theorem caches_ok {k n : Int} {reqs plan : List Int} (h : (F_impl_PlanCaches k n reqs plan).2 = true) : CacheOk k reqs (F_impl_PlanCaches k n reqs plan).1 := by
  rw [planCaches_eq] at *
  unfold F_spec_PlanCaches at *
  cases hb : ((!(F_spec_l5Takes k n reqs)) || (!(F_spec_l5Plan n reqs plan))) with
  | true => rw [hb, cond_true] at h; cases h
  | false => rw [hb, cond_false] at h; rw [cond_false]; exact run_cacheOk h

theorem planCaches_pl {k n : Int} {reqs plan : List Int} (h : (F_impl_PlanCaches k n reqs plan).2 = true) : reqs.length ≤ 60 := by
  unfold F_impl_PlanCaches at h
  cases hb : F_impl_isPlanList k n reqs plan with
  | false => rw [hb, Bool.not_false, cond_true] at h; cases h
  | true => exact (isPlanList_t hb).1.2.2.1
theorem len_of_sub : ∀ (a b : List Int), a.Nodup → (∀ x ∈ a, x ∈ b) → a.length ≤ b.length
  | [], _, _, _ => by simp
  | x :: a, b, hn, h => by
    have h1 := List.nodup_cons.1 hn
    have hm := h x (List.mem_cons_self ..)
    have h2 := len_of_sub a (b.erase x) h1.2 fun y hy => (List.mem_erase_of_ne (fun e => h1.1 (by rw [← e]; exact hy))).2 (h y (List.mem_cons_of_mem _ hy))
    rw [List.length_erase_of_mem hm] at h2
    have := List.length_pos_of_mem hm
    simp only [List.length_cons]; omega
theorem some_out {now cs : List Int} {p : Int} (hn : now.Nodup) (hp : p ∉ now) (hm : p ∈ cs) (hl : cs.length ≤ now.length) : ∃ q, q < now.length ∧ now.getD q 0 ∉ cs := by
  refine Classical.byContradiction fun h => ?_
  have h1 := len_of_sub (p :: now) cs (List.nodup_cons.2 ⟨hp, hn⟩) fun x hx => by
    rcases List.mem_cons.1 hx with rfl | hx
    · exact hm
    · obtain ⟨i, hi, rfl⟩ := mem_getD.1 hx
      exact Classical.byContradiction fun h2 => h ⟨i, hi, h2⟩
  simp only [List.length_cons] at h1
  omega
theorem rising_of_rise {l : List Int} (h : Rise l) : F_impl_rising l = l := rise_unique (rising_spec l).1 h (rising_spec l).2
theorem gone_eq {now : List Int} (hu : Rise now) (cs : List Int) : F_impl_goneBy now cs = now.filter fun x => !decide (x ∈ cs) := by
  unfold F_impl_goneBy
  rw [deleteFunc_eq, rising_of_rise (List.Pairwise.sublist List.filter_sublist hu)]
  unfold F_impl_goneBy_1
  simp only [contains_eq2]
theorem filter_first (f : Int → Bool) : ∀ (l : List Int) (j : Nat), j < l.length → f (l.getD j 0) = true → (∀ p, p < j → f (l.getD p 0) = false) → (l.filter f).getD 0 0 = l.getD j 0
  | [], j, h, _, _ => by simp at h
  | x :: l, 0, _, h, _ => by
    have h' : f x = true := h
    rw [List.filter_cons, if_pos h']; rfl
  | x :: l, j + 1, h, h1, h2 => by
    have h0 : ¬ f x = true := by have := h2 0 (by omega); simpa using this
    rw [List.filter_cons, if_neg h0]
    have := filter_first f l j (by simpa using h) (by simpa using h1) (fun p hp => by have := h2 (p + 1) (by omega); simpa using this)
    rw [this]; simp
theorem lazy_L2 (caches : List (List Int)) (now : List Int) (i : Nat) : ∀ fuel j, (∃ q, j ≤ q ∧ q < now.length ∧ now.getD q 0 ∉ caches.getD i []) → now.length - j < fuel →
    ∃ j', F_spec_l5Lazy_L2 caches now i fuel j = .next j' ∧ j' < now.length ∧ now.getD j' 0 ∉ caches.getD i [] ∧ ∀ p, j ≤ p → p < j' → now.getD p 0 ∈ caches.getD i [] := by
  intro fuel
  induction fuel with
  | zero => intro j _ h; omega
  | succ mf ih =>
    intro j hq h
    obtain ⟨q, h1, h2, h3⟩ := hq
    rw [F_spec_l5Lazy_L2_s, has_eq]
    by_cases hm : now.getD j 0 ∈ caches.getD i []
    · rw [decide_eq_true hm, cond_true]
      have hne : j ≠ q := fun e => h3 (e ▸ hm)
      obtain ⟨j', e1, e2, e3, e4⟩ := ih (j + 1) ⟨q, by omega, h2, h3⟩ (by omega)
      refine ⟨j', e1, e2, e3, fun p h4 h5 => ?_⟩
      rcases Nat.eq_or_lt_of_le h4 with rfl | h4
      · exact hm
      · exact e4 p h4 h5
    · rw [decide_eq_false hm, cond_false]
      exact ⟨j, rfl, by omega, hm, fun p h4 h5 => by omega⟩
/-! what the walks ask -/
structure LzPre (i : Int) (cache : List Int) (caches : List (List Int)) : Prop where
  i0 : 0 ≤ i
  i1 : i < caches.length
  small : cache.length ≤ 1000
  some : 1 ≤ (F_impl_goneBy cache (caches.getD i.toNat [])).length
theorem lz_pre {k n : Int} {reqs plan : List Int} {i : Int} {now : List Int} (hok : (F_impl_PlanCaches k n reqs plan).2 = true) (hd : Dom k reqs i now) : LzPre i now (F_impl_PlanCaches k n reqs plan).1 := by
  have hc := caches_ok hok
  have hb := hd.bd
  have h1 := hc.row i.toNat (by omega)
  have h2 := hd.len
  obtain ⟨q, h3, h4⟩ := some_out hd.nd hd.out h1.1 (by omega)
  refine ⟨hb.1, by rw [hc.len]; exact hb.2, hd.small, ?_⟩
  unfold F_impl_goneBy
  refine List.length_pos_of_mem (a := now.getD q 0) (((rising_spec _).2 _).2 ?_)
  rw [deleteFunc_eq, List.mem_filter]
  refine ⟨mem_getD.2 ⟨q, h3, rfl⟩, ?_⟩
  unfold F_impl_goneBy_1
  rw [contains_eq2, decide_eq_false h4]; rfl
theorem lazy_some {k : Int} {reqs now : List Int} {caches : List (List Int)} {i : Nat} (hc : CacheOk k reqs caches) (hu : Rise now) (hh : ∀ j, j < now.length → now.getD j 0 ≠ reqs.getD i 0) (hl : (now.length : Int) = k) (hi : i < reqs.length) :
    ∃ q, 0 ≤ q ∧ q < now.length ∧ now.getD q 0 ∉ caches.getD i [] := by
  have h1 := hc.row i hi
  obtain ⟨q, h3, h4⟩ := some_out (rise_nodup hu) (fun hm => by obtain ⟨j, e1, e2⟩ := mem_getD.1 hm; exact hh j e1 e2) h1.1 (by omega)
  exact ⟨q, by omega, h3, h4⟩
theorem lazy_lt {now cs : List Int} {j : Nat} (h : ∃ q, j ≤ q ∧ q < now.length ∧ now.getD q 0 ∉ cs) : j < now.length := by obtain ⟨q, h1, h2, _⟩ := h; omega
theorem lazy_step {now cs : List Int} {j : Nat} (h : ∃ q, j ≤ q ∧ q < now.length ∧ now.getD q 0 ∉ cs) (hh : F_spec_l1Has cs (now.getD j 0) = true) : ∃ q, j + 1 ≤ q ∧ q < now.length ∧ now.getD q 0 ∉ cs := by
  obtain ⟨q, h1, h2, h3⟩ := h
  rw [has_eq, decide_eq_true_eq] at hh
  have : j ≠ q := fun e => h3 (e ▸ hh)
  exact ⟨q, by omega, h2, h3⟩
theorem lazy_L1 {k : Int} (hk : 1 ≤ k) {reqs : List Int} {caches : List (List Int)} (hc : CacheOk k reqs caches) : ∀ (fuel i : Nat) (c now out : List Int), Rel c now →
    (F_impl_planBy_L1 k reqs (fun i cache => F_impl_LazyPlan_1 i cache caches) fuel (c, out, i)).elim (fun s => s.2.1) (fun r => r) = (F_spec_l5Lazy_L1 k reqs caches fuel (out, now, i)).elim (fun s => s.1) (fun r => r) := by
  intro fuel
  induction fuel with
  | zero => intro i c now out _; rfl
  | succ mf ih =>
    intro i c now out hr
    rw [F_impl_planBy_L1_s, F_spec_l5Lazy_L1_s]
    by_cases hi : (i : Int) < (reqs.length : Int)
    · rw [hr.rising]
      by_cases hp : reqs.getD i 0 ∈ c
      · rw [contains_eq2, has_eq, decide_eq_true hi, cond_true, cond_true, decide_eq_true hp, decide_eq_true ((hr.mem _).2 hp), Bool.not_true, cond_false, Bool.false_and, cond_false, put_mem hr.up ((hr.mem _).2 hp)]
        exact ih (i + 1) _ _ _ hr
      · have hp' : reqs.getD i 0 ∉ now := fun h => hp ((hr.mem _).1 h)
        rw [contains_eq2, has_eq, decide_eq_true hi, cond_true, cond_true, decide_eq_false hp, decide_eq_false hp', Bool.not_false, cond_true, Bool.true_and, hr.len]
        by_cases hl : (c.length : Int) = k
        · have hn : (now.length : Int) = k := by rw [hr.len]; exact hl
          have h1 := hc.row i (by omega)
          obtain ⟨q, h3, h4⟩ := some_out (rise_nodup hr.up) hp' h1.1 (by omega)
          obtain ⟨j, e1, e2, e3, e4⟩ := lazy_L2 caches now i (c.length - 0 + 1) 0 ⟨q, by omega, h3, h4⟩ (by rw [hr.len]; omega)
          rw [decide_eq_true hl, cond_true, cond_true, e1, elim_next, deleteFunc_eq]
          unfold F_impl_LazyPlan_1 F_impl_planBy_1
          rw [Int.toNat_natCast, gone_eq hr.up, filter_first (fun x => !decide (x ∈ caches.getD i [])) now j e2 (by show (!decide (now.getD j 0 ∈ caches.getD i [])) = true; rw [decide_eq_false e3]; rfl) (fun p hp => by show (!decide (now.getD p 0 ∈ caches.getD i [])) = false; rw [decide_eq_true (e4 p (by omega) hp)]; rfl)]
          exact ih (i + 1) _ _ _ ((hr.out _).put fun h => hp (List.mem_filter.1 h).1)
        · rw [decide_eq_false hl, cond_false, cond_false]
          exact ih (i + 1) _ _ _ (hr.put hp)
    · rw [decide_eq_false hi, cond_false, cond_false]; rfl
theorem lazyPlan_eq (k n : Int) (reqs plan : List Int) : F_impl_LazyPlan k n reqs plan = F_spec_LazyPlan k n reqs plan := by
  unfold F_impl_LazyPlan F_spec_LazyPlan
  rw [planCaches_eq]
  unfold F_spec_PlanCaches
  cases hb : ((!(F_spec_l5Takes k n reqs)) || (!(F_spec_l5Plan n reqs plan))) with
  | true => rfl
  | false =>
    simp only [Bool.or_eq_false_iff, Bool.not_eq_false'] at hb
    have ht := l5Takes_t hb.1
    simp only [cond_false]
    cases hok : (F_spec_l5Run k reqs plan).2.2 with
    | false => rfl
    | true =>
      rw [Bool.not_true, cond_false, cond_false]
      unfold F_impl_planBy F_spec_l5Lazy
      exact congrArg (fun z => (z, true)) (lazy_L1 ht.1.1 (run_cacheOk hok) (reqs.length - 0 + 1) 0 [] [] [] Rel.nil)
theorem lazy_len_L1 (k : Int) (reqs : List Int) (caches : List (List Int)) : ∀ (fuel i : Nat) (out now : List Int), out.length ≤ i → i ≤ reqs.length → reqs.length - i < fuel →
    (∃ s, F_spec_l5Lazy_L1 k reqs caches fuel (out, now, i) = .next s ∧ s.1.length ≤ reqs.length) ∨ ∃ r, F_spec_l5Lazy_L1 k reqs caches fuel (out, now, i) = .ret r := by
  intro fuel
  induction fuel with
  | zero => intro i out now _ _ h; omega
  | succ mf ih =>
    intro i out now ho hi h
    rw [F_spec_l5Lazy_L1_s]
    by_cases hlt : (i : Int) < (reqs.length : Int)
    · rw [decide_eq_true hlt, cond_true]
      cases ((!(F_spec_l1Has now (reqs.getD i 0))) && (decide ((now.length : Int) = k))) with
      | true =>
        rw [cond_true]
        cases F_spec_l5Lazy_L2 caches now i (now.length - 0 + 1) 0 with
        | next j => rw [elim_next]; exact ih (i + 1) _ _ (by simp; omega) (by omega) (by omega)
        | ret r => rw [elim_ret]; exact .inr ⟨r, rfl⟩
      | false => rw [cond_false]; exact ih (i + 1) _ _ (by simp; omega) (by omega) (by omega)
    · rw [decide_eq_false hlt, cond_false]
      exact .inl ⟨_, rfl, by show out.length ≤ _; omega⟩
theorem planBy_len_L1 (k : Int) (reqs : List Int) (ch : Int → List Int → Int) : ∀ (fuel i : Nat) (out c : List Int), out.length ≤ i → i ≤ reqs.length → reqs.length - i < fuel → ((F_impl_planBy_L1 k reqs ch fuel (c, out, i)).elim (fun s => s.2.1) (fun r => r)).length ≤ reqs.length := by
  intro fuel
  induction fuel with
  | zero => intro i out c _ _ h; omega
  | succ mf ih =>
    intro i out c ho hi h
    rw [F_impl_planBy_L1_s]
    by_cases hlt : (i : Int) < (reqs.length : Int)
    · rw [decide_eq_true hlt, cond_true]
      cases !(F_slices_Contains_Sint_int c (reqs.getD i 0)) with
      | true =>
        rw [cond_true]
        cases decide ((c.length : Int) = k) with
        | true => rw [cond_true]; exact ih (i + 1) _ _ (by simp; omega) (by omega) (by omega)
        | false => rw [cond_false]; exact ih (i + 1) _ _ (by simp; omega) (by omega) (by omega)
      | false => rw [cond_false]; exact ih (i + 1) _ _ (by simp; omega) (by omega) (by omega)
    · rw [decide_eq_false hlt, cond_false]
      show out.length ≤ _
      omega
theorem lazyPlan_len (k n : Int) (reqs plan : List Int) : (F_impl_LazyPlan k n reqs plan).1.length ≤ reqs.length := by
  unfold F_impl_LazyPlan
  cases (F_impl_PlanCaches k n reqs plan).2 with
  | false => simp
  | true =>
    rw [Bool.not_true, cond_false]
    unfold F_impl_planBy
    exact planBy_len_L1 k reqs _ (reqs.length - 0 + 1) 0 [] [] (by simp) (by omega) (by omega)
theorem law_LazyPlan (k n : Int) (reqs plan : List Int) : F_laws_FnExactLazyPlan k n reqs plan = true := by
  unfold F_laws_FnExactLazyPlan
  simp only [toIntS_eq, lazyPlan_eq, eqIntS_refl, markIntS_eq, heldIntS_iota]
  have h1 : ¬ ((1 : Int) + (reqs.length : Int) + (plan.length : Int) < 0) := by omega
  have h2 : ¬ ((1 : Int) + ((F_spec_LazyPlan k n reqs plan).1.length : Int) < 0) := by omega
  simp [h1, h2]
end Go.Proofs.Ytlhmmhlfledleaa
