/-
  What the walks ask of lists of pages; plain laws on lists without one number, on numbers put to their places. No condition.
-/
import Derived.Test.YtlhmmhlfledleaaLawRise
import Derived.Test.YtlhmmhlfledleaaDel
namespace Go.Proofs.Ytlhmmhlfledleaa
open Go

theorem index_bd (s : List Int) (v : Int) : -1 ≤ F_slices_Index_Sint_int s v ∧ F_slices_Index_Sint_int s v < s.length := by
  rcases index_spec s v with ⟨h, _⟩ | ⟨i, h1, h2, _⟩ <;> omega
theorem indexFunc_spec (s : List Int) (f : Int → Bool) : (F_slices_IndexFunc_Sint_int s f = -1 ∧ ∀ i, i < s.length → f (s.getD i 0) = false) ∨
    ∃ i : Nat, i < s.length ∧ F_slices_IndexFunc_Sint_int s f = i ∧ f (s.getD i 0) = true ∧ ∀ j, j < i → f (s.getD j 0) = false := by
  unfold F_slices_IndexFunc_Sint_int
  rcases scan (F_slices_IndexFunc_Sint_int_L1 s f) s.length (fun i => f (s.getD i 0)) (fun i => (i : Int)) (fun m i => F_slices_IndexFunc_Sint_int_L1_s s f i m) (s.length - 0 + 1) 0 (by omega) with ⟨h1, h2⟩ | ⟨j, _, h2, h3, h4, h5⟩
  · rw [h1]; exact .inl ⟨rfl, fun i hi => h2 i (by omega) hi⟩
  · rw [h3]; exact .inr ⟨j, h2, rfl, h4, fun k hk => h5 k (by omega) hk⟩
theorem indexFunc_bd (s : List Int) (f : Int → Bool) : F_slices_IndexFunc_Sint_int s f = -1 ∨ (0 ≤ F_slices_IndexFunc_Sint_int s f ∧ F_slices_IndexFunc_Sint_int s f < s.length) := by
  rcases indexFunc_spec s f with ⟨h, _⟩ | ⟨i, h1, h2, _⟩
  · exact .inl h
  · right; omega
theorem filter_step {α : Type} (f : α → Bool) (s : List α) (j : Nat) (hj : j < s.length) : (s.take (j + 1)).filter f = (s.take j).filter f ++ (bif f s[j] then [s[j]] else []) := by
  rw [List.take_succ_eq_append_getElem hj, List.filter_append]
  cases h : f s[j] <;> simp [h]
theorem delF_L1 (s : List Int) (del : Int → Bool) : ∀ (fuel i j : Nat) (s1 : List Int), s.length - j < fuel → i < j → j ≤ s.length → s1.length = s.length → s1.take i = (s.take j).filter (fun x => !del x) → s1.drop j = s.drop j →
    ∃ (i' : Nat) (j' : Int) (s' : List Int), F_slices_DeleteFunc_Sint_int_L1 del fuel ((i : Int), (j : Int), s1) = .next ((i' : Int), j', s') ∧ s'.take i' = s.filter (fun x => !del x) ∧ i' ≤ s'.length := by
  intro fuel
  induction fuel with
  | zero => intro i j s1 h; omega
  | succ mf ih =>
    intro i j s1 h hij hj hl h1 h2
    rw [F_slices_DeleteFunc_Sint_int_L1_s]
    by_cases hlt : j < s.length
    · rw [decide_eq_true (show (j : Int) < (s1.length : Int) by omega), cond_true, Int.toNat_natCast, Int.toNat_natCast]
      have hg : s1.getD j 0 = s[j] := by
        have := congrArg (fun l : List Int => l[0]?) h2
        simp only [List.getElem?_drop, Nat.add_zero] at this
        rw [getD_lt s1 j 0 (by omega)]
        rw [List.getElem?_eq_getElem (by omega), List.getElem?_eq_getElem (by omega)] at this
        exact Option.some.inj this
      have hd : s1.drop (j + 1) = s.drop (j + 1) := by
        have := congrArg (List.drop 1) h2
        simpa [List.drop_drop, Nat.add_comm] using this
      have hf := filter_step (fun x => !del x) s j hlt
      rw [hg]
      cases hdel : del s[j] with
      | true =>
        rw [Bool.not_true, cond_false]
        refine ih i (j + 1) s1 (by omega) (by omega) (by omega) hl ?_ hd
        rw [hf, h1]
        simp [hdel]
      | false =>
        rw [Bool.not_false, cond_true]
        refine ih (i + 1) (j + 1) (s1.set i s[j]) (by omega) (by omega) (by omega) (by simpa using hl) ?_ ?_
        · rw [hf, ← h1, List.set_eq_take_append_cons_drop, if_pos (by omega), List.take_append]
          have ht : (s1.take i).length = i := by simp; omega
          rw [List.take_of_length_le (l := s1.take i) (by omega), ht, show i + 1 - i = 1 by omega]
          simp [hdel]
        · rw [List.drop_set_of_lt (by omega)]; exact hd
    · rw [decide_eq_false (show ¬ (j : Int) < (s1.length : Int) by omega), cond_false]
      have : j = s.length := by omega
      subst this
      rw [List.take_length] at h1
      exact ⟨i, _, s1, rfl, h1, by omega⟩
theorem deleteFunc_eq (s : List Int) (del : Int → Bool) : F_slices_DeleteFunc_Sint_int s del = s.filter fun x => !del x := by
  unfold F_slices_DeleteFunc_Sint_int
  rcases indexFunc_spec s del with ⟨h1, h2⟩ | ⟨i, h1, h2, h3, h4⟩
  · rw [h1, decide_eq_true rfl, cond_true]
    refine (List.filter_eq_self.2 fun x hx => ?_).symm
    obtain ⟨i, hi, rfl⟩ := mem_getD.1 hx
    rw [h2 i hi]; rfl
  · rw [h2, decide_eq_false (by omega), cond_false]
    have hi0 : (s.take i).filter (fun x => !del x) = s.take i := List.filter_eq_self.2 fun x hx => by
      obtain ⟨q, hq, rfl⟩ := List.getElem_of_mem hx
      have hq' : q < i := by simp at hq; omega
      have := h4 q hq'
      rw [getD_lt s q 0 (by omega)] at this
      simp [this]
    have hst : s.take i = (s.take (i + 1)).filter (fun x => !del x) := by
      rw [filter_step _ s i h1, hi0]
      rw [getD_lt s i 0 h1] at h3
      simp [h3]
    obtain ⟨i', j', s', e1, e2, e3⟩ := delF_L1 s del (((s.length : Int) - ((i : Int) + 1)).toNat + 1) i (i + 1) s (by omega) (by omega) (by omega) rfl hst rfl
    rw [show ((i + 1 : Nat) : Int) = (i : Int) + 1 by omega] at e1
    rw [e1, elim_next]
    simp only [Int.toNat_natCast, List.drop_zero]
    rw [← e2, List.take_append, List.length_take, List.take_take, Nat.min_self, Nat.min_eq_left e3, Nat.sub_self, List.take_zero, List.append_nil]
theorem deleteFunc_len (s : List Int) (del : Int → Bool) : (F_slices_DeleteFunc_Sint_int s del).length ≤ s.length := by rw [deleteFunc_eq]; exact List.length_filter_le ..
theorem out_L1 (l : List Int) (x : Int) : ∀ (fuel i : Nat) (out : List Int), l.length - i < fuel → ∃ i', F_spec_l5Out_L1 l x fuel (out, i) = .next (out ++ (l.drop i).filter (fun y => !decide (y = x)), i') := by
  intro fuel
  induction fuel with
  | zero => intro i out h; omega
  | succ mf ih =>
    intro i out h
    rw [F_spec_l5Out_L1_s]
    by_cases hlt : i < l.length
    · rw [decide_eq_true (show (i : Int) < (l.length : Int) by omega), cond_true, getD_lt l i 0 hlt, List.drop_eq_getElem_cons hlt, List.filter_cons]
      by_cases hx : l[i] = x
      · obtain ⟨i', h1⟩ := ih (i + 1) out (by omega)
        refine ⟨i', ?_⟩
        simpa [hx] using h1
      · obtain ⟨i', h1⟩ := ih (i + 1) (out ++ [l[i]]) (by omega)
        refine ⟨i', ?_⟩
        simpa [hx] using h1
    · rw [decide_eq_false (show ¬ (i : Int) < (l.length : Int) by omega), cond_false, List.drop_eq_nil_of_le (by omega)]
      exact ⟨i, by simp⟩
theorem l5Out_eq (l : List Int) (x : Int) : F_spec_l5Out l x = l.filter fun y => !decide (y = x) := by
  unfold F_spec_l5Out
  obtain ⟨i', h⟩ := out_L1 l x (l.length - 0 + 1) 0 [] (by omega)
  rw [h]; simp [elim_next]
theorem l5Out_len (l : List Int) (x : Int) : (F_spec_l5Out l x).length ≤ l.length := by rw [l5Out_eq]; exact List.length_filter_le ..
theorem put_L1 (l : List Int) (n : Int) : ∀ (fuel k : Nat), l.length - k < fuel → k ≤ l.length → (∀ j, j < k → l.getD j 0 < n) → ∃ k', F_spec_l1Put_L1 l n fuel k = .next k' ∧ k' ≤ l.length ∧ (∀ j, j < k' → l.getD j 0 < n) ∧ (k' < l.length → n ≤ l.getD k' 0) := by
  intro fuel
  induction fuel with
  | zero => intro k h; omega
  | succ mf ih =>
    intro k h hk hl
    rw [F_spec_l1Put_L1_s]
    by_cases hc : k < l.length ∧ l.getD k 0 < n
    · rw [decide_eq_true (show (k : Int) < (l.length : Int) by omega), decide_eq_true hc.2, Bool.and_self, cond_true]
      refine ih (k + 1) (by omega) hc.1 fun j hj => ?_
      rcases Nat.lt_or_eq_of_le (Nat.le_of_lt_succ hj) with h1 | h1
      · exact hl j h1
      · rw [h1]; exact hc.2
    · have : ((decide ((k : Int) < (l.length : Int))) && (decide ((l.getD k 0) < n))) = false := by
        rw [Bool.eq_false_iff]; intro hh
        simp only [Bool.and_eq_true, decide_eq_true_eq] at hh
        exact hc ⟨by omega, hh.2⟩
      rw [this, cond_false]
      exact ⟨k, rfl, hk, hl, fun h1 => by have : ¬ l.getD k 0 < n := fun h2 => hc ⟨h1, h2⟩; omega⟩
theorem l1Put_len (l : List Int) (n : Int) : (F_spec_l1Put l n).length ≤ l.length + 1 := by
  unfold F_spec_l1Put
  obtain ⟨k, h1, h2, _⟩ := put_L1 l n (l.length - 0 + 1) 0 (by omega) (by omega) (fun j hj => by omega)
  rw [h1, elim_next]
  cases ((decide ((k : Int) < (l.length : Int))) && (decide ((l.getD k 0) = n))) with
  | true => rw [cond_true]; omega
  | false => rw [cond_false]; simp; omega
theorem rise_getD {l : List Int} (h : Rise l) {i j : Nat} (hij : i < j) (hj : j < l.length) : l.getD i 0 < l.getD j 0 := by
  have := List.pairwise_iff_getElem.1 h i j (by omega) hj hij
  rw [getD_lt l i 0 (by omega), getD_lt l j 0 hj]; exact this
theorem put_rise {l : List Int} (hl : Rise l) (n : Int) : Rise (F_spec_l1Put l n) ∧ ∀ v, v ∈ F_spec_l1Put l n ↔ v = n ∨ v ∈ l := by
  unfold F_spec_l1Put
  obtain ⟨k, h1, h2, h3, h4⟩ := put_L1 l n (l.length - 0 + 1) 0 (by omega) (by omega) (fun j hj => by omega)
  rw [h1, elim_next]
  by_cases hc : k < l.length ∧ l.getD k 0 = n
  · rw [decide_eq_true (show (k : Int) < (l.length : Int) by omega), decide_eq_true hc.2, Bool.and_self, cond_true]
    refine ⟨hl, fun v => ⟨.inr, fun h => ?_⟩⟩
    rcases h with rfl | h
    · exact mem_getD.2 ⟨k, hc.1, hc.2⟩
    · exact h
  · have : ((decide ((k : Int) < (l.length : Int))) && (decide ((l.getD k 0) = n))) = false := by
      rw [Bool.eq_false_iff]; intro hh
      simp only [Bool.and_eq_true, decide_eq_true_eq] at hh
      exact hc ⟨by omega, hh.2⟩
    rw [this, cond_false]
    simp only [List.nil_append, List.drop_zero, List.take_length]
    have ht : ∀ v ∈ l.take k, v < n := fun v hv => by
      obtain ⟨i, hi, rfl⟩ := List.getElem_of_mem hv
      have hi' : i < k := by simp at hi; omega
      have := h3 i hi'
      rw [getD_lt l i 0 (by omega)] at this
      simpa using this
    have hd : ∀ v ∈ l.drop k, n < v := fun v hv => by
      obtain ⟨i, hi, rfl⟩ := List.getElem_of_mem hv
      have hi' : k + i < l.length := by simp at hi; omega
      have a1 : n < l.getD k 0 := by
        have := h4 (by omega)
        have : l.getD k 0 ≠ n := fun e => hc ⟨by omega, e⟩
        omega
      have a2 : l.getD k 0 ≤ l.getD (k + i) 0 := by
        rcases Nat.eq_zero_or_pos i with rfl | h
        · exact Int.le_refl _
        · exact Int.le_of_lt (rise_getD hl (by omega) hi')
      rw [getD_lt l (k + i) 0 hi'] at a2
      simp only [List.getElem_drop]
      omega
    refine ⟨?_, fun v => ?_⟩
    · unfold Rise
      rw [List.pairwise_append, List.pairwise_append]
      refine ⟨⟨List.Pairwise.sublist (List.take_sublist _ _) hl, by simp, fun a ha b hb => ?_⟩, List.Pairwise.sublist (List.drop_sublist _ _) hl, fun a ha b hb => ?_⟩
      · rw [List.mem_singleton.1 hb]; exact ht a ha
      · rcases List.mem_append.1 ha with ha | ha
        · have := ht a ha; have := hd b hb; omega
        · rw [List.mem_singleton.1 ha]; exact hd b hb
    · have e : v ∈ l ↔ v ∈ l.take k ∨ v ∈ l.drop k := by rw [← List.mem_append, List.take_append_drop]
      rw [List.mem_append, List.mem_append, List.mem_singleton, e]
      constructor
      · rintro ((h | h) | h)
        · exact .inr (.inl h)
        · exact .inl h
        · exact .inr (.inr h)
      · rintro (h | h | h)
        · exact .inl (.inr h)
        · exact .inl (.inl h)
        · exact .inr h
theorem put_mem {l : List Int} (hl : Rise l) {n : Int} (h : n ∈ l) : F_spec_l1Put l n = l := by
  obtain ⟨h1, h2⟩ := put_rise hl n
  refine rise_unique h1 hl fun v => (h2 v).trans ⟨fun h3 => ?_, .inr⟩
  rcases h3 with rfl | h3
  · exact h
  · exact h3

/-! what is asked of requests -/
theorem l3List_iff (n : Int) (l : List Int) : F_spec_l3List n l = true ↔ ∀ i, i < l.length → 0 ≤ l.getD i 0 ∧ l.getD i 0 < n := by
  unfold F_spec_l3List
  rcases scan (F_spec_l3List_L1 n l) l.length (fun i => !((decide (0 ≤ (l.getD i 0))) && (decide ((l.getD i 0) ≤ (n - 1))))) (fun _ => false) (fun m i => F_spec_l3List_L1_s n l i m) (l.length - 0 + 1) 0 (by omega) with ⟨h1, h2⟩ | ⟨j, _, h2, h3, h4, _⟩
  · rw [h1]
    refine ⟨fun _ i hi => ?_, fun _ => rfl⟩
    have := h2 i (by omega) hi
    simp only [Bool.not_eq_false', Bool.and_eq_true, decide_eq_true_eq] at this
    omega
  · rw [h3]
    refine ⟨fun h => (by simp [elim_ret] at h), fun h => ?_⟩
    have h5 := h j h2
    rw [decide_eq_true h5.1, decide_eq_true (by omega)] at h4
    cases h4
theorem requests_eq (n : Int) (reqs : List Int) : F_impl_IsRequests n reqs = F_spec_l3Good n reqs := by
  unfold F_impl_IsRequests F_spec_l3Good
  congr 1
  rw [Bool.eq_iff_iff, areBelow_iff, l3List_iff]
theorem paging_eq (k n : Int) (reqs : List Int) : F_impl_isPaging k n reqs = F_spec_l5Takes k n reqs := by
  unfold F_impl_isPaging F_spec_l5Takes
  rw [requests_eq]
theorem l3Good_t {n : Int} {reqs : List Int} (h : F_spec_l3Good n reqs = true) : (1 ≤ n ∧ n ≤ 8) ∧ reqs.length ≤ 60 ∧ ∀ i, i < reqs.length → 0 ≤ reqs.getD i 0 ∧ reqs.getD i 0 < n := by
  unfold F_spec_l3Good at h
  simp only [Bool.and_eq_true, decide_eq_true_eq] at h
  exact ⟨h.1.1, by omega, (l3List_iff n reqs).1 h.2⟩
theorem isRequests_t {n : Int} {reqs : List Int} (h : F_impl_IsRequests n reqs = true) : (1 ≤ n ∧ n ≤ 8) ∧ reqs.length ≤ 60 ∧ ∀ i, i < reqs.length → 0 ≤ reqs.getD i 0 ∧ reqs.getD i 0 < n := l3Good_t (by rw [← requests_eq]; exact h)
theorem l5Takes_t {k n : Int} {reqs : List Int} (h : F_spec_l5Takes k n reqs = true) : (1 ≤ k ∧ k ≤ 6) ∧ (1 ≤ n ∧ n ≤ 8) ∧ reqs.length ≤ 60 ∧ ∀ i, i < reqs.length → 0 ≤ reqs.getD i 0 ∧ reqs.getD i 0 < n := by
  unfold F_spec_l5Takes at h
  simp only [Bool.and_eq_true, decide_eq_true_eq] at h
  exact ⟨h.1, l3Good_t h.2⟩
theorem isPaging_t {k n : Int} {reqs : List Int} (h : F_impl_isPaging k n reqs = true) : (1 ≤ k ∧ k ≤ 6) ∧ (1 ≤ n ∧ n ≤ 8) ∧ reqs.length ≤ 60 ∧ ∀ i, i < reqs.length → 0 ≤ reqs.getD i 0 ∧ reqs.getD i 0 < n := l5Takes_t (by rw [← paging_eq]; exact h)
theorem l5Plan_iff (n : Int) (reqs plan : List Int) : F_spec_l5Plan n reqs plan = true ↔ plan.length = reqs.length ∧ ∀ i, i < plan.length → -1 ≤ plan.getD i 0 ∧ plan.getD i 0 < n := by
  unfold F_spec_l5Plan
  by_cases hl : plan.length = reqs.length
  · rw [decide_eq_true (show (plan.length : Int) = (reqs.length : Int) by omega), Bool.not_true, cond_false]
    rcases scan (F_spec_l5Plan_L1 n plan) plan.length (fun i => !((decide ((-1) ≤ (plan.getD i 0))) && (decide ((plan.getD i 0) ≤ (n - 1))))) (fun _ => false) (fun m i => F_spec_l5Plan_L1_s n plan i m) (plan.length - 0 + 1) 0 (by omega) with ⟨h1, h2⟩ | ⟨j, _, h2, h3, h4, _⟩
    · rw [h1]
      refine ⟨fun _ => ⟨hl, fun i hi => ?_⟩, fun _ => rfl⟩
      have := h2 i (by omega) hi
      simp only [Bool.not_eq_false', Bool.and_eq_true, decide_eq_true_eq] at this
      omega
    · rw [h3]
      refine ⟨fun h => (by simp [elim_ret] at h), fun h => ?_⟩
      have h5 := h.2 j h2
      rw [decide_eq_true h5.1, decide_eq_true (by omega)] at h4
      cases h4
  · rw [decide_eq_false (show ¬ (plan.length : Int) = (reqs.length : Int) by omega), Bool.not_false, cond_true]
    exact ⟨fun h => (by cases h), fun h => absurd h.1 hl⟩
theorem l5Plan_t {n : Int} {reqs plan : List Int} (h : F_spec_l5Plan n reqs plan = true) : plan.length = reqs.length ∧ ∀ i, i < plan.length → -1 ≤ plan.getD i 0 ∧ plan.getD i 0 < n := (l5Plan_iff n reqs plan).1 h
theorem planList_eq (k n : Int) (reqs plan : List Int) : F_impl_isPlanList k n reqs plan = (F_spec_l5Takes k n reqs && F_spec_l5Plan n reqs plan) := by
  rw [Bool.eq_iff_iff, Bool.and_eq_true, l5Plan_iff]
  unfold F_impl_isPlanList
  rw [Bool.and_eq_true, Bool.and_eq_true, paging_eq, decide_eq_true_eq, Bool.not_eq_true']
  constructor
  · rintro ⟨⟨h1, h2⟩, h3⟩
    refine ⟨h1, by omega, fun i hi => ?_⟩
    have h4 : ¬ F_impl_isPlanList_1 (plan.getD i 0) n = true := fun hh => by rw [(contains_f _ _).2 ⟨i, hi, hh⟩] at h3; cases h3
    unfold F_impl_isPlanList_1 at h4
    simp only [Bool.not_eq_true', Bool.not_eq_false, Bool.and_eq_true, decide_eq_true_eq] at h4
    omega
  · rintro ⟨h1, h2, h3⟩
    refine ⟨⟨h1, by omega⟩, ?_⟩
    rw [Bool.eq_false_iff]
    intro hh
    obtain ⟨i, hi, h4⟩ := (contains_f _ _).1 hh
    have h5 := h3 i hi
    unfold F_impl_isPlanList_1 at h4
    simp only [Bool.not_eq_true', Bool.and_eq_false_iff, decide_eq_false_iff_not] at h4
    omega
theorem isPlanList_t {k n : Int} {reqs plan : List Int} (h : F_impl_isPlanList k n reqs plan = true) : ((1 ≤ k ∧ k ≤ 6) ∧ (1 ≤ n ∧ n ≤ 8) ∧ reqs.length ≤ 60 ∧ ∀ i, i < reqs.length → 0 ≤ reqs.getD i 0 ∧ reqs.getD i 0 < n) ∧ plan.length = reqs.length ∧ ∀ i, i < plan.length → -1 ≤ plan.getD i 0 ∧ plan.getD i 0 < n := by
  rw [planList_eq, Bool.and_eq_true] at h
  exact ⟨l5Takes_t h.1, l5Plan_t h.2⟩

/-! who chooses -/
/-- What is known where a page must be chosen. -/
structure Dom (k : Int) (reqs : List Int) (i : Int) (now : List Int) : Prop where
  bd : 0 ≤ i ∧ i < reqs.length
  len : (now.length : Int) = k
  small : now.length ≤ 1000
  nd : now.Nodup
  out : reqs.getD i.toNat 0 ∉ now
theorem not_mem_of {c : List Int} {p : Int} (h : F_slices_Contains_Sint_int c p = false) : p ∉ c := fun hm => by
  rw [(contains_iff c p).2 (mem_getD.1 hm)] at h; cases h
theorem nodup_push {c : List Int} {p : Int} (h : c.Nodup) (hp : p ∉ c) : (c ++ [p]).Nodup := by
  rw [List.nodup_append]
  exact ⟨h, by simp, fun a ha b hb => by rw [List.mem_singleton.1 hb]; exact fun e => hp (e ▸ ha)⟩
theorem nodup_del_push {c : List Int} {p : Int} {f : Int → Bool} (h : c.Nodup) (hp : p ∉ c) : (F_slices_DeleteFunc_Sint_int c f ++ [p]).Nodup := by
  rw [deleteFunc_eq]
  exact nodup_push (List.Pairwise.sublist List.filter_sublist h) fun hm => hp (List.mem_filter.1 hm).1
theorem rising_perm {c : List Int} (h : c.Nodup) : (F_impl_rising c).Perm c :=
  (List.perm_ext_iff_of_nodup (rise_nodup (rising_spec c).1) h).2 (rising_spec c).2
theorem dom_of {k : Int} {reqs c : List Int} {i : Nat} (h : c.Nodup) (hp : reqs.getD i 0 ∉ c) (hi : i < reqs.length) (hl : (c.length : Int) = k) (hs : c.length ≤ 1000) : Dom k reqs (i : Int) (F_impl_rising c) := by
  have hl2 := (rising_perm h).length_eq
  refine ⟨by omega, by omega, by omega, rise_nodup (rising_spec c).1, ?_⟩
  rw [Int.toNat_natCast]
  exact fun hm => hp (((rising_spec c).2 _).1 hm)
end Go.Proofs.Ytlhmmhlfledleaa
