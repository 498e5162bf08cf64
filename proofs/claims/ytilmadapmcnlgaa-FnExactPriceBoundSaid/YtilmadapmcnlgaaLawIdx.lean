/-
  Plain laws on work lists: where a configuration stands, the next work list. No condition.
-/
import Derived.Test.YtilmadapmcnlgaaLawSortA
namespace Go.Proofs.Ytilmadapmcnlgaa

/-! where a configuration stands -/
theorem cfg_ev2 (n k : Int) (h : 1 ≤ n ∧ n ≤ 6) (hk : 1 ≤ k ∧ k ≤ 3) : ((List.range (F_impl_configsOf n k 0).length).all fun i => decide (F_impl_works_index (F_impl_configsOf n k 0) [] ((F_impl_configsOf n k 0).getD i []) = (i : Int)) && decide (F_spec_l7Index (F_impl_configsOf n k 0) ((F_impl_configsOf n k 0).getD i []) = (i : Int))) = true := by
  have hn : n = 1 ∨ n = 2 ∨ n = 3 ∨ n = 4 ∨ n = 5 ∨ n = 6 := by omega
  have hk : k = 1 ∨ k = 2 ∨ k = 3 := by omega
  rcases hn with rfl | rfl | rfl | rfl | rfl | rfl <;> rcases hk with rfl | rfl | rfl <;> decide +kernel
theorem cfg_m1 (n : Nat) (h : 1 ≤ n ∧ n ≤ 6) : ((List.range n).all fun x => decide ([(x : Int)] ∈ F_impl_configsOf (n : Int) 1 0)) = true := by
  have hn : n = 1 ∨ n = 2 ∨ n = 3 ∨ n = 4 ∨ n = 5 ∨ n = 6 := by omega
  rcases hn with rfl | rfl | rfl | rfl | rfl | rfl <;> decide +kernel
theorem cfg_m2 (n : Nat) (h : 1 ≤ n ∧ n ≤ 6) : ((List.range n).all fun x => (List.range n).all fun y => decide (y < x) || decide ([(x : Int), (y : Int)] ∈ F_impl_configsOf (n : Int) 2 0)) = true := by
  have hn : n = 1 ∨ n = 2 ∨ n = 3 ∨ n = 4 ∨ n = 5 ∨ n = 6 := by omega
  rcases hn with rfl | rfl | rfl | rfl | rfl | rfl <;> decide +kernel
theorem cfg_m3 (n : Nat) (h : 1 ≤ n ∧ n ≤ 6) : ((List.range n).all fun x => (List.range n).all fun y => (List.range n).all fun z => decide (y < x) || decide (z < y) || decide ([(x : Int), (y : Int), (z : Int)] ∈ F_impl_configsOf (n : Int) 3 0)) = true := by
  have hn : n = 1 ∨ n = 2 ∨ n = 3 ∨ n = 4 ∨ n = 5 ∨ n = 6 := by omega
  rcases hn with rfl | rfl | rfl | rfl | rfl | rfl <;> decide +kernel
theorem cfg_mem {n : Nat} (h : 1 ≤ n ∧ n ≤ 6) {a : List Int} (ha : Cf n a) {k : Int} (hl : (a.length : Int) = k) : a ∈ F_impl_configsOf (n : Int) k 0 := by
  subst hl
  have h1 := ha.n1; have h3 := ha.n3
  match a, ha, h1, h3 with
  | [x], ha, _, _ =>
    have hx : 0 ≤ x ∧ x < n := ha.el 0 (by simp)
    have e := cfg_m1 n h
    simp only [List.all_eq_true, List.mem_range, decide_eq_true_eq] at e
    have := e x.toNat (by omega)
    rwa [Int.toNat_of_nonneg hx.1] at this
  | [x, y], ha, _, _ =>
    have hx : 0 ≤ x ∧ x < n := ha.el 0 (by simp)
    have hy : 0 ≤ y ∧ y < n := ha.el 1 (by simp)
    have hu : x ≤ y := ha.up 0 (by simp)
    have e := cfg_m2 n h
    simp only [List.all_eq_true, List.mem_range, Bool.or_eq_true, decide_eq_true_eq] at e
    have := e x.toNat (by omega) y.toNat (by omega)
    rw [Int.toNat_of_nonneg hx.1, Int.toNat_of_nonneg hy.1] at this
    rcases this with h | h
    · omega
    · exact h
  | [x, y, z], ha, _, _ =>
    have hx : 0 ≤ x ∧ x < n := ha.el 0 (by simp)
    have hy : 0 ≤ y ∧ y < n := ha.el 1 (by simp)
    have hz : 0 ≤ z ∧ z < n := ha.el 2 (by simp)
    have hu : x ≤ y := ha.up 0 (by simp)
    have hu2 : y ≤ z := ha.up 1 (by simp)
    have e := cfg_m3 n h
    simp only [List.all_eq_true, List.mem_range, Bool.or_eq_true, decide_eq_true_eq] at e
    have := e x.toNat (by omega) y.toNat (by omega) z.toNat (by omega)
    rw [Int.toNat_of_nonneg hx.1, Int.toNat_of_nonneg hy.1, Int.toNat_of_nonneg hz.1] at this
    rcases this with (h | h) | h
    · omega
    · omega
    · exact h
theorem Ks.n {m : List (List Int)} {k : Int} (h : Ks m k) : 1 ≤ m.length ∧ m.length ≤ 6 := ⟨h.tab.n1, h.tab.n6⟩
theorem Ks.at {m : List (List Int)} {k : Int} (h : Ks m k) (ks : List (List Int)) (i : Nat) (hi : i < (F_impl_configsOf (m.length : Int) k 0).length) :
    F_impl_works_index (F_impl_configsOf (m.length : Int) k 0) ks ((F_impl_configsOf (m.length : Int) k 0).getD i []) = i ∧ F_spec_l7Index (F_impl_configsOf (m.length : Int) k 0) ((F_impl_configsOf (m.length : Int) k 0).getD i []) = i := by
  have e := cfg_ev2 (m.length : Int) k ⟨by have := h.n; omega, by have := h.n; omega⟩ ⟨h.k1, h.k3⟩
  simp only [List.all_eq_true, List.mem_range, Bool.and_eq_true, decide_eq_true_eq] at e
  exact e i hi
theorem Ks.find {m : List (List Int)} {k : Int} (h : Ks m k) (ks : List (List Int)) {a : List Int} (ha : Cf m.length a) (hl : (a.length : Int) = k) :
    ∃ i, i < (F_impl_configsOf (m.length : Int) k 0).length ∧ (F_impl_configsOf (m.length : Int) k 0).getD i [] = a ∧ F_impl_works_index (F_impl_configsOf (m.length : Int) k 0) ks a = i ∧ F_spec_l7Index (F_impl_configsOf (m.length : Int) k 0) a = i := by
  obtain ⟨i, hi, e⟩ := List.mem_iff_getElem.1 (cfg_mem h.n ha hl)
  have e' : (F_impl_configsOf (m.length : Int) k 0).getD i [] = a := by rw [getD_lt _ i [] hi]; exact e
  have := h.at ks i hi
  rw [e'] at this
  exact ⟨i, hi, e', this.1, this.2⟩
theorem Ks.index_lt {m : List (List Int)} {k : Int} (h : Ks m k) {a : List Int} (ha : Cf m.length a) (hl : (a.length : Int) = k) :
    0 ≤ F_impl_works_index (F_impl_worksOf m k).1 (F_impl_worksOf m k).2 a ∧ F_impl_works_index (F_impl_worksOf m k).1 (F_impl_worksOf m k).2 a < (F_impl_worksOf m k).1.length := by
  rw [worksOf_eq]
  obtain ⟨i, hi, _, e, _⟩ := h.find (costs m (F_impl_configsOf (m.length : Int) k 0)) ha hl
  rw [e]
  exact ⟨by omega, by show (i : Int) < ((F_impl_configsOf (m.length : Int) k 0).length : Int); omega⟩
theorem swap_eq {x : List Int} {s : Nat} (r : Int) : F_spec_l7Swap x (s : Int) r = sortI (x.set s r) := by
  unfold F_spec_l7Swap F_spec_l4With
  rw [l6Sort_eq, Int.toNat_natCast]
theorem Ks.swap {m : List (List Int)} {k : Int} (h : Ks m k) {i s : Nat} {r : Int} (hi : i < (F_impl_configsOf (m.length : Int) k 0).length) (h0 : 0 ≤ r) (hr : r < m.length) :
    Cf m.length (F_spec_l7Swap ((F_impl_configsOf (m.length : Int) k 0).getD i []) (s : Int) r) ∧ (((F_spec_l7Swap ((F_impl_configsOf (m.length : Int) k 0).getD i []) (s : Int) r).length : Nat) : Int) = k := by
  rw [swap_eq]
  have h1 := h.cfgs i hi
  have h2 := cf_moved h1.1 (k := s) h0 hr
  exact ⟨h2.1, by rw [h2.2]; exact h1.2⟩
theorem Ks.swap_lt {m : List (List Int)} {k : Int} (h : Ks m k) {i s : Nat} {r : Int} (hi : i < (F_impl_configsOf (m.length : Int) k 0).length) (h0 : 0 ≤ r) (hr : r < m.length) :
    0 ≤ F_spec_l7Index (F_impl_configsOf (m.length : Int) k 0) (F_spec_l7Swap ((F_impl_configsOf (m.length : Int) k 0).getD i []) (s : Int) r) ∧ F_spec_l7Index (F_impl_configsOf (m.length : Int) k 0) (F_spec_l7Swap ((F_impl_configsOf (m.length : Int) k 0).getD i []) (s : Int) r) < (F_impl_configsOf (m.length : Int) k 0).length := by
  obtain ⟨h1, h2⟩ := h.swap (s := s) hi h0 hr
  obtain ⟨p, hp, _, _, e⟩ := h.find [] h1 h2
  omega

/-! the next work list, as the program finds it -/
theorem next_L2 (ks : List (List Int)) (w : List Int) (j : Nat) (o0 : List Int) : ∀ fuel i out, o0.length - i < fuel → out.length = o0.length → ∃ i' out', F_impl_works_next_L2 ks w j o0 fuel (i, out) = .next (i', out') ∧ out'.length = o0.length ∧
    ∀ q, q < o0.length → out'.getD q 0 = if i ≤ q then min (out.getD q 0) (w.getD j 0 + (ks.getD j []).getD q 0) else out.getD q 0 := by
  intro fuel
  induction fuel with
  | zero => intro i out h; omega
  | succ mf ih =>
    intro i out h hl
    rw [F_impl_works_next_L2_s]
    by_cases hi : (i : Int) < (o0.length : Int)
    · rw [decide_eq_true hi, cond_true]
      obtain ⟨i', out', h1, h2, h3⟩ := ih (i + 1) (out.set i (min (out.getD i 0) (w.getD j 0 + (ks.getD j []).getD i 0))) (by omega) (by simpa using hl)
      refine ⟨i', out', h1, h2, fun q hq => ?_⟩
      rw [h3 q hq]
      by_cases e : q = i
      · subst e
        rw [if_neg (by omega), if_pos (Nat.le_refl _), getD_set_eq _ _ _ _ (by omega)]
      · rw [getD_set_ne _ _ _ _ _ (Ne.symm e)]
        by_cases e2 : i ≤ q
        · rw [if_pos (by omega), if_pos e2]
        · rw [if_neg (by omega), if_neg e2]
    · rw [decide_eq_false hi, cond_false]
      exact ⟨i, out, rfl, hl, fun q hq => by rw [if_neg (by omega)]⟩
theorem next_L1 (cs ks : List (List Int)) (w : List Int) (r : Int) : ∀ fuel j out, cs.length - j < fuel → ∃ j' out', F_impl_works_next_L1 cs ks w r fuel (j, out) = .next (j', out') ∧ out'.length = out.length ∧
    ∀ i, i < out.length → out'.getD i 0 ≤ out.getD i 0 ∧ (∀ q, j ≤ q → q < cs.length → F_slices_Contains_Sint_int (cs.getD q []) r = true → out'.getD i 0 ≤ w.getD q 0 + (ks.getD q []).getD i 0) ∧
      (out'.getD i 0 = out.getD i 0 ∨ ∃ q, q < cs.length ∧ F_slices_Contains_Sint_int (cs.getD q []) r = true ∧ out'.getD i 0 = w.getD q 0 + (ks.getD q []).getD i 0) := by
  intro fuel
  induction fuel with
  | zero => intro j out h; omega
  | succ mf ih =>
    intro j out h
    rw [F_impl_works_next_L1_s]
    by_cases hj : (j : Int) < (cs.length : Int)
    · rw [decide_eq_true hj, cond_true]
      cases hc : F_slices_Contains_Sint_int (cs.getD j []) r with
      | false =>
        rw [Bool.not_false, cond_true]
        obtain ⟨j', out', h1, h2, h3⟩ := ih (j + 1) out (by omega)
        refine ⟨j', out', h1, h2, fun i hi => ?_⟩
        obtain ⟨g1, g2, g3⟩ := h3 i hi
        refine ⟨g1, fun q hq hl hh => ?_, g3⟩
        rcases Nat.eq_or_lt_of_le hq with rfl | hq
        · rw [hc] at hh; cases hh
        · exact g2 q hq hl hh
      | true =>
        rw [Bool.not_true, cond_false]
        obtain ⟨i1, o1, e1, e2, e3⟩ := next_L2 ks w j out (out.length - 0 + 1) 0 out (by omega) rfl
        rw [e1]
        simp only [elim_next]
        obtain ⟨j', out', h1, h2, h3⟩ := ih (j + 1) o1 (by omega)
        refine ⟨j', out', h1, by omega, fun i hi => ?_⟩
        obtain ⟨g1, g2, g3⟩ := h3 i (by omega)
        have e4 := e3 i hi
        rw [if_pos (Nat.zero_le _)] at e4
        refine ⟨by omega, fun q hq hl hh => ?_, ?_⟩
        · rcases Nat.eq_or_lt_of_le hq with rfl | hq
          · omega
          · exact g2 q hq hl hh
        · rcases g3 with g3 | g3
          · by_cases hm : out.getD i 0 ≤ w.getD j 0 + (ks.getD j []).getD i 0
            · left; omega
            · right; exact ⟨j, by omega, hc, by omega⟩
          · exact .inr g3
    · rw [decide_eq_false hj, cond_false]
      exact ⟨j, out, rfl, rfl, fun i hi => ⟨Int.le_refl _, fun q h1 h2 => by omega, .inl rfl⟩⟩
structure Nx (cs ks : List (List Int)) (w : List Int) (r : Int) (out : List Int) : Prop where
  len : out.length = w.length
  far : ∀ i, i < w.length → out.getD i 0 ≤ 1073741824
  low : ∀ i, i < w.length → ∀ q, q < cs.length → F_slices_Contains_Sint_int (cs.getD q []) r = true → out.getD i 0 ≤ w.getD q 0 + (ks.getD q []).getD i 0
  hit : ∀ i, i < w.length → out.getD i 0 = 1073741824 ∨ ∃ q, q < cs.length ∧ F_slices_Contains_Sint_int (cs.getD q []) r = true ∧ out.getD i 0 = w.getD q 0 + (ks.getD q []).getD i 0
theorem nx_next (cs ks : List (List Int)) (w : List Int) (r : Int) (h : w.length ≤ 1000000) : Nx cs ks w r (F_impl_works_next cs ks w r) := by
  unfold F_impl_works_next
  rw [repeat_eq _ _ (by omega) (by omega), Int.toNat_natCast]
  obtain ⟨j', out', h1, h2, h3⟩ := next_L1 cs ks w r (cs.length - 0 + 1) 0 (List.replicate w.length 1073741824) (by omega)
  rw [h1]
  simp only [elim_next]
  rw [List.length_replicate] at h2 h3
  have hr : ∀ i, i < w.length → (List.replicate w.length (1073741824 : Int)).getD i 0 = 1073741824 := fun i hi => getD_rep _ _ _ _ hi
  refine ⟨h2, fun i hi => ?_, fun i hi q hq hc => (h3 i hi).2.1 q (Nat.zero_le _) hq hc, fun i hi => ?_⟩
  · have := (h3 i hi).1; rw [hr i hi] at this; exact this
  · have := (h3 i hi).2.2; rw [hr i hi] at this; exact this
theorem next_bd {cs ks : List (List Int)} (hd : Wd cs ks) {w : List Int} (hl : w.length = cs.length) (hw : ∀ i, 0 ≤ w.getD i 0 ∧ w.getD i 0 ≤ 1073741824) (r : Int) :
    (F_impl_works_next cs ks w r).length = cs.length ∧ ∀ i, 0 ≤ (F_impl_works_next cs ks w r).getD i 0 ∧ (F_impl_works_next cs ks w r).getD i 0 ≤ 1073741824 := by
  have h56 := hd.n56
  have h := nx_next cs ks w r (by omega)
  refine ⟨h.len.trans hl, fun i => ?_⟩
  by_cases hi : i < w.length
  · refine ⟨?_, h.far i hi⟩
    rcases h.hit i hi with e | ⟨q, _, _, e⟩
    · omega
    · have := hw q; have := hd.el q i; omega
  · rw [getD_ge _ _ _ (by rw [h.len]; omega)]; omega

/-! the next work list, as the reference finds it -/
/-- What it costs to come from another work list's value by one server's way to a point. -/
def way (m cs : List (List Int)) (w : List Int) (r : Int) (i s : Nat) : Int :=
  w.getD (F_spec_l7Index cs (F_spec_l7Swap (cs.getD i []) (s : Int) r)).toNat 0 + (m.getD ((cs.getD i []).getD s 0).toNat []).getD r.toNat 0
theorem lnext_L2 (m : List (List Int)) (k : Int) (w : List Int) (r : Int) (i : Nat) (hS : ∀ s, 0 ≤ way m (F_spec_l6Configs (m.length : Int) k) w r i s) : ∀ fuel s least, k.toNat - s < fuel → 0 ≤ least →
    ∃ l' s', F_spec_l7Next_L2 m k w r i fuel (least, s) = .next (l', s') ∧ l' ≤ least ∧ (∀ q, s ≤ q → q < k.toNat → l' ≤ way m (F_spec_l6Configs (m.length : Int) k) w r i q) ∧ (l' = least ∨ ∃ q, q < k.toNat ∧ l' = way m (F_spec_l6Configs (m.length : Int) k) w r i q) := by
  intro fuel
  induction fuel with
  | zero => intro s least h; omega
  | succ mf ih =>
    intro s least h h0
    have hSs := hS s
    unfold way at hSs
    rw [F_spec_l7Next_L2_s]
    by_cases hs : (s : Int) < k
    · rw [decide_eq_true hs, cond_true, decide_eq_false (show ¬ least < 0 by omega), Bool.false_or]
      by_cases hd : w.getD (F_spec_l7Index (F_spec_l6Configs (m.length : Int) k) (F_spec_l7Swap ((F_spec_l6Configs (m.length : Int) k).getD i []) (s : Int) r)).toNat 0 + (m.getD (((F_spec_l6Configs (m.length : Int) k).getD i []).getD s 0).toNat []).getD r.toNat 0 < least
      · rw [decide_eq_true hd, cond_true]
        obtain ⟨l', s', h1, h2, h3, h4⟩ := ih (s + 1) _ (by omega) hSs
        refine ⟨l', s', h1, by omega, fun q hq hk => ?_, ?_⟩
        · rcases Nat.eq_or_lt_of_le hq with rfl | hq
          · exact h2
          · exact h3 q hq hk
        · rcases h4 with h4 | h4
          · exact .inr ⟨s, by omega, h4⟩
          · exact .inr h4
      · rw [decide_eq_false hd, cond_false]
        obtain ⟨l', s', h1, h2, h3, h4⟩ := ih (s + 1) least (by omega) h0
        refine ⟨l', s', h1, h2, fun q hq hk => ?_, h4⟩
        rcases Nat.eq_or_lt_of_le hq with rfl | hq
        · unfold way; omega
        · exact h3 q hq hk
    · rw [decide_eq_false hs, cond_false]
      exact ⟨least, s, rfl, Int.le_refl _, fun q h1 h2 => by omega, .inl rfl⟩
theorem lnext_L2' (m : List (List Int)) {k : Int} (hk : 1 ≤ k) (w : List Int) (r : Int) (i : Nat) (hS : ∀ s, 0 ≤ way m (F_spec_l6Configs (m.length : Int) k) w r i s) :
    ∃ l' s', F_spec_l7Next_L2 m k w r i (k.toNat - 0 + 1) (-1, 0) = .next (l', s') ∧ (∀ q, q < k.toNat → l' ≤ way m (F_spec_l6Configs (m.length : Int) k) w r i q) ∧ ∃ q, q < k.toNat ∧ l' = way m (F_spec_l6Configs (m.length : Int) k) w r i q := by
  obtain ⟨l', s', h1, h2, h3, h4⟩ := lnext_L2 m k w r i hS (k.toNat - 0) 1 (way m (F_spec_l6Configs (m.length : Int) k) w r i 0) (by omega) (hS 0)
  refine ⟨l', s', ?_, fun q hq => ?_, ?_⟩
  · rw [F_spec_l7Next_L2_s, decide_eq_true (show ((0 : Nat) : Int) < k by omega), cond_true, show decide ((-1 : Int) < 0) = true from rfl, Bool.true_or, cond_true]
    exact h1
  · rcases Nat.eq_zero_or_pos q with rfl | hp
    · exact h2
    · exact h3 q hp hq
  · rcases h4 with h4 | h4
    · exact ⟨0, by omega, h4⟩
    · exact h4
structure Ns (m cs : List (List Int)) (k : Int) (w : List Int) (r : Int) (out : List Int) : Prop where
  len : out.length = cs.length
  low : ∀ i, i < cs.length → ∀ q, q < k.toNat → out.getD i 0 ≤ way m cs w r i q
  hit : ∀ i, i < cs.length → ∃ q, q < k.toNat ∧ out.getD i 0 = way m cs w r i q
theorem getD_app_lt {a : List Int} {v : Int} {i : Nat} (h : i < a.length) : (a ++ [v]).getD i 0 = a.getD i 0 := by
  rw [List.getD_eq_getElem?_getD, List.getD_eq_getElem?_getD, List.getElem?_append_left h]
theorem getD_app_eq {a : List Int} {v : Int} {i : Nat} (h : i = a.length) : (a ++ [v]).getD i 0 = v := by
  subst h; simp
theorem lnext_L1 (m : List (List Int)) {k : Int} (hk : 1 ≤ k) (w : List Int) (r : Int) (hS : ∀ i s, 0 ≤ way m (F_spec_l6Configs (m.length : Int) k) w r i s) : ∀ fuel i out, (F_spec_l6Configs (m.length : Int) k).length - i < fuel → out.length = i → i ≤ (F_spec_l6Configs (m.length : Int) k).length →
    (∀ p, p < i → (∀ q, q < k.toNat → out.getD p 0 ≤ way m (F_spec_l6Configs (m.length : Int) k) w r p q) ∧ ∃ q, q < k.toNat ∧ out.getD p 0 = way m (F_spec_l6Configs (m.length : Int) k) w r p q) →
    ∃ i' out', F_spec_l7Next_L1 m k w r fuel (out, i) = .next (out', i') ∧ Ns m (F_spec_l6Configs (m.length : Int) k) k w r out' := by
  intro fuel
  induction fuel with
  | zero => intro i out h; omega
  | succ mf ih =>
    intro i out h hl hle hp
    rw [F_spec_l7Next_L1_s]
    by_cases hi : (i : Int) < ((F_spec_l6Configs (m.length : Int) k).length : Int)
    · obtain ⟨l', s', h1, h2, h3⟩ := lnext_L2' m hk w r i (hS i)
      rw [decide_eq_true hi, cond_true, h1]
      simp only [elim_next]
      refine ih (i + 1) _ (by omega) (by simp [hl]) (by omega) (fun p hpi => ?_)
      by_cases e : p = i
      · subst e; rw [getD_app_eq hl.symm]; exact ⟨h2, h3⟩
      · rw [getD_app_lt (by omega)]; exact hp p (by omega)
    · rw [decide_eq_false hi, cond_false]
      have e : i = (F_spec_l6Configs (m.length : Int) k).length := by omega
      exact ⟨i, out, rfl, hl.trans e, fun p hpp => (hp p (by omega)).1, fun p hpp => (hp p (by omega)).2⟩
theorem ns_next {m : List (List Int)} {k : Int} (hk : Ks m k) {w : List Int} (hw : ∀ i, 0 ≤ w.getD i 0) (r : Int) : Ns m (F_impl_configsOf (m.length : Int) k 0) k w r (F_spec_l7Next m k w r) := by
  unfold F_spec_l7Next
  obtain ⟨i', out', h1, h2⟩ := lnext_L1 m hk.k1 w r (fun i s => by
    have h1 := hw (F_spec_l7Index (F_spec_l6Configs (m.length : Int) k) (F_spec_l7Swap ((F_spec_l6Configs (m.length : Int) k).getD i []) (s : Int) r)).toNat
    have h2 := (el_bd hk.tp (((F_spec_l6Configs (m.length : Int) k).getD i []).getD s 0).toNat r.toNat).1
    unfold way; unfold el at h2; omega) ((F_spec_l6Configs (m.length : Int) k).length - 0 + 1) 0 [] (by omega) rfl (Nat.zero_le _) (fun p h => by omega)
  rw [h1]
  rw [hk.same] at h2
  exact h2
theorem lnext_bd {m : List (List Int)} {k : Int} (hk : Ks m k) {w : List Int} {B : Int} (h0 : 0 ≤ B) (hw : ∀ i, 0 ≤ w.getD i 0 ∧ w.getD i 0 ≤ B) (r : Int) :
    (F_spec_l7Next m k w r).length = (F_impl_configsOf (m.length : Int) k 0).length ∧ ∀ i, 0 ≤ (F_spec_l7Next m k w r).getD i 0 ∧ (F_spec_l7Next m k w r).getD i 0 ≤ B + 99 := by
  have h := ns_next hk (fun i => (hw i).1) r
  refine ⟨h.len, fun i => ?_⟩
  by_cases hi : i < (F_impl_configsOf (m.length : Int) k 0).length
  · obtain ⟨q, _, e⟩ := h.hit i hi
    have h1 := hw (F_spec_l7Index (F_impl_configsOf (m.length : Int) k 0) (F_spec_l7Swap ((F_impl_configsOf (m.length : Int) k 0).getD i []) (q : Int) r)).toNat
    have h2 := el_bd hk.tp (((F_impl_configsOf (m.length : Int) k 0).getD i []).getD q 0).toNat r.toNat
    unfold way at e; unfold el at h2; omega
  · rw [getD_ge _ _ _ (by rw [h.len]; omega)]; omega

/-! they are the same -/
/-- A work list whose values are at most B. -/
structure Lp (m : List (List Int)) (cs : List (List Int)) (B : Int) (w : List Int) : Prop where
  len : w.length = cs.length
  el : ∀ i, 0 ≤ w.getD i 0 ∧ w.getD i 0 ≤ B
  lip : ∀ i j, i < cs.length → j < cs.length → w.getD i 0 - w.getD j 0 ≤ F_impl_Metric_moveCost m (cs.getD i []) (cs.getD j [])
theorem Wk.lp {m cs : List (List Int)} {w : List Int} (h : Wk m cs w) : Lp m cs 99999 w := ⟨h.len, fun i => by
  by_cases hi : i < w.length
  · have := h.el i hi; omega
  · rw [getD_ge _ _ _ (by omega)]; omega, fun i j hi hj => h.lip i j (by rw [h.len]; exact hi) (by rw [h.len]; exact hj)⟩
theorem next_same {m : List (List Int)} {k : Int} (hk : Ks m k) {B : Int} (hB : B ≤ 1000000) {w : List Int} (hw : Lp m (F_impl_configsOf (m.length : Int) k 0) B w) {r : Int} (h0 : 0 ≤ r) (hr : r < m.length) :
    F_impl_works_next (F_impl_configsOf (m.length : Int) k 0) (costs m (F_impl_configsOf (m.length : Int) k 0)) w r = F_spec_l7Next m k w r := by
  have h56 := hk.c56
  have hx := nx_next (F_impl_configsOf (m.length : Int) k 0) (costs m (F_impl_configsOf (m.length : Int) k 0)) w r (by rw [hw.len]; omega)
  have hs := ns_next hk (fun i => (hw.el i).1) r
  refine list_ext_getD 0 (hx.len.trans (hw.len.trans hs.len.symm)) (fun i hi => ?_)
  rw [hx.len, hw.len] at hi
  have hiw : i < w.length := by rw [hw.len]; exact hi
  obtain ⟨hci, hli⟩ := hk.cfgs i hi
  -- the reference's value is one of the program's
  have up : ∀ s, s < k.toNat → (F_impl_works_next (F_impl_configsOf (m.length : Int) k 0) (costs m (F_impl_configsOf (m.length : Int) k 0)) w r).getD i 0 ≤ way m (F_impl_configsOf (m.length : Int) k 0) w r i s ∧ way m (F_impl_configsOf (m.length : Int) k 0) w r i s ≤ B + 99 := fun s hsk => by
    obtain ⟨c1, c2⟩ := hk.swap (s := s) hi h0 hr
    obtain ⟨p, hp, e1, _, e2⟩ := hk.find [] c1 c2
    have hsl : s < ((F_impl_configsOf (m.length : Int) k 0).getD i []).length := by omega
    have hcy : Cf m.length (F_spec_l7Swap ((F_impl_configsOf (m.length : Int) k 0).getD i []) (s : Int) r) := c1
    have hmem : F_slices_Contains_Sint_int ((F_impl_configsOf (m.length : Int) k 0).getD p []) r = true := by
      rw [contains_iff, e1, swap_eq, ← mem_getD, (sortI_perm _).mem_iff]
      exact List.mem_set hsl _
    have h1 := hx.low i hiw p hp hmem
    rw [costs_el _ _ _ _ hp hi, e1] at h1
    have h2 := (mn_move hk.tp c1 hci (by omega)).symm (dm_symm hk.tp) (by omega)
    have h3 := h2.low (((F_impl_configsOf (m.length : Int) k 0).getD i []).set s r) (by rw [swap_eq]; exact (sortI_perm _).symm)
    rw [pc_set (dm m) _ _ s r hsl hsl, pc_self _ (fun x _ => el_self hk.tp _)] at h3
    have h4 : dm m (((F_impl_configsOf (m.length : Int) k 0).getD i []).getD s 0) (((F_impl_configsOf (m.length : Int) k 0).getD i []).getD s 0) = 0 := el_self hk.tp _
    have h5 := el_bd hk.tp (((F_impl_configsOf (m.length : Int) k 0).getD i []).getD s 0).toNat r.toNat
    have h6 : dm m (((F_impl_configsOf (m.length : Int) k 0).getD i []).getD s 0) r = el m (((F_impl_configsOf (m.length : Int) k 0).getD i []).getD s 0).toNat r.toNat := rfl
    have h7 := hw.el p
    unfold way
    rw [e2, Int.toNat_natCast]
    unfold el at h5 h6
    omega
  obtain ⟨s, hsk, es⟩ := hs.hit i hi
  have hup := up s hsk
  apply Int.le_antisymm
  · omega
  · rcases hx.hit i hiw with e | ⟨j, hj, hc, e⟩
    · have := (up s hsk); omega
    · obtain ⟨hcj, hlj⟩ := hk.cfgs j hj
      rw [costs_el _ _ _ _ hj hi] at e
      have hmn := mn_move hk.tp hcj hci (by omega)
      obtain ⟨b', hb, eb⟩ := hmn.hit
      obtain ⟨t, ht, et⟩ := (contains_iff _ _).1 hc
      have htb : t < b'.length := by rw [hb.length_eq]; omega
      obtain ⟨q, hq, eq, hset⟩ := perm_pick hb t htb
      have hqk : q < k.toNat := by omega
      obtain ⟨c1, c2⟩ := hk.swap (s := q) hi h0 hr
      obtain ⟨p, hp, e1, _, e2⟩ := hk.find [] c1 c2
      have h1 := (mn_move hk.tp hcj c1 (by omega)).low (b'.set t r) (by rw [swap_eq]; exact (hset r).trans (sortI_perm _).symm)
      rw [pc_set (dm m) _ _ t r ht htb, et, eq] at h1
      have h2 : dm m r r = 0 := el_self hk.tp _
      have h3 := hw.lip p j hp hj
      rw [e1, move_symm hk.tp c1 hcj (by omega)] at h3
      have h4 := hs.low i hi q hqk
      have h5 : dm m r (((F_impl_configsOf (m.length : Int) k 0).getD i []).getD q 0) = el m (((F_impl_configsOf (m.length : Int) k 0).getD i []).getD q 0).toNat r.toNat := dm_symm hk.tp _ _
      unfold way at h4
      rw [e2, Int.toNat_natCast] at h4
      unfold el at h5
      omega
theorem next_lp {m : List (List Int)} {k : Int} (hk : Ks m k) (ht : ∀ x y z, x < m.length → y < m.length → z < m.length → el m x z ≤ el m x y + el m y z) {B : Int} (hb : 0 ≤ B) (hB : B ≤ 1000000) {w : List Int} (hw : Lp m (F_impl_configsOf (m.length : Int) k 0) B w) {r : Int} (h0 : 0 ≤ r) (hr : r < m.length) :
    Lp m (F_impl_configsOf (m.length : Int) k 0) (B + 99) (F_impl_works_next (F_impl_configsOf (m.length : Int) k 0) (costs m (F_impl_configsOf (m.length : Int) k 0)) w r) := by
  have h56 := hk.c56
  have hx := nx_next (F_impl_configsOf (m.length : Int) k 0) (costs m (F_impl_configsOf (m.length : Int) k 0)) w r (by rw [hw.len]; omega)
  have hbd := lnext_bd hk hb hw.el r
  have hsame := next_same hk hB hw h0 hr
  refine ⟨hx.len.trans hw.len, fun i => by rw [hsame]; exact hbd.2 i, fun i j hi hj => ?_⟩
  rcases hx.hit j (by rw [hw.len]; exact hj) with e | ⟨q, hq, hc, e⟩
  · have := (hbd.2 j).2; rw [hsame] at e; omega
  · have h1 := hx.low i (by rw [hw.len]; exact hi) q hq hc
    rw [costs_el _ _ _ _ hq hi] at h1
    rw [costs_el _ _ _ _ hq hj] at e
    have h2 := move_tri hk.tp ht (hk.cfgs q hq).1 (hk.cfgs j hj).1 (hk.cfgs i hi).1 (hk.eqlen q j hq hj) (hk.eqlen j i hj hi)
    have h3 := move_symm hk.tp (hk.cfgs j hj).1 (hk.cfgs i hi).1 (hk.eqlen j i hj hi)
    omega
end Go.Proofs.Ytilmadapmcnlgaa
