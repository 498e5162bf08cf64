/-
  What the walks ask of work lists; the configuration whose value less the distances is least. No condition.
-/
import Derived.Test.YtilmadapmcnlgaaLawStep
namespace Go.Proofs.Ytilmadapmcnlgaa
open Go Go.RowKit

theorem rep_bd {n : Nat} (h : n ≤ 1000000) : ∀ i, 0 ≤ (F_slices_Repeat_Sint_int [1073741824] (n : Int)).getD i 0 ∧ (F_slices_Repeat_Sint_int [1073741824] (n : Int)).getD i 0 ≤ 1073741824 := fun i => by
  rw [repeat_eq _ _ (by omega) (by omega), Int.toNat_natCast]
  by_cases hi : i < n
  · rw [getD_rep _ _ _ _ hi]; omega
  · rw [getD_ge _ _ _ (by rw [List.length_replicate]; omega)]; omega
theorem set_bd {o : List Int} {B v : Int} {k : Nat} (h : ∀ i, 0 ≤ o.getD i 0 ∧ o.getD i 0 ≤ B) (hv : 0 ≤ v ∧ v ≤ B) : ∀ i, 0 ≤ (o.set k v).getD i 0 ∧ (o.set k v).getD i 0 ≤ B := fun i => by
  by_cases e : k = i
  · subst e
    by_cases hk : k < o.length
    · rw [getD_set_eq _ _ _ _ hk]; exact hv
    · rw [getD_ge _ _ _ (by rw [List.length_set]; omega)]; omega
  · rw [getD_set_ne _ _ _ _ _ e]; exact h i
theorem Ks.scf {m : List (List Int)} {k : Int} (h : Ks m k) (i : Nat) (hi : i < (F_spec_l6Configs (m.length : Int) k).length) : Cf m.length ((F_spec_l6Configs (m.length : Int) k).getD i []) ∧ ((((F_spec_l6Configs (m.length : Int) k).getD i []).length : Nat) : Int) = k := by
  rw [h.same] at hi ⊢; exact h.cfgs i hi
theorem Ks.s56 {m : List (List Int)} {k : Int} (h : Ks m k) : 1 ≤ (F_spec_l6Configs (m.length : Int) k).length ∧ (F_spec_l6Configs (m.length : Int) k).length ≤ 56 := by rw [h.same]; exact h.c56
theorem Ks.sswap {m : List (List Int)} {k : Int} (h : Ks m k) (i s : Nat) {r : Int} (h0 : 0 ≤ r) (hr : r < m.length) (hi : i < (F_spec_l6Configs (m.length : Int) k).length) :
    0 ≤ F_spec_l7Index (F_spec_l6Configs (m.length : Int) k) (F_spec_l7Swap ((F_spec_l6Configs (m.length : Int) k).getD i []) (s : Int) r) ∧ F_spec_l7Index (F_spec_l6Configs (m.length : Int) k) (F_spec_l7Swap ((F_spec_l6Configs (m.length : Int) k).getD i []) (s : Int) r) < (F_spec_l6Configs (m.length : Int) k).length := by
  rw [h.same] at hi ⊢; exact h.swap_lt hi h0 hr
theorem Ks.sidx {m : List (List Int)} {k : Int} (h : Ks m k) {c : List Int} (hc : Cf m.length c) (hl : (c.length : Int) = k) : 0 ≤ F_spec_l7Index (F_spec_l6Configs (m.length : Int) k) c ∧ F_spec_l7Index (F_spec_l6Configs (m.length : Int) k) c < (F_spec_l6Configs (m.length : Int) k).length := by
  rw [h.same]
  obtain ⟨i, hi, _, _, e⟩ := h.find [] hc hl
  omega
theorem good_ks {m : List (List Int)} {a : List Int} (h : ((!(F_spec_l6Good m)) || (!(F_spec_l6Config (m.length : Int) a))) = false) : Ks m (a.length : Int) ∧ Cf m.length a := by
  simp only [Bool.or_eq_false_iff, Bool.not_eq_false'] at h
  have hc := (l6Config_iff _ _).1 h.2
  exact ⟨⟨((l6Good_iff m).1 h.1).1, l6Good_t h.1, by have := hc.n1; omega, by have := hc.n3; omega⟩, hc⟩
theorem step_bd {m : List (List Int)} {k : Int} {w : List Int} {r : Int} (h : (F_impl_StepWork m k w r).2 = true) : (F_impl_StepWork m k w r).1.length = w.length ∧ (∀ i, 0 ≤ (F_impl_StepWork m k w r).1.getD i 0 ∧ (F_impl_StepWork m k w r).1.getD i 0 ≤ 1073741824) ∧ ∀ i, 0 ≤ w.getD i 0 ∧ w.getD i 0 ≤ 99999 := by
  rw [stepWork_eq] at h ⊢
  unfold F_spec_StepWork at h ⊢
  cases hg : F_spec_l7Given m k w r with
  | false => rw [hg] at h; cases h
  | true =>
    have hv := l7Given_t hg
    rw [hg] at h
    simp only [Bool.not_true, cond_false] at h ⊢
    have h1 := lnext_bd hv.ks (B := 99999) (by omega) hv.el r
    cases hd : decide (99999 < F_spec_l7Greatest (F_spec_l7Next m k w r)) with
    | true => rw [hd] at h; cases h
    | false =>
      simp only [cond_false]
      refine ⟨by have := hv.wf.wk.len; omega, fun i => by have := h1.2 i; omega, hv.el⟩
theorem Wf.cf {m : List (List Int)} {k : Int} {w : List Int} (h : Wf m k w) (i : Nat) (hi : i < (F_impl_worksFor m k w).2.1.length) : Cf m.length ((F_impl_worksFor m k w).2.1.getD i []) ∧ ((((F_impl_worksFor m k w).2.1.getD i []).length : Nat) : Int) = k := by
  rw [h.c1] at hi ⊢; exact h.ks.cfgs i hi

/-! the sum of the distances to a point -/
theorem sum_eq (m : List (List Int)) (x : List Int) (r : Int) : F_spec_l7Sum m x r = foldFrom (fun s acc => acc + (m.getD (x.getD s 0).toNat []).getD r.toNat 0) 0 x.length 0 := by
  unfold F_spec_l7Sum
  have h := fold_last (F_spec_l7Sum_L1 m x r) x.length _ (fun mf s j => F_spec_l7Sum_L1_s m x r s j mf) (x.length - 0 + 1) 0 0 (by omega)
  rw [h]; rfl
theorem sum_bd {m : List (List Int)} (hT : Tab m) {x : List Int} (h3 : x.length ≤ 3) (r : Int) : -3 ≤ F_spec_l7Sum m x r ∧ F_spec_l7Sum m x r ≤ 297 := by
  rw [sum_eq]
  have h := foldFrom_inv (fun s acc => acc + (m.getD (x.getD s 0).toNat []).getD r.toNat 0) (fun j s => -(j : Int) ≤ s ∧ s ≤ 99 * (j : Int)) x.length 0 0 (by omega) (fun j s _ _ hs => by
    have h1 := hT.el (x.getD j 0).toNat r.toNat
    omega)
  omega
theorem fold_sub (g : Nat → Int) : ∀ n i (v c : Int), foldFrom (fun s acc => acc - g s) i n (v - c) = v - foldFrom (fun s acc => acc + g s) i n c
  | 0, _, _, _ => rfl
  | n + 1, i, v, c => by
    rw [foldFrom, foldFrom, show v - c - g i = v - (c + g i) by omega, fold_sub g n]
theorem far_L2 (m : List (List Int)) (k : Int) (w : List Int) (r : Int) (i : Nat) (v : Int) : ∃ j, F_impl_FarConfig_L2 m k w r i (((F_impl_worksFor m k w).2.1.getD i []).length - 0 + 1) (v, 0) = .next (v - F_spec_l7Sum m ((F_impl_worksFor m k w).2.1.getD i []) r, j) := by
  have h := fold_last (F_impl_FarConfig_L2 m k w r i) ((F_impl_worksFor m k w).2.1.getD i []).length _ (fun mf s j => F_impl_FarConfig_L2_s m k w r i s j mf) (((F_impl_worksFor m k w).2.1.getD i []).length - 0 + 1) v 0 (by omega)
  refine ⟨max 0 ((F_impl_worksFor m k w).2.1.getD i []).length, ?_⟩
  rw [h, Nat.sub_zero, sum_eq]
  have := fold_sub (fun s => (m.getD (((F_impl_worksFor m k w).2.1.getD i []).getD s 0).toNat []).getD r.toNat 0) ((F_impl_worksFor m k w).2.1.getD i []).length 0 v 0
  rw [Int.sub_zero] at this
  rw [this]
theorem far_L1 (m : List (List Int)) (k : Int) (w : List Int) (r : Int) : ∀ fuel (i b : Nat),
    (∃ i' b', F_spec_l7Far_L1 m (F_impl_worksFor m k w).2.1 w r fuel (b, i) = .next (b', i') ∧ (b' = b ∨ b' < (F_impl_worksFor m k w).2.1.length) ∧
      F_impl_FarConfig_L1 m k w r fuel ((F_impl_worksFor m k w).2.1.getD b [], w.getD b 0 - F_spec_l7Sum m ((F_impl_worksFor m k w).2.1.getD b []) r, i) = .next ((F_impl_worksFor m k w).2.1.getD b' [], w.getD b' 0 - F_spec_l7Sum m ((F_impl_worksFor m k w).2.1.getD b' []) r, i')) := by
  intro fuel
  induction fuel with
  | zero => intro i b; exact ⟨i, b, rfl, .inl rfl, rfl⟩
  | succ mf ih =>
    intro i b
    rw [F_spec_l7Far_L1_s, F_impl_FarConfig_L1_s]
    by_cases hi : (i : Int) < ((F_impl_worksFor m k w).2.1.length : Int)
    · obtain ⟨j, e⟩ := far_L2 m k w r i (w.getD i 0)
      rw [decide_eq_true hi, cond_true, cond_true, e]
      simp only [elim_next]
      cases decide (w.getD i 0 - F_spec_l7Sum m ((F_impl_worksFor m k w).2.1.getD i []) r < w.getD b 0 - F_spec_l7Sum m ((F_impl_worksFor m k w).2.1.getD b []) r) with
      | true =>
        simp only [cond_true]
        obtain ⟨i', b', h1, h2, h3⟩ := ih (i + 1) i
        exact ⟨i', b', h1, by rcases h2 with h2 | h2 <;> omega, h3⟩
      | false =>
        simp only [cond_false]
        obtain ⟨i', b', h1, h2, h3⟩ := ih (i + 1) b
        exact ⟨i', b', h1, h2, h3⟩
    · rw [decide_eq_false hi, cond_false, cond_false]
      exact ⟨i, b, rfl, .inl rfl, rfl⟩
theorem far_lt {m : List (List Int)} {cs : List (List Int)} (h : 1 ≤ cs.length) (w : List Int) (r : Int) : 0 ≤ F_spec_l7Far m cs w r ∧ F_spec_l7Far m cs w r < cs.length := by
  have key : ∀ fuel (i b : Nat), b < cs.length → ∃ i' b', F_spec_l7Far_L1 m cs w r fuel (b, i) = .next (b', i') ∧ b' < cs.length := by
    intro fuel
    induction fuel with
    | zero => intro i b hb; exact ⟨i, b, rfl, hb⟩
    | succ mf ih =>
      intro i b hb
      rw [F_spec_l7Far_L1_s]
      by_cases hi : (i : Int) < (cs.length : Int)
      · rw [decide_eq_true hi, cond_true]
        cases decide (w.getD i 0 - F_spec_l7Sum m (cs.getD i []) r < w.getD b 0 - F_spec_l7Sum m (cs.getD b []) r) with
        | true => exact ih _ _ (by omega)
        | false => exact ih _ _ hb
      · rw [decide_eq_false hi, cond_false]; exact ⟨i, b, rfl, hb⟩
  obtain ⟨i', b', h1, h2⟩ := key (cs.length - 1 + 1) 1 0 (by omega)
  unfold F_spec_l7Far
  rw [h1]
  exact ⟨by simp only [elim_next]; omega, by simp only [elim_next]; omega⟩
theorem farConfig_eq (m : List (List Int)) (k : Int) (w : List Int) (r : Int) : F_impl_FarConfig m k w r = F_spec_FarConfig m k w r := by
  unfold F_impl_FarConfig F_spec_FarConfig
  rw [← Bool.not_and, ← given_eq]
  cases hg : F_spec_l7Given m k w r with
  | false => rfl
  | true =>
    have hv := l7Given_t hg
    have h56 := hv.ks.c56
    simp only [Bool.not_true, cond_false]
    unfold F_spec_l7Far
    rw [hv.ks.same, ← hv.wf.c1]
    have hlen : (F_impl_worksFor m k w).2.1.length = (F_impl_configsOf (m.length : Int) k 0).length := by rw [hv.wf.c1]
    obtain ⟨i', b', h1, h2, h3⟩ := far_L1 m k w r ((F_impl_worksFor m k w).2.1.length - 1 + 1) 1 0
    obtain ⟨j, e⟩ := far_L2 m k w r 0 (w.getD 0 0)
    have hc0 := (hv.wf.cf 0 (by omega)).1.n3
    have hs := sum_bd hv.ks.tab hc0 r
    have hw0 := hv.el 0
    have hlt : w.getD 0 0 - F_spec_l7Sum m ((F_impl_worksFor m k w).2.1.getD 0 []) r < 1073741824 := by omega
    rw [F_impl_FarConfig_L1_s, decide_eq_true (show ((0 : Nat) : Int) < ((F_impl_worksFor m k w).2.1.length : Int) by omega), cond_true, e, elim_next]
    dsimp only
    rw [decide_eq_true hlt, cond_true, show (F_impl_worksFor m k w).2.1.length - 0 = (F_impl_worksFor m k w).2.1.length - 1 + 1 by omega, show 0 + 1 = 1 from rfl, h1, h3]
    simp only [elim_next, Int.toNat_natCast]
theorem farConfig_len (m : List (List Int)) (k : Int) (w : List Int) (r : Int) : (F_impl_FarConfig m k w r).1.length ≤ 3 := by
  rw [farConfig_eq]
  unfold F_spec_FarConfig
  cases hg : F_spec_l7Given m k w r with
  | false => simp
  | true =>
    have hv := l7Given_t hg
    have h56 := hv.ks.s56
    simp only [Bool.not_true, cond_false]
    have h1 := far_lt (m := m) h56.1 w r
    exact (hv.ks.scf (F_spec_l7Far m (F_spec_l6Configs (m.length : Int) k) w r).toNat (by omega)).1.n3
theorem law_FarConfig (m : List (List Int)) (k : Int) (w : List Int) (r : Int) : F_laws_FnExactFarConfig m k w r = true := by
  unfold F_laws_FnExactFarConfig
  simp only [toMetric_eq, toIntS_eq, farConfig_eq, eqMetric_refl, eqIntS_refl, markIntS_eq, markMetric_eq, heldIntS_iota]
  have h1 : ¬ ((1 : Int) + (total m : Int) + (w.length : Int) < 0) := by omega
  have h2 : ¬ ((1 : Int) + ((F_spec_FarConfig m k w r).1.length : Int) < 0) := by omega
  simp [h1, h2]
end Go.Proofs.Ytilmadapmcnlgaa
