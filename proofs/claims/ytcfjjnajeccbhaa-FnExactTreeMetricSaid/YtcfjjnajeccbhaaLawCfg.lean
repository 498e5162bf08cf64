/-
  Plain laws on configurations of a metric, and on tables that are like a line. No condition.
-/
import Derived.Test.YtcfjjnajeccbhaaDefF
import Derived.Test.YtcfjjnajeccbhaaLawMet
namespace Go.Proofs.Ytcfjjnajeccbhaa

/-- A configuration of a metric of n points. -/
structure Cf (n : Nat) (a : List Int) : Prop where
  n1 : 1 ≤ a.length
  n3 : a.length ≤ 3
  el : ∀ i, i < a.length → 0 ≤ a.getD i 0 ∧ a.getD i 0 < n
  up : ∀ i, i + 1 < a.length → a.getD i 0 ≤ a.getD (i + 1) 0
theorem areBelow_iff (n : Int) (l : List Int) : F_impl_areBelow n l = true ↔ ∀ i, i < l.length → 0 ≤ l.getD i 0 ∧ l.getD i 0 < n := by
  unfold F_impl_areBelow
  rw [Bool.not_eq_true']
  refine ⟨fun h i hi => ?_, fun h => ?_⟩
  · have h2 : ¬ (∃ i, i < l.length ∧ F_impl_areBelow_1 (l.getD i 0) n = true) := fun hh => by rw [(contains_f _ _).2 hh] at h; cases h
    have h3 : ¬ F_impl_areBelow_1 (l.getD i 0) n = true := fun hh => h2 ⟨i, hi, hh⟩
    unfold F_impl_areBelow_1 at h3
    simp only [Bool.not_eq_true', Bool.and_eq_false_iff, decide_eq_false_iff_not] at h3
    omega
  · rw [Bool.eq_false_iff]
    intro hh
    obtain ⟨i, hi, hf⟩ := (contains_f _ _).1 hh
    have := h i hi
    unfold F_impl_areBelow_1 at hf
    simp only [Bool.not_eq_true', Bool.and_eq_false_iff, decide_eq_false_iff_not] at hf
    omega
theorem areBelow_t {n : Int} {l : List Int} (h : F_impl_areBelow n l = true) : ∀ i, i < l.length → 0 ≤ l.getD i 0 ∧ l.getD i 0 < n := (areBelow_iff n l).1 h
theorem isConfig_iff (m : List (List Int)) (a : List Int) : F_impl_Metric_isConfig m a = true ↔ Cf m.length a := by
  unfold F_impl_Metric_isConfig
  rw [Bool.and_eq_true, Bool.and_eq_true, Bool.and_eq_true, areBelow_iff, isSorted_iff, decide_eq_true_eq, decide_eq_true_eq]
  constructor
  · rintro ⟨⟨⟨h0, h1⟩, h2⟩, h3⟩; exact ⟨by omega, by omega, h2, h3⟩
  · rintro ⟨h0, h1, h2, h3⟩; exact ⟨⟨⟨by omega, by omega⟩, h2⟩, h3⟩
theorem isConfig_t {m : List (List Int)} {a : List Int} (h : F_impl_Metric_isConfig m a = true) : Cf m.length a := (isConfig_iff m a).1 h
theorem l6List_iff (n : Int) (l : List Int) : F_spec_l6List n l = true ↔ ∀ i, i < l.length → 0 ≤ l.getD i 0 ∧ l.getD i 0 < n := by
  unfold F_spec_l6List
  rcases scan (F_spec_l6List_L1 n l) l.length (fun i => !(decide (0 ≤ l.getD i 0) && decide (l.getD i 0 ≤ n - 1))) (fun _ => false) (fun m i => F_spec_l6List_L1_s n l i m) (l.length - 0 + 1) 0 (by omega) with ⟨h1, h2⟩ | ⟨j, _, h2, h3, h4, _⟩
  · rw [h1]
    simp only [Ctl.elim, true_iff]
    intro i hi
    have := h2 i (by omega) hi
    simp only [Bool.not_eq_false', Bool.and_eq_true, decide_eq_true_eq] at this
    omega
  · rw [h3]
    simp only [Ctl.elim, Bool.false_eq_true, false_iff]
    intro h
    have := h j h2
    simp only [Bool.not_eq_true', Bool.and_eq_false_iff, decide_eq_false_iff_not] at h4
    omega
theorem l6List_t {n : Int} {l : List Int} (h : F_spec_l6List n l = true) : ∀ i, i < l.length → 0 ≤ l.getD i 0 ∧ l.getD i 0 < n := (l6List_iff n l).1 h
theorem l6Config_iff (n : Nat) (a : List Int) : F_spec_l6Config (n : Int) a = true ↔ Cf n a := by
  unfold F_spec_l6Config
  rw [Bool.and_eq_true, Bool.and_eq_true, Bool.and_eq_true, l6List_iff, ascending_iff, decide_eq_true_eq, decide_eq_true_eq]
  constructor
  · rintro ⟨⟨⟨h0, h1⟩, h2⟩, h3⟩; exact ⟨by omega, by omega, h2, h3⟩
  · rintro ⟨h0, h1, h2, h3⟩; exact ⟨⟨⟨by omega, by omega⟩, h2⟩, h3⟩
theorem l6Config_t {n : Nat} {a : List Int} (h : F_spec_l6Config (n : Int) a = true) : Cf n a := (l6Config_iff n a).1 h
theorem config_eq (m : List (List Int)) (a : List Int) : F_impl_Metric_isConfig m a = F_spec_l6Config (m.length : Int) a := by
  rw [Bool.eq_iff_iff, isConfig_iff, l6Config_iff]
theorem isConfig_eq (m : List (List Int)) (a : List Int) : F_impl_IsConfig m a = F_spec_IsConfig m a := by
  unfold F_impl_IsConfig F_spec_IsConfig
  rw [isMetric_eq, config_eq]
theorem law_IsConfig (m : List (List Int)) (a : List Int) : F_laws_FnExactIsConfig m a = true := by
  unfold F_laws_FnExactIsConfig
  simp only [toMetric_eq, toIntS_eq, isConfig_eq, eqMetric_refl, eqIntS_refl]
  simp

/-! tables like a line -/
theorem foldMax_ge (g : Nat → Int) : ∀ k i s, s ≤ foldFrom (fun i s => max s (g i)) i k s
  | 0, i, s => Int.le_refl _
  | k + 1, i, s => by rw [foldFrom]; have := foldMax_ge g k (i + 1) (max s (g i)); omega
theorem line_sL2' (m : List (List Int)) (x : Nat) : ∀ (fuel e : Nat) (most : Int) (y : Nat), m.length - y < fuel →
    ∃ e' y', F_spec_IsLineLike_L2 m x fuel (e, most, y) = .next (e', foldFrom (fun y s => max s (el m x y)) y (m.length - y) most, y') ∧
      (foldFrom (fun y s => max s (el m x y)) y (m.length - y) most = most → e' = e) ∧ (foldFrom (fun y s => max s (el m x y)) y (m.length - y) most ≠ most → e' = x) := by
  intro fuel
  induction fuel with
  | zero => intro e most y h; omega
  | succ mf ih =>
    intro e most y h
    rw [F_spec_IsLineLike_L2_s]
    by_cases hy : (y : Int) < (m.length : Int)
    · rw [decide_eq_true hy, cond_true, show m.length - y = (m.length - (y + 1)) + 1 by omega]
      simp only [foldFrom]
      have hge := foldMax_ge (fun y => el m x y) (m.length - (y + 1)) (y + 1)
      by_cases hd : most < (m.getD x []).getD y 0
      · have hm : max most (el m x y) = (m.getD x []).getD y 0 := by show max most ((m.getD x []).getD y 0) = (m.getD x []).getD y 0; omega
        have hg := hge ((m.getD x []).getD y 0)
        obtain ⟨e', y', h1, h2, h3⟩ := ih x ((m.getD x []).getD y 0) (y + 1) (by omega)
        rw [decide_eq_true hd, cond_true, hm]
        refine ⟨e', y', h1, fun hh => by omega, fun _ => ?_⟩
        by_cases hh : foldFrom (fun y s => max s (el m x y)) (y + 1) (m.length - (y + 1)) ((m.getD x []).getD y 0) = (m.getD x []).getD y 0
        · exact h2 hh
        · exact h3 hh
      · have hm : max most (el m x y) = most := by show max most ((m.getD x []).getD y 0) = most; omega
        rw [decide_eq_false hd, cond_false, hm]
        exact ih e most (y + 1) (by omega)
    · rw [decide_eq_false hy, cond_false, show m.length - y = 0 by omega, foldFrom]
      exact ⟨e, y, rfl, fun _ => rfl, fun h => absurd rfl h⟩
abbrev mx (m : List (List Int)) (x : Nat) : Int := F_slices_Max_Sint_int (m.getD x [])
theorem mx_fold {m : List (List Int)} (hT : Tab m) (x : Nat) (hx : x < m.length) (s : Int) : foldFrom (fun y s => max s (el m x y)) 0 m.length s = max s (mx m x) := by
  have hr := hT.rows x hx
  have := slMax_eq (m.getD x []) (by rw [hr]; exact hT.n1) s
  rw [this, hr]
theorem mx_pos {m : List (List Int)} (hT : TabP false m) (x : Nat) (hx : x < m.length) : 0 ≤ mx m x := by
  have hr := hT.rows x hx
  have h0 : el m x x = 0 := (hT.ok x x hx hx).2.1 rfl
  have h1 := mx_fold hT.tab x hx 0
  have h2 : ∀ k i s, i ≤ x → x < i + k → el m x x ≤ foldFrom (fun y s => max s (el m x y)) i k s := by
    intro k
    induction k with
    | zero => intro i s h1 h2; omega
    | succ k ih =>
      intro i s h1 h2
      rw [foldFrom]
      by_cases e : i = x
      · subst e
        have := foldMax_ge (fun y => el m i y) k (i + 1) (max s (el m i i)); omega
      · exact ih (i + 1) _ (by omega) (by omega)
  have h3 := h2 m.length 0 (-1) (by omega) (by omega)
  have h4 := mx_fold hT.tab x hx (-1)
  omega
theorem line_L1 {m : List (List Int)} (hT : TabP false m) : ∀ (fuel e x : Nat), m.length - x < fuel → e < m.length → x ≤ m.length →
    ∃ e' x', F_impl_IsLineLike_L1 m fuel (e, x) = .next (e', x') ∧ e' < m.length ∧ F_spec_IsLineLike_L1 m fuel (e, mx m e, x) = .next (e', mx m e', x') := by
  intro fuel
  induction fuel with
  | zero => intro e x h; omega
  | succ mf ih =>
    intro e x h he hx
    rw [F_impl_IsLineLike_L1_s, F_spec_IsLineLike_L1_s]
    by_cases hlt : (x : Int) < (m.length : Int)
    · obtain ⟨e', y', h1, h2, h3⟩ := line_sL2' m x (m.length - 0 + 1) e (mx m e) 0 (by omega)
      rw [decide_eq_true hlt, cond_true, cond_true, h1]
      simp only [elim_next]
      rw [Nat.sub_zero, mx_fold hT.tab x (by omega)] at *
      by_cases hd : mx m e < mx m x
      · rw [decide_eq_true hd, cond_true, h3 (by omega), show max (mx m e) (mx m x) = mx m x by omega]
        exact ih x (x + 1) (by omega) (by omega) (by omega)
      · rw [decide_eq_false hd, cond_false, h2 (by omega), show max (mx m e) (mx m x) = mx m e by omega]
        exact ih e (x + 1) (by omega) he (by omega)
    · rw [decide_eq_false hlt, cond_false, cond_false]
      exact ⟨e, x, rfl, he, rfl⟩
theorem line_L3 {m : List (List Int)} (e x : Nat) (hr : (m.getD x []).length = m.length) : ∀ (fuel y : Nat), F_impl_IsLineLike_L3 m e x fuel y = F_spec_IsLineLike_L4 m e x fuel y := by
  intro fuel
  induction fuel with
  | zero => intro y; rfl
  | succ mf ih =>
    intro y
    rw [F_impl_IsLineLike_L3_s, F_spec_IsLineLike_L4_s, ih, hr, l1Most_eq]
    congr 2
    rw [Bool.eq_iff_iff]
    simp only [Bool.not_eq_true', decide_eq_false_iff_not]
    constructor <;> intro h <;> intro h2 <;> exact h h2.symm
theorem line_L2 {m : List (List Int)} (hr : ∀ i, i < m.length → (m.getD i []).length = m.length) (e : Nat) : ∀ (fuel x : Nat), F_impl_IsLineLike_L2 m e fuel x = F_spec_IsLineLike_L3 m e fuel x := by
  intro fuel
  induction fuel with
  | zero => intro y; rfl
  | succ mf ih =>
    intro x
    rw [F_impl_IsLineLike_L2_s, F_spec_IsLineLike_L3_s]
    by_cases hlt : (x : Int) < (m.length : Int)
    · rw [decide_eq_true hlt, cond_true, cond_true, line_L3 e x (hr x (by omega)), hr x (by omega), ih]
    · rw [decide_eq_false hlt]; rfl
theorem isLineLike_eq (m : List (List Int)) : F_impl_IsLineLike m = F_spec_IsLineLike m := by
  unfold F_impl_IsLineLike F_spec_IsLineLike
  rw [isMetric_eq]
  cases hg : F_spec_l6Good m with
  | false => rfl
  | true =>
    have hT := ((l6Good_iff m).1 hg).1
    simp only [Bool.not_true, cond_false]
    have h0 : F_spec_IsLineLike_L1 m (m.length - 0 + 1) (0, 0, 0) = F_spec_IsLineLike_L1 m (m.length - 0 + 1) (0, mx m 0, 0) := by
      have hp := mx_pos hT 0 (by have := hT.n1; omega)
      have hlt : ((0 : Nat) : Int) < (m.length : Int) := by have := hT.n1; omega
      obtain ⟨e1, y1, h1, h2, h3⟩ := line_sL2' m 0 (m.length - 0 + 1) 0 0 0 (by omega)
      obtain ⟨e2, y2, h4, h5, h6⟩ := line_sL2' m 0 (m.length - 0 + 1) 0 (mx m 0) 0 (by omega)
      have a1 : e1 = 0 := by
        by_cases hh : foldFrom (fun y s => max s (el m 0 y)) 0 (m.length - 0) 0 = 0
        · exact h2 hh
        · exact h3 hh
      have a2 : e2 = 0 := by
        by_cases hh : foldFrom (fun y s => max s (el m 0 y)) 0 (m.length - 0) (mx m 0) = mx m 0
        · exact h5 hh
        · exact h6 hh
      rw [F_spec_IsLineLike_L1_s, F_spec_IsLineLike_L1_s, decide_eq_true hlt, cond_true, cond_true, h1, h4]
      simp only [elim_next]
      rw [Nat.sub_zero, mx_fold hT.tab 0 (by omega), mx_fold hT.tab 0 (by omega), a1, a2, show max 0 (mx m 0) = mx m 0 by omega, show max (mx m 0) (mx m 0) = mx m 0 by omega]
    obtain ⟨e', x', h1, h2, h3⟩ := line_L1 hT (m.length - 0 + 1) 0 0 (by omega) (by have := hT.n1; omega) (by omega)
    rw [h0, h1, h3]
    simp only [elim_next]
    rw [line_L2 hT.rows]
theorem law_IsLineLike (m : List (List Int)) : F_laws_FnExactIsLineLike m = true := by
  unfold F_laws_FnExactIsLineLike
  simp only [toMetric_eq, isLineLike_eq, eqMetric_refl]
  simp
end Go.Proofs.Ytcfjjnajeccbhaa
