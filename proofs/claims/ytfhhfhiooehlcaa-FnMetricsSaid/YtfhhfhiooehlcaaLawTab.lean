/-
  Plain laws on tables of distances: what the program asks of a table is what the reference asks; the first detour is the same. No condition.
-/
import Derived.Test.YtfhhfhiooehlcaaDefC
import Derived.Test.YtfhhfhiooehlcaaLawRow
import Derived.Test.YtfhhfhiooehlcaaLawMark
namespace Go.Proofs.Ytfhhfhiooehlcaa

theorem upto_succ {p : Nat → Prop} {k : Nat} (h : ∀ j, j < k → p j) (hk : p k) : ∀ j, j < k + 1 → p j := fun j hj => by
  rcases Nat.lt_or_eq_of_le (Nat.le_of_lt_succ hj) with h1 | h1
  · exact h j h1
  · rw [h1]; exact hk
theorem bif_or {α : Type} (a b : Bool) (x y : α) : (bif a then x else bif b then x else y) = bif (a || b) then x else y := by cases a <;> rfl
/-- A loop whose round is another loop that may return. -/
theorem scanC {S R : Type} (L : Nat → Nat → Ctl Nat R) (n : Nat) (B : Nat → Ctl S R)
    (hs : ∀ m i, L (m + 1) i = bif decide ((i : Int) < (n : Int)) then ((B i).elim (fun _ => L m (i + 1)) (fun r => .ret r)) else .next i) :
    ∀ fuel i, n - i < fuel → (L fuel i = .next (max i n) ∧ ∀ j, i ≤ j → j < n → ∃ s, B j = .next s) ∨ (∃ j r, i ≤ j ∧ j < n ∧ L fuel i = .ret r ∧ B j = .ret r ∧ ∀ k, i ≤ k → k < j → ∃ s, B k = .next s) := by
  intro fuel
  induction fuel with
  | zero => intro i h; omega
  | succ m ih =>
    intro i h
    rw [hs]
    by_cases hlt : (i : Int) < (n : Int)
    · rw [decide_eq_true hlt, cond_true]
      cases hp : B i with
      | ret r => exact .inr ⟨i, r, Nat.le_refl _, by omega, rfl, hp, fun k h1 h2 => by omega⟩
      | next s =>
        rw [elim_next]
        rcases ih (i + 1) (by omega) with ⟨h1, h2⟩ | ⟨j, r, h1, h2, h3, h4, h5⟩
        · refine .inl ⟨by rw [h1]; congr 1; omega, fun j hj hn => ?_⟩
          rcases Nat.eq_or_lt_of_le hj with rfl | hj
          · exact ⟨s, hp⟩
          · exact h2 j hj hn
        · refine .inr ⟨j, r, by omega, h2, h3, h4, fun k hk hkj => ?_⟩
          rcases Nat.eq_or_lt_of_le hk with rfl | hk
          · exact ⟨s, hp⟩
          · exact h5 k hk hkj
    · rw [decide_eq_false hlt, cond_false]
      exact .inl ⟨by congr 1; omega, fun j h1 h2 => by omega⟩

abbrev el (m : List (List Int)) (x y : Nat) : Int := (m.getD x []).getD y 0
/-- Two distances of two points may stand in a table. -/
def okD (opn : Bool) (x y : Nat) (d e : Int) : Prop := d = e ∧ (x = y → d = 0) ∧ (x ≠ y → (1 ≤ d ∧ d ≤ 99) ∨ (opn = true ∧ d = -1))
structure TabP (opn : Bool) (m : List (List Int)) : Prop where
  n1 : 1 ≤ m.length
  n6 : m.length ≤ 6
  rows : ∀ i, i < m.length → (m.getD i []).length = m.length
  ok : ∀ x y, x < m.length → y < m.length → okD opn x y (el m x y) (el m y x)
/-- What the walks ask of a table. -/
structure Tab (m : List (List Int)) : Prop where
  n1 : 1 ≤ m.length
  n6 : m.length ≤ 6
  rows : ∀ i, i < m.length → (m.getD i []).length = m.length
  el : ∀ x y, -1 ≤ (m.getD x []).getD y 0 ∧ (m.getD x []).getD y 0 ≤ 99
theorem TabP.tab {opn : Bool} {m : List (List Int)} (h : TabP opn m) : Tab m := by
  refine ⟨h.n1, h.n6, h.rows, fun x y => ?_⟩
  by_cases hx : x < m.length
  · have hr := h.rows x hx
    by_cases hy : y < m.length
    · have := h.ok x y hx hy
      unfold okD el at this
      by_cases e : x = y
      · have := this.2.1 e; omega
      · rcases this.2.2 e with h1 | h1 <;> omega
    · rw [getD_ge _ y 0 (by omega)]; omega
  · rw [getD_ge m x [] (by omega)]; simp
theorem rows_of {m : List (List Int)} (h : F_slices_ContainsFunc_SSint_Sint m (fun row => F_impl_Metric_isTable_1 row (m.length : Int)) = false) : ∀ i, i < m.length → (m.getD i []).length = m.length := by
  intro i hi
  refine Classical.byContradiction fun hh => ?_
  have : F_slices_ContainsFunc_SSint_Sint m (fun row => F_impl_Metric_isTable_1 row (m.length : Int)) = true := (contains_ff _ _).2 ⟨i, hi, by
    unfold F_impl_Metric_isTable_1
    rw [Bool.not_eq_true', decide_eq_false_iff_not]; omega⟩
  rw [this] at h; cases h
theorem of_rows {m : List (List Int)} (h : ∀ i, i < m.length → (m.getD i []).length = m.length) : F_slices_ContainsFunc_SSint_Sint m (fun row => F_impl_Metric_isTable_1 row (m.length : Int)) = false := by
  rw [Bool.eq_false_iff]
  intro hh
  obtain ⟨i, hi, hf⟩ := (contains_ff _ _).1 hh
  have := h i hi
  unfold F_impl_Metric_isTable_1 at hf
  rw [Bool.not_eq_true', decide_eq_false_iff_not] at hf
  omega
def okI (opn : Bool) (x y : Nat) (d e : Int) : Bool := ((((decide ((x : Int) = (y : Int))) && (!decide (d = 0))) || (!decide (d = e))) || decide (99 < d)) || (((!decide ((x : Int) = (y : Int))) && (decide (d < 1))) && (!(opn && (decide (d = -1)))))
theorem okI_iff (opn : Bool) (x y : Nat) (d e : Int) : okI opn x y d e = false ↔ okD opn x y d e := by
  unfold okI okD
  cases opn <;> by_cases h1 : x = y <;> simp [h1] <;> omega
theorem isTable_L2 (m : List (List Int)) (opn : Bool) (x : Nat) (hr : (m.getD x []).length = m.length) :
    ((∃ s, F_impl_Metric_isTable_L2 m opn x ((m.getD x []).length - 0 + 1) 0 = .next s) ∧ ∀ y, y < m.length → okD opn x y (el m x y) (el m y x)) ∨
    (F_impl_Metric_isTable_L2 m opn x ((m.getD x []).length - 0 + 1) 0 = .ret false ∧ ∃ y, y < m.length ∧ ¬ okD opn x y (el m x y) (el m y x)) := by
  rcases scan (F_impl_Metric_isTable_L2 m opn x) (m.getD x []).length (fun y => okI opn x y (el m x y) (el m y x)) (fun _ => false) (fun mf i => by rw [F_impl_Metric_isTable_L2_s, bif_or, bif_or, bif_or]; rfl) ((m.getD x []).length - 0 + 1) 0 (by omega) with ⟨h1, h2⟩ | ⟨j, h1, h2, h3, h4, h5⟩
  · exact .inl ⟨⟨_, h1⟩, fun y hy => (okI_iff ..).1 (h2 y (by omega) (by omega))⟩
  · refine .inr ⟨h3, j, by omega, fun hh => ?_⟩
    rw [(okI_iff ..).2 hh] at h4; cases h4
theorem isTable_iff (m : List (List Int)) (opn : Bool) : F_impl_Metric_isTable m opn = true ↔ TabP opn m := by
  unfold F_impl_Metric_isTable
  by_cases hn : 1 ≤ m.length ∧ m.length ≤ 6
  · rw [show (decide (1 ≤ (m.length : Int))) = true from decide_eq_true (by omega), show (decide ((m.length : Int) ≤ 6)) = true from decide_eq_true (by omega)]
    by_cases hr : ∀ i, i < m.length → (m.getD i []).length = m.length
    · rw [of_rows hr]
      simp only [Bool.and_self, Bool.not_true, Bool.or_self, cond_false]
      rcases scanC (F_impl_Metric_isTable_L1 m opn) m.length _ (fun mf i => F_impl_Metric_isTable_L1_s m opn i mf) (m.length - 0 + 1) 0 (by omega) with ⟨h1, h2⟩ | ⟨j, r, h1, h2, h3, h4, h5⟩
      · rw [h1]
        simp only [elim_next, true_iff]
        refine ⟨hn.1, hn.2, hr, fun x y hx hy => ?_⟩
        obtain ⟨s, hs⟩ := h2 x (by omega) hx
        rcases isTable_L2 m opn x (hr x hx) with ⟨_, h⟩ | ⟨h, _⟩
        · exact h y hy
        · rw [h] at hs; cases hs
      · rw [h3]
        rcases isTable_L2 m opn j (hr j h2) with ⟨⟨s, h⟩, _⟩ | ⟨h, y, hy, hh⟩
        · rw [h] at h4; cases h4
        · rw [h] at h4
          cases h4
          simp only [elim_ret, Bool.false_eq_true, false_iff]
          exact fun ht => hh (ht.ok j y h2 hy)
    · have hc : F_slices_ContainsFunc_SSint_Sint m (fun row => F_impl_Metric_isTable_1 row (m.length : Int)) = true := by
        cases h : F_slices_ContainsFunc_SSint_Sint m (fun row => F_impl_Metric_isTable_1 row (m.length : Int)) with
        | true => rfl
        | false => exact absurd (rows_of h) hr
      rw [hc]
      simp only [Bool.or_true, cond_true, Bool.false_eq_true, false_iff]
      exact fun ht => hr ht.rows
  · have h : (!((decide (1 ≤ (m.length : Int))) && (decide ((m.length : Int) ≤ 6)))) = true := by
      rw [Bool.not_eq_true', Bool.and_eq_false_iff, decide_eq_false_iff_not, decide_eq_false_iff_not]; omega
    rw [h]
    simp only [Bool.true_or, cond_true, Bool.false_eq_true, false_iff]
    exact fun ht => hn ⟨ht.n1, ht.n6⟩
theorem isTable_t {m : List (List Int)} {opn : Bool} (h : F_impl_Metric_isTable m opn = true) : Tab m := ((isTable_iff m opn).1 h).tab
def okS (opn : Bool) (x y : Nat) (d e : Int) : Bool := (((!decide (d = e)) || ((decide ((x : Int) = (y : Int))) && (!decide (d = 0)))) || (((!decide ((x : Int) = (y : Int))) && (!((decide (1 ≤ d)) && (decide (d ≤ 99))))) && (!(opn && (decide (d = -1))))))
theorem okS_iff (opn : Bool) (x y : Nat) (d e : Int) : okS opn x y d e = false ↔ okD opn x y d e := by
  unfold okS okD
  cases opn <;> by_cases h1 : x = y <;> simp [h1] <;> omega
theorem l6Table_L3 (m : List (List Int)) (opn : Bool) (x : Nat) :
    ((∃ s, F_spec_l6Table_L3 m opn x (m.length - 0 + 1) 0 = .next s) ∧ ∀ y, y < m.length → okD opn x y (el m x y) (el m y x)) ∨
    (F_spec_l6Table_L3 m opn x (m.length - 0 + 1) 0 = .ret false ∧ ∃ y, y < m.length ∧ ¬ okD opn x y (el m x y) (el m y x)) := by
  rcases scan (F_spec_l6Table_L3 m opn x) m.length (fun y => okS opn x y (el m x y) (el m y x)) (fun _ => false) (fun mf i => F_spec_l6Table_L3_s m opn x i mf) (m.length - 0 + 1) 0 (by omega) with ⟨h1, h2⟩ | ⟨j, h1, h2, h3, h4, h5⟩
  · exact .inl ⟨⟨_, h1⟩, fun y hy => (okS_iff ..).1 (h2 y (by omega) (by omega))⟩
  · refine .inr ⟨h3, j, by omega, fun hh => ?_⟩
    rw [(okS_iff ..).2 hh] at h4; cases h4
theorem l6Table_iff (m : List (List Int)) (opn : Bool) : F_spec_l6Table m opn = true ↔ TabP opn m := by
  unfold F_spec_l6Table
  by_cases hn : 1 ≤ m.length ∧ m.length ≤ 6
  · rw [show (decide (1 ≤ (m.length : Int))) = true from decide_eq_true (by omega), show (decide ((m.length : Int) ≤ 6)) = true from decide_eq_true (by omega)]
    simp only [Bool.and_self, Bool.not_true, cond_false]
    rcases scan (F_spec_l6Table_L1 m) m.length _ (fun _ => false) (fun mf i => F_spec_l6Table_L1_s m i mf) (m.length - 0 + 1) 0 (by omega) with ⟨g1, g2⟩ | ⟨j, g1, g2, g3, g4, g5⟩
    · rw [g1, elim_next]
      have hr : ∀ i, i < m.length → (m.getD i []).length = m.length := fun i hi => by
        have := g2 i (by omega) hi
        rw [Bool.not_eq_false', decide_eq_true_eq] at this; omega
      rcases scanC (F_spec_l6Table_L2 m opn) m.length _ (fun mf i => F_spec_l6Table_L2_s m opn i mf) (m.length - 0 + 1) 0 (by omega) with ⟨h1, h2⟩ | ⟨j, r, h1, h2, h3, h4, h5⟩
      · rw [h1]
        simp only [elim_next, true_iff]
        refine ⟨hn.1, hn.2, hr, fun x y hx hy => ?_⟩
        obtain ⟨s, hs⟩ := h2 x (by omega) hx
        rcases l6Table_L3 m opn x with ⟨_, h⟩ | ⟨h, _⟩
        · exact h y hy
        · rw [h] at hs; cases hs
      · rw [h3]
        rcases l6Table_L3 m opn j with ⟨⟨s, h⟩, _⟩ | ⟨h, y, hy, hh⟩
        · rw [h] at h4; cases h4
        · rw [h] at h4
          cases h4
          simp only [elim_ret, Bool.false_eq_true, false_iff]
          exact fun ht => hh (ht.ok j y h2 hy)
    · rw [g3]
      simp only [elim_ret, Bool.false_eq_true, false_iff]
      intro ht
      have := ht.rows j g2
      rw [Bool.not_eq_true', decide_eq_false_iff_not] at g4; omega
  · have h : (!((decide (1 ≤ (m.length : Int))) && (decide ((m.length : Int) ≤ 6)))) = true := by
      rw [Bool.not_eq_true', Bool.and_eq_false_iff, decide_eq_false_iff_not, decide_eq_false_iff_not]; omega
    rw [h]
    simp only [cond_true, Bool.false_eq_true, false_iff]
    exact fun ht => hn ⟨ht.n1, ht.n6⟩
theorem l6Table_t {m : List (List Int)} {opn : Bool} (h : F_spec_l6Table m opn = true) : Tab m := ((l6Table_iff m opn).1 h).tab
theorem table_eq (m : List (List Int)) (opn : Bool) : F_impl_Metric_isTable m opn = F_spec_l6Table m opn := by
  rw [Bool.eq_iff_iff, isTable_iff, l6Table_iff]

/-! the first detour -/
def Ctl.mapR {S R R' : Type} (f : R → R') : Ctl S R → Ctl S R'
  | .next s => .next s
  | .ret r => .ret (f r)
theorem detour_L3 (m : List (List Int)) (x y : Nat) : ∀ fuel z, F_impl_Metric_detour_L3 m x y fuel z = (F_spec_l6Detour_L3 m x y fuel z).mapR (fun l => (l, true)) := by
  intro fuel
  induction fuel with
  | zero => intro z; rfl
  | succ mf ih =>
    intro z
    rw [F_impl_Metric_detour_L3_s, F_spec_l6Detour_L3_s, ih]
    cases decide ((z : Int) < (m.length : Int))
    · rfl
    · cases decide ((m.getD x []).getD y 0 + (m.getD y []).getD z 0 < (m.getD x []).getD z 0) <;> rfl
theorem detour_L2 (m : List (List Int)) (x : Nat) (hr : (m.getD x []).length = m.length) : ∀ fuel y, F_impl_Metric_detour_L2 m x fuel y = (F_spec_l6Detour_L2 m x fuel y).mapR (fun l => (l, true)) := by
  intro fuel
  induction fuel with
  | zero => intro z; rfl
  | succ mf ih =>
    intro y
    rw [F_impl_Metric_detour_L2_s, F_spec_l6Detour_L2_s, ih, detour_L3, hr]
    cases decide ((y : Int) < (m.length : Int))
    · rfl
    · cases F_spec_l6Detour_L3 m x y (m.length - 0 + 1) 0 <;> rfl
theorem detour_L1 (m : List (List Int)) (hr : ∀ i, i < m.length → (m.getD i []).length = m.length) : ∀ fuel x, F_impl_Metric_detour_L1 m fuel x = (F_spec_l6Detour_L1 m fuel x).mapR (fun l => (l, true)) := by
  intro fuel
  induction fuel with
  | zero => intro z; rfl
  | succ mf ih =>
    intro x
    rw [F_impl_Metric_detour_L1_s, F_spec_l6Detour_L1_s, ih]
    by_cases h : (x : Int) < (m.length : Int)
    · rw [decide_eq_true h, cond_true, cond_true, detour_L2 m x (hr x (by omega)), hr x (by omega)]
      cases F_spec_l6Detour_L2 m x (m.length - 0 + 1) 0 <;> rfl
    · rw [decide_eq_false h]; rfl
theorem l6Detour_L3_ret (m : List (List Int)) (x y : Nat) : ∀ fuel z r, F_spec_l6Detour_L3 m x y fuel z = .ret r → r.length = 3 := by
  intro fuel
  induction fuel with
  | zero => intro z r h; cases h
  | succ mf ih =>
    intro z r
    rw [F_spec_l6Detour_L3_s]
    cases decide ((z : Int) < (m.length : Int))
    · intro h; cases h
    · cases decide ((m.getD x []).getD y 0 + (m.getD y []).getD z 0 < (m.getD x []).getD z 0)
      · exact ih (z + 1) r
      · intro h; cases h; rfl
theorem l6Detour_L2_ret (m : List (List Int)) (x : Nat) : ∀ fuel y r, F_spec_l6Detour_L2 m x fuel y = .ret r → r.length = 3 := by
  intro fuel
  induction fuel with
  | zero => intro z r h; cases h
  | succ mf ih =>
    intro y r
    rw [F_spec_l6Detour_L2_s]
    cases decide ((y : Int) < (m.length : Int))
    · intro h; cases h
    · cases h : F_spec_l6Detour_L3 m x y (m.length - 0 + 1) 0 with
      | next s => exact ih (y + 1) r
      | ret r' => intro h'; cases h'; exact l6Detour_L3_ret m x y _ _ _ h
theorem l6Detour_L1_ret (m : List (List Int)) : ∀ fuel x r, F_spec_l6Detour_L1 m fuel x = .ret r → r.length = 3 := by
  intro fuel
  induction fuel with
  | zero => intro z r h; cases h
  | succ mf ih =>
    intro y r
    rw [F_spec_l6Detour_L1_s]
    cases decide ((y : Int) < (m.length : Int))
    · intro h; cases h
    · cases h : F_spec_l6Detour_L2 m y (m.length - 0 + 1) 0 with
      | next s => exact ih (y + 1) r
      | ret r' => intro h'; cases h'; exact l6Detour_L2_ret m y _ _ _ h
theorem detour_eq (m : List (List Int)) (hr : ∀ i, i < m.length → (m.getD i []).length = m.length) : F_impl_Metric_detour m = (F_spec_l6Detour m, decide (0 < ((F_spec_l6Detour m).length : Int))) := by
  unfold F_impl_Metric_detour F_spec_l6Detour
  rw [detour_L1 m hr]
  cases h : F_spec_l6Detour_L1 m (m.length - 0 + 1) 0 with
  | next s => rfl
  | ret r => have := l6Detour_L1_ret m _ _ _ h; simp [Ctl.mapR, Ctl.elim, this]
theorem firstDetour_eq (m : List (List Int)) : F_impl_FirstDetour m = F_spec_FirstDetour m := by
  unfold F_impl_FirstDetour F_spec_FirstDetour
  rw [table_eq]
  cases h : F_spec_l6Table m false with
  | false => rfl
  | true => rw [detour_eq m ((l6Table_iff m false).1 h).rows]
theorem firstDetour_len (m : List (List Int)) : (F_impl_FirstDetour m).1.length ≤ 3 := by
  rw [firstDetour_eq]
  unfold F_spec_FirstDetour F_spec_l6Detour
  cases F_spec_l6Table m false with
  | false => simp
  | true =>
    simp only [Bool.not_true, cond_false]
    cases h : F_spec_l6Detour_L1 m (m.length - 0 + 1) 0 with
    | next s => simp [Ctl.elim]
    | ret r => have := l6Detour_L1_ret m _ _ _ h; simp [Ctl.elim, this]
theorem l6Good_iff (m : List (List Int)) : F_spec_l6Good m = true ↔ TabP false m ∧ F_spec_l6Detour m = [] := by
  unfold F_spec_l6Good
  rw [← l6Table_iff]
  cases F_spec_l6Table m false with
  | false => simp
  | true => simp [List.length_eq_zero_iff]
theorem l6Good_t {m : List (List Int)} (h : F_spec_l6Good m = true) : Tab m := ((l6Good_iff m).1 h).1.tab
theorem isMetric_eq (m : List (List Int)) : F_impl_IsMetric m = F_spec_l6Good m := by
  unfold F_impl_IsMetric F_spec_l6Good
  rw [table_eq]
  cases h : F_spec_l6Table m false with
  | false => rfl
  | true =>
    rw [detour_eq m ((l6Table_iff m false).1 h).rows]
    simp only [Bool.not_true, cond_false, cond_true]
    cases F_spec_l6Detour m <;> simp
    omega
theorem isMetric_t {m : List (List Int)} (h : F_impl_IsMetric m = true) : Tab m := l6Good_t (by rw [← isMetric_eq]; exact h)

/-! the law's words -/
theorem row_le_total (a : List (List Int)) (i : Nat) : (a.getD i []).length ≤ total a := by
  have h := totalFrom_step a i
  have : ∀ i, totalFrom a i ≤ total a := by
    intro i
    induction i with
    | zero => exact Nat.le_refl _
    | succ i ih => have := totalFrom_step a i; omega
  have := this i
  omega
end Go.Proofs.Ytfhhfhiooehlcaa
