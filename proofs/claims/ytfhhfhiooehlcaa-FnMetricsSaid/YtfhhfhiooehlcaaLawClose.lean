/-
  Plain laws on closing a table of distances. No condition.
-/
import Derived.Test.YtfhhfhiooehlcaaDefI
import Derived.Test.YtfhhfhiooehlcaaFloyd
import Derived.Test.YtfhhfhiooehlcaaLawServe
namespace Go.Proofs.Ytfhhfhiooehlcaa

def upd (D : List (List Int)) (x z : Nat) (v : Int) : List (List Int) := D.set x ((D.getD x []).set z v)
theorem upd_sq {n : Nat} {D : List (List Int)} (h : Sq n D) {x z : Nat} (hx : x < n) (v : Int) : Sq n (upd D x z v) := by
  refine ⟨by simp [upd, h.len], fun i hi => ?_⟩
  unfold upd
  by_cases e : x = i
  · subst e; rw [getD_set_eq _ _ _ _ (by rw [h.len]; exact hx), List.length_set]; exact h.rows x hi
  · rw [getD_set_ne _ _ _ _ _ e]; exact h.rows i hi
theorem el_upd {n : Nat} {D : List (List Int)} (h : Sq n D) {x z i j : Nat} (hx : x < n) (hz : z < n) (v : Int) : el (upd D x z v) i j = if i = x ∧ j = z then v else el D i j := by
  unfold upd el
  by_cases e : x = i
  · subst e
    rw [getD_set_eq _ _ _ _ (by rw [h.len]; exact hx)]
    by_cases e2 : z = j
    · subst e2; rw [getD_set_eq _ _ _ _ (by rw [h.rows x hx]; exact hz), if_pos ⟨rfl, rfl⟩]
    · rw [getD_set_ne _ _ _ _ _ e2, if_neg (fun hh => e2 hh.2.symm)]
  · rw [getD_set_ne _ _ _ _ _ e, if_neg (fun hh => e hh.1.symm)]
theorem set_self {α : Type} (l : List α) (i : Nat) (d : α) (h : i < l.length) : l.set i (l.getD i d) = l := by
  refine List.ext_getElem? fun k => ?_
  rw [List.getElem?_set]
  by_cases e : i = k
  · subst e; simp [h]
  · simp [e]
theorem upd_self {n : Nat} {D : List (List Int)} (h : Sq n D) {x z : Nat} (hx : x < n) (hz : z < n) : upd D x z (el D x z) = D := by
  unfold upd el
  rw [set_self _ _ _ (by rw [h.rows x hx]; exact hz), set_self _ _ _ (by rw [h.len]; exact hx)]
/-- A round of the closing, entry by entry in place, is a round on all entries at once. -/
theorem inplace {n : Nat} (G : Int → Int → Int → Int) {y : Nat} (hy : y < n) {D : List (List Int)} (hD : Sq n D) (h1 : ∀ x, x < n → G (el D x y) (el D x y) (el D y y) = el D x y) (h2 : ∀ z, z < n → G (el D y z) (el D y y) (el D y z) = el D y z) :
    Sq n (foldFrom (fun x s => foldFrom (fun z s => upd s x z (G (el s x z) (el s x y) (el s y z))) 0 n s) 0 n D) ∧
    ∀ i j, i < n → j < n → el (foldFrom (fun x s => foldFrom (fun z s => upd s x z (G (el s x z) (el s x y) (el s y z))) 0 n s) 0 n D) i j = G (el D i j) (el D i y) (el D y j) := by
  have H := foldFrom_inv (fun x s => foldFrom (fun z s => upd s x z (G (el s x z) (el s x y) (el s y z))) 0 n s)
    (fun x s => Sq n s ∧ ∀ i j, i < n → j < n → el s i j = if i < x then G (el D i j) (el D i y) (el D y j) else el D i j) n 0 D ⟨hD, fun i j _ _ => by rw [if_neg (by omega)]⟩ (fun x s _ hx hs => by
      have hx' : x < n := by omega
      have hyr : ∀ j, j < n → el s y j = el D y j := fun j hj => by
        rw [hs.2 y j hy hj]; split
        · exact h2 j hj
        · rfl
      have hsxy : el s x y = el D x y := by rw [hs.2 x y hx' hy, if_neg (by omega)]
      have K := foldFrom_inv (fun z s => upd s x z (G (el s x z) (el s x y) (el s y z)))
        (fun z t => Sq n t ∧ ∀ i j, i < n → j < n → el t i j = if i = x ∧ j < z then G (el D i j) (el D i y) (el D y j) else el s i j) n 0 s ⟨hs.1, fun i j _ _ => by rw [if_neg (by omega)]⟩ (fun z t _ hz ht => by
          have hz' : z < n := by omega
          have e1 : el t x z = el D x z := by rw [ht.2 x z hx' hz', if_neg (by omega), hs.2 x z hx' hz', if_neg (by omega)]
          have e2 : el t x y = el D x y := by
            rw [ht.2 x y hx' hy]; split
            · exact h1 x hx'
            · exact hsxy
          have e3 : el t y z = el D y z := by
            rw [ht.2 y z hy hz']; rw [if_neg (by omega)]; exact hyr z hz'
          refine ⟨upd_sq ht.1 hx' _, fun i j hi hj => ?_⟩
          rw [el_upd ht.1 hx' hz', e1, e2, e3]
          by_cases e : i = x ∧ j = z
          · obtain ⟨rfl, rfl⟩ := e
            rw [if_pos ⟨rfl, rfl⟩, if_pos ⟨rfl, by omega⟩]
          · rw [if_neg e, ht.2 i j hi hj]
            by_cases e4 : i = x ∧ j < z
            · rw [if_pos e4, if_pos ⟨e4.1, by omega⟩]
            · rw [if_neg e4, if_neg (by omega)])
      refine ⟨K.1, fun i j hi hj => ?_⟩
      rw [Nat.zero_add] at K
      rw [K.2 i j hi hj]
      by_cases e : i = x
      · subst e; rw [if_pos ⟨rfl, hj⟩, if_pos (by omega)]
      · rw [if_neg (by omega), hs.2 i j hi hj]
        by_cases e5 : i < x
        · rw [if_pos e5, if_pos (by omega)]
        · rw [if_neg e5, if_neg (by omega)])
  rw [Nat.zero_add] at H
  exact ⟨H.1, fun i j hi hj => by rw [H.2 i j hi hj, if_pos hi]⟩

/-! what the program closes -/
def D0 (m : List (List Int)) (x z : Nat) : Int := if el m x z < 0 then 1073741824 else el m x z
theorem D0_pos (m : List (List Int)) (x z : Nat) : 0 ≤ D0 m x z := by unfold D0; split <;> omega
theorem el_out {m : List (List Int)} {x z : Nat} (h : m.length ≤ x) : el m x z = 0 := by unfold el; rw [getD_ge m x [] h]; simp
theorem D0_diag {m : List (List Int)} (h : TabP true m) (x : Nat) : D0 m x x = 0 := by
  have : el m x x = 0 := by
    by_cases hx : x < m.length
    · exact (h.ok x x hx hx).2.1 rfl
    · exact el_out (by omega)
  unfold D0; rw [this]; rfl
theorem D0_bound {m : List (List Int)} (h : Tab m) (x z : Nat) : D0 m x z = 1073741824 ∨ D0 m x z ≤ 99 := by
  have := (h.el x z).2
  unfold D0; split
  · exact .inl rfl
  · exact .inr this
theorem closed_L2 (m : List (List Int)) (x : Nat) (hr : (m.getD x []).length = m.length) : F_impl_Metric_closed_L2 m x ((m.getD x []).length - 0 + 1) ([], 0) = .next ((List.range m.length).map (fun z => D0 m x z), m.length) := by
  rw [fold_last (F_impl_Metric_closed_L2 m x) (m.getD x []).length (fun z s => s ++ [D0 m x z]) (fun mf s i => by
    rw [F_impl_Metric_closed_L2_s]
    by_cases h : (m.getD x []).getD i 0 < 0
    · rw [decide_eq_true h, cond_true, show D0 m x i = 1073741824 from if_pos h]
    · rw [decide_eq_false h, cond_false, show D0 m x i = (m.getD x []).getD i 0 from if_neg h]) _ _ _ (by omega)]
  rw [hr, fold_app]
  simp [range'_range]
theorem closed_init (m : List (List Int)) (hr : ∀ i, i < m.length → (m.getD i []).length = m.length) : F_impl_Metric_closed_L1 m (m.length - 0 + 1) ([], 0) = .next (grid m.length (D0 m), m.length) := by
  have hs : ∀ mf s i, F_impl_Metric_closed_L1 m (mf + 1) (s, i) = bif decide ((i : Int) < (m.length : Int)) then F_impl_Metric_closed_L1 m mf (s ++ [(List.range m.length).map (fun z => D0 m i z)], i + 1) else .next (s, i) := fun mf s i => by
    rw [F_impl_Metric_closed_L1_s]
    by_cases h : (i : Int) < (m.length : Int)
    · rw [decide_eq_true h, cond_true, cond_true, closed_L2 m i (hr i (by omega))]; rfl
    · rw [decide_eq_false h, cond_false, cond_false]
  rw [fold_last (F_impl_Metric_closed_L1 m) m.length (fun i s => s ++ [(List.range m.length).map (fun z => D0 m i z)]) hs _ _ _ (by omega)]
  rw [fold_app]
  simp [range'_range, grid]
theorem closed_L4 {n : Nat} (y : Nat) {D : List (List Int)} (hD : Sq n D) : ∃ k, F_impl_Metric_closed_L4 y D (D.length - 0 + 1) (0, D) = .next (k, foldFrom (fun x s => foldFrom (fun z s => upd s x z (min (el s x z) (el s x y + el s y z))) 0 n s) 0 n D) := by
  refine ⟨max 0 n, ?_⟩
  have hl := hD.len
  have key : ∀ fuel s i, n - i < fuel → Sq n s → F_impl_Metric_closed_L4 y D fuel (i, s) = .next (max i n, foldFrom (fun x s => foldFrom (fun z s => upd s x z (min (el s x z) (el s x y + el s y z))) 0 n s) i (n - i) s) := by
    intro fuel
    induction fuel with
    | zero => intro s i h; omega
    | succ mf ih =>
      intro s i h hs
      rw [F_impl_Metric_closed_L4_s, hl]
      by_cases hi : (i : Int) < (n : Int)
      · have hsq : Sq n (foldFrom (fun z s => upd s i z (min (el s i z) (el s i y + el s y z))) 0 n s) := by
          have := foldFrom_inv (fun z s => upd s i z (min (el s i z) (el s i y + el s y z))) (fun _ s => Sq n s) n 0 s hs (fun j t _ _ ht => upd_sq ht (by omega) _)
          exact this
        rw [decide_eq_true hi, cond_true, hs.len, fold_first (F_impl_Metric_closed_L5 y i s) n (fun z s => upd s i z (min (el s i z) (el s i y + el s y z))) (fun mf t z => by rw [F_impl_Metric_closed_L5_s, hs.len]; rfl) _ _ _ (by omega)]
        simp only [elim_next]
        rw [Nat.sub_zero, ih _ _ (by omega) hsq, show n - i = (n - (i + 1)) + 1 by omega, foldFrom]
        congr 2; omega
      · rw [decide_eq_false hi, cond_false, show n - i = 0 by omega, foldFrom]
        congr 2; omega
  have := key (n - 0 + 1) D 0 (by omega) hD
  rw [hl]
  simpa using this
theorem closed_el {m : List (List Int)} (hT : TabP true m) : Sq m.length (F_impl_Metric_closed m) ∧ ∀ i j, i < m.length → j < m.length → el (F_impl_Metric_closed m) i j = stages (D0 m) m.length i j := by
  unfold F_impl_Metric_closed
  rw [closed_init m hT.rows]
  simp only [elim_next]
  have h0 := D0_pos m
  have hd := D0_diag hT
  have key : ∀ fuel s y, m.length - y < fuel → y ≤ m.length → Sq m.length s → (∀ i j, i < m.length → j < m.length → el s i j = stages (D0 m) y i j) →
      ∃ k s', F_impl_Metric_closed_L3 (grid m.length (D0 m)) fuel (y, s) = .next (k, s') ∧ Sq m.length s' ∧ ∀ i j, i < m.length → j < m.length → el s' i j = stages (D0 m) m.length i j := by
    intro fuel
    induction fuel with
    | zero => intro s y h; omega
    | succ mf ih =>
      intro s y h hy hs he
      rw [F_impl_Metric_closed_L3_s, grid_len]
      by_cases hi : (y : Int) < (m.length : Int)
      · obtain ⟨k, hk⟩ := closed_L4 y hs
        have hdy : el s y y = 0 := by rw [he y y (by omega) (by omega)]; exact stages_diag h0 hd y y
        have hp := stages_pos h0 y
        obtain ⟨q1, q2⟩ := inplace (fun a b c => min a (b + c)) (y := y) (by omega) hs (fun x hx => by show min _ _ = _; rw [hdy]; omega) (fun z hz => by show min _ _ = _; rw [hdy]; omega)
        rw [decide_eq_true hi, cond_true, hk]
        simp only [elim_next]
        refine ih _ (y + 1) (by omega) (by omega) q1 (fun i j hi' hj' => ?_)
        rw [q2 i j hi' hj', he i j hi' hj', he i y hi' (by omega), he y j (by omega) hj']
        rfl
      · rw [decide_eq_false hi, cond_false]
        have : y = m.length := by omega
        subst this
        exact ⟨_, s, rfl, hs, he⟩
  have hg : Sq m.length (grid m.length (D0 m)) := ⟨grid_len _ _, fun i hi => grid_row _ _ i hi⟩
  obtain ⟨k, s', h1, h2, h3⟩ := key ((grid m.length (D0 m)).length - 0 + 1) (grid m.length (D0 m)) 0 (by rw [grid_len]; omega) (by omega) hg (fun i j hi hj => grid_el _ _ i j hi hj)
  rw [h1]
  exact ⟨h2, h3⟩

/-! what the reference closes -/
theorem own_eq (m : List (List Int)) : F_spec_l6Own m = m := by
  unfold F_spec_l6Own
  rw [fold_first (F_spec_l6Own_L1 m) m.length (fun i s => s ++ [m.getD i []]) (fun mf s i => by rw [F_spec_l6Own_L1_s]; rfl) _ _ _ (by omega)]
  simp only [elim_next]
  rw [fold_app]
  simp only [Nat.sub_zero, List.nil_append]
  refine list_ext_getD [] (by simp) fun i hi => ?_
  have hi' : i < m.length := by simpa using hi
  simp [hi']
def sG (a b c : Int) : Int := if b < 0 ∨ c < 0 then a else if a < 0 ∨ b + c < a then b + c else a
/-- How the reference writes a sum. -/
def unfar (v : Int) : Int := if v = 1073741824 then -1 else v
theorem sG_unfar {a b c : Int} (ha : a = 1073741824 ∨ (0 ≤ a ∧ a ≤ 99999)) (hb : b = 1073741824 ∨ (0 ≤ b ∧ b ≤ 99999)) (hc : c = 1073741824 ∨ (0 ≤ c ∧ c ≤ 99999)) : sG (unfar a) (unfar b) (unfar c) = unfar (min a (b + c)) := by
  unfold sG unfar
  rcases ha with ha | ha <;> rcases hb with hb | hb <;> rcases hc with hc | hc <;> repeat' split
  all_goals omega
theorem close_L3 {n : Nat} (m : List (List Int)) (hm : m.length = n) (y x : Nat) (hx : x < n) (_hy : y < n) : ∀ fuel s z, n - z < fuel → Sq n s →
    F_spec_l6Close_L3 m y x fuel (z, s) = .next (max z n, foldFrom (fun z s => upd s x z (sG (el s x z) (el s x y) (el s y z))) z (n - z) s) := by
  intro fuel
  induction fuel with
  | zero => intro s z h; omega
  | succ mf ih =>
    intro s z h hs
    rw [F_spec_l6Close_L3_s, hm]
    by_cases hz : (z : Int) < (n : Int)
    · have hz' : z < n := by omega
      rw [decide_eq_true hz, cond_true, show n - z = (n - (z + 1)) + 1 by omega, foldFrom, show max z n = max (z + 1) n by omega, ← ih _ (z + 1) (by omega) (upd_sq hs hx _)]
      by_cases h1 : el s x y < 0 ∨ el s y z < 0
      · have : sG (el s x z) (el s x y) (el s y z) = el s x z := if_pos h1
        rw [this, upd_self hs hx hz', show ((decide (el s x y < 0)) || (decide (el s y z < 0))) = true by simpa using h1, cond_true]
      · rw [show ((decide (el s x y < 0)) || (decide (el s y z < 0))) = false by rw [Bool.eq_false_iff]; intro hh; exact h1 (by simpa using hh), cond_false]
        by_cases h2 : el s x z < 0 ∨ el s x y + el s y z < el s x z
        · have : sG (el s x z) (el s x y) (el s y z) = el s x y + el s y z := by unfold sG; rw [if_neg h1, if_pos h2]
          rw [this, show ((decide (el s x z < 0)) || (decide (el s x y + el s y z < el s x z))) = true by simpa using h2, cond_true]
          rfl
        · have : sG (el s x z) (el s x y) (el s y z) = el s x z := by unfold sG; rw [if_neg h1, if_neg h2]
          rw [this, upd_self hs hx hz', show ((decide (el s x z < 0)) || (decide (el s x y + el s y z < el s x z))) = false by rw [Bool.eq_false_iff]; intro hh; exact h2 (by simpa using hh), cond_false]
    · rw [decide_eq_false hz, cond_false, show n - z = 0 by omega, foldFrom, show max z n = z by omega]
theorem close_L2 {n : Nat} (m : List (List Int)) (hm : m.length = n) (y : Nat) (hy : y < n) : ∀ fuel s x, n - x < fuel → Sq n s →
    F_spec_l6Close_L2 m y fuel (x, s) = .next (max x n, foldFrom (fun x s => foldFrom (fun z s => upd s x z (sG (el s x z) (el s x y) (el s y z))) 0 n s) x (n - x) s) := by
  intro fuel
  induction fuel with
  | zero => intro s z h; omega
  | succ mf ih =>
    intro s x h hs
    rw [F_spec_l6Close_L2_s, hm]
    by_cases hx : (x : Int) < (n : Int)
    · have hsq : Sq n (foldFrom (fun z s => upd s x z (sG (el s x z) (el s x y) (el s y z))) 0 n s) := by
        have := foldFrom_inv (fun z s => upd s x z (sG (el s x z) (el s x y) (el s y z))) (fun _ s => Sq n s) n 0 s hs (fun j t _ _ ht => upd_sq ht (by omega) _)
        exact this
      rw [decide_eq_true hx, cond_true, close_L3 m hm y x (by omega) hy _ _ _ (by omega) hs]
      simp only [elim_next]
      rw [Nat.sub_zero, ih _ _ (by omega) hsq, show n - x = (n - (x + 1)) + 1 by omega, foldFrom]
      congr 2; omega
    · rw [decide_eq_false hx, cond_false, show n - x = 0 by omega, foldFrom, show max x n = x by omega]
theorem stages_fin {m : List (List Int)} (hT : Tab m) (k : Nat) (hk : k ≤ 6) (x z : Nat) : stages (D0 m) k x z = 1073741824 ∨ (0 ≤ stages (D0 m) k x z ∧ stages (D0 m) k x z ≤ 6336) := by
  have hp : (2 : Int) ^ k ≤ 64 := by
    have : (2 : Nat) ^ k ≤ 2 ^ 6 := Nat.pow_le_pow_right (by decide) hk
    have h2 : ((2 ^ k : Nat) : Int) = (2 : Int) ^ k := by simp
    omega
  have := stages_bound (D := D0 m) (F := 1073741824) (D0_pos m) (D0_bound hT) k x z (by omega)
  have h0 := stages_pos (D0_pos m) k x z
  omega
theorem close_el {m : List (List Int)} (hT : TabP true m) : Sq m.length (F_spec_l6Close m) ∧ ∀ i j, i < m.length → j < m.length → el (F_spec_l6Close m) i j = unfar (stages (D0 m) m.length i j) := by
  unfold F_spec_l6Close
  rw [own_eq]
  have h0 := D0_pos m
  have hd := D0_diag hT
  have key : ∀ fuel s y, m.length - y < fuel → y ≤ m.length → Sq m.length s → (∀ i j, i < m.length → j < m.length → el s i j = unfar (stages (D0 m) y i j)) →
      ∃ k s', F_spec_l6Close_L1 m fuel (y, s) = .next (k, s') ∧ Sq m.length s' ∧ ∀ i j, i < m.length → j < m.length → el s' i j = unfar (stages (D0 m) m.length i j) := by
    intro fuel
    induction fuel with
    | zero => intro s y h; omega
    | succ mf ih =>
      intro s y h hy hs he
      rw [F_spec_l6Close_L1_s]
      by_cases hi : (y : Int) < (m.length : Int)
      · have hn6 := hT.n6
        have hfin : ∀ i j, stages (D0 m) y i j = 1073741824 ∨ (0 ≤ stages (D0 m) y i j ∧ stages (D0 m) y i j ≤ 99999) := fun i j => by
          have := stages_fin hT.tab y (by omega) i j; omega
        have hdy : stages (D0 m) y y y = 0 := stages_diag h0 hd y y
        obtain ⟨q1, q2⟩ := inplace sG (y := y) (by omega) hs (fun x hx => by
            rw [he x y hx (by omega), he y y (by omega) (by omega), sG_unfar (hfin x y) (hfin x y) (hfin y y), hdy]; congr 1; omega)
          (fun z hz => by
            rw [he y z (by omega) hz, he y y (by omega) (by omega), sG_unfar (hfin y z) (hfin y y) (hfin y z), hdy]; congr 1; omega)
        rw [decide_eq_true hi, cond_true, close_L2 m rfl y (by omega) _ _ _ (by omega) hs]
        simp only [elim_next]
        refine ih _ (y + 1) (by omega) (by omega) q1 (fun i j hi' hj' => ?_)
        rw [Nat.sub_zero, q2 i j hi' hj', he i j hi' hj', he i y hi' (by omega), he y j (by omega) hj', sG_unfar (hfin i j) (hfin i y) (hfin y j)]
        rfl
      · rw [decide_eq_false hi, cond_false]
        have : y = m.length := by omega
        subst this
        exact ⟨_, s, rfl, hs, he⟩
  have hg : Sq m.length m := ⟨rfl, hT.rows⟩
  obtain ⟨k, s', h1, h2, h3⟩ := key (m.length - 0 + 1) m 0 (by omega) (by omega) hg (fun i j hi hj => by
    show el m i j = unfar (D0 m i j)
    have := (hT.tab.el i j)
    unfold D0 unfar
    have e : el m i j = (m.getD i []).getD j 0 := rfl
    by_cases hneg : el m i j < 0
    · rw [if_pos hneg, if_pos rfl]; omega
    · rw [if_neg hneg, if_neg (by omega)])
  rw [h1]
  exact ⟨h2, h3⟩
/-- Both are tables without open places, or neither is; then they are the same. -/
theorem good_close {m : List (List Int)} (hT : TabP true m) : (F_spec_l6Good (F_impl_Metric_closed m) = F_spec_l6Good (F_spec_l6Close m)) ∧ (F_spec_l6Good (F_spec_l6Close m) = true → F_impl_Metric_closed m = F_spec_l6Close m) := by
  obtain ⟨a1, a2⟩ := closed_el hT
  obtain ⟨b1, b2⟩ := close_el hT
  have hn6 := hT.n6
  by_cases hc : ∀ i j, i < m.length → j < m.length → stages (D0 m) m.length i j ≠ 1073741824
  · have e : F_impl_Metric_closed m = F_spec_l6Close m := by
      refine list_ext_getD [] (by rw [a1.len, b1.len]) fun x hx => ?_
      rw [a1.len] at hx
      refine list_ext_getD 0 (by rw [a1.rows x hx, b1.rows x hx]) fun y hy => ?_
      rw [a1.rows x hx] at hy
      have h1 := a2 x y hx hy; have h2 := b2 x y hx hy
      unfold el at h1 h2
      rw [h1, h2]; unfold unfar; rw [if_neg (hc x y hx hy)]
    rw [e]; exact ⟨rfl, fun _ => rfl⟩
  · have : ∃ i j, i < m.length ∧ j < m.length ∧ stages (D0 m) m.length i j = 1073741824 := by
      refine Classical.byContradiction fun hh => hc fun i j hi hj he => hh ⟨i, j, hi, hj, he⟩
    obtain ⟨i, j, hi, hj, he⟩ := this
    have f1 : F_spec_l6Good (F_impl_Metric_closed m) = false := by
      rw [Bool.eq_false_iff]; intro hg
      have ht := ((l6Good_iff _).1 hg).1
      have := ht.tab.el i j
      have h1 := a2 i j hi hj
      unfold el at h1
      omega
    have f2 : F_spec_l6Good (F_spec_l6Close m) = false := by
      rw [Bool.eq_false_iff]; intro hg
      have ht := ((l6Good_iff _).1 hg).1
      have h1 := b2 i j hi hj
      rw [he] at h1
      have h2 := ht.ok i j (by rw [b1.len]; exact hi) (by rw [b1.len]; exact hj)
      unfold okD at h2
      rw [h1] at h2
      have h3 : unfar 1073741824 = -1 := rfl
      rw [h3] at h2
      by_cases e : i = j
      · have := h2.2.1 e; omega
      · rcases h2.2.2 e with h4 | ⟨h4, _⟩
        · omega
        · cases h4
    rw [f1, f2]
    exact ⟨rfl, fun h => by cases h⟩
theorem closedMetric_eq (m : List (List Int)) : F_impl_ClosedMetric m = F_spec_ClosedMetric m := by
  unfold F_impl_ClosedMetric F_spec_ClosedMetric
  rw [table_eq]
  cases hg : F_spec_l6Table m true with
  | false => rfl
  | true =>
    have hT := (l6Table_iff m true).1 hg
    obtain ⟨h1, h2⟩ := good_close hT
    simp only [Bool.not_true, cond_false]
    unfold F_impl_metricOf F_spec_l6Give
    rw [isMetric_eq, h1]
    cases hc : F_spec_l6Good (F_spec_l6Close m) with
    | false => rfl
    | true => rw [h2 hc]
theorem sq_total {n : Nat} {D : List (List Int)} (h : Sq n D) : total D ≤ n * n := by
  have := total_le n D (fun r hr => by
    obtain ⟨i, hi, rfl⟩ := List.getElem_of_mem hr
    have h1 := h.rows i (by rw [← h.len]; exact hi)
    rw [getD_lt D i [] hi] at h1
    omega)
  rw [h.len] at this; exact this
theorem closedMetric_total (m : List (List Int)) : total (F_impl_ClosedMetric m).1 ≤ 36 := by
  unfold F_impl_ClosedMetric
  rw [table_eq]
  cases hg : F_spec_l6Table m true with
  | false => simp [total]
  | true =>
    have hT := (l6Table_iff m true).1 hg
    simp only [Bool.not_true, cond_false]
    unfold F_impl_metricOf
    cases F_impl_IsMetric (F_impl_Metric_closed m) with
    | false => simp [total]
    | true =>
      simp only [Bool.not_true, cond_false]
      have h1 := sq_total (closed_el hT).1
      have h2 : m.length * m.length ≤ 6 * 6 := Nat.mul_le_mul hT.n6 hT.n6
      omega
/-! what the walks ask -/
/-- A square of sums. -/
structure Bd (n : Nat) (D : List (List Int)) : Prop where
  sq : Sq n D
  bd : ∀ x z, 0 ≤ (D.getD x []).getD z 0 ∧ (D.getD x []).getD z 0 ≤ 1073741824
theorem el_set {D : List (List Int)} {x z : Nat} {v : Int} (i j : Nat) : (((D.set x ((D.getD x []).set z v)).getD i []).getD j 0 = v) ∨ (((D.set x ((D.getD x []).set z v)).getD i []).getD j 0 = (D.getD i []).getD j 0) := by
  by_cases e : x = i
  · subst e
    by_cases hx : x < D.length
    · rw [getD_set_eq _ _ _ _ hx]
      by_cases e2 : z = j
      · subst e2
        by_cases hz : z < (D.getD x []).length
        · left; rw [getD_set_eq _ _ _ _ hz]
        · right; rw [getD_ge _ z 0 (by rw [List.length_set]; omega), getD_ge _ z 0 (by omega)]
      · right; rw [getD_set_ne _ _ _ _ _ e2]
    · right; rw [getD_ge _ x [] (by rw [List.length_set]; omega), getD_ge D x [] (by omega)]
  · right; rw [getD_set_ne _ _ _ _ _ e]
theorem Bd.set {n : Nat} {D : List (List Int)} (h : Bd n D) {x z : Nat} {v : Int} (hx : x < n) (h0 : 0 ≤ v) (h9 : v ≤ 1073741824) : Bd n (D.set x ((D.getD x []).set z v)) :=
  ⟨upd_sq h.sq hx v, fun i j => by
    rcases el_set (D := D) (x := x) (z := z) (v := v) i j with e | e
    · rw [e]; exact ⟨h0, h9⟩
    · rw [e]; exact h.bd i j⟩
/-- What holds of a table while ways through y are closed: B bounds row y and column y. -/
structure Ci (n y : Nat) (B : Int) (D : List (List Int)) : Prop where
  sq : Sq n D
  bd : ∀ i j, -1 ≤ (D.getD i []).getD j 0 ∧ (D.getD i []).getD j 0 ≤ 2 * B
  dg : ∀ i, (D.getD i []).getD i 0 = 0
  row : ∀ j, (D.getD y []).getD j 0 ≤ B
  col : ∀ i, (D.getD i []).getD y 0 ≤ B
theorem Ci.set {n y : Nat} {B : Int} {D : List (List Int)} (h : Ci n y B D) {x z : Nat} (hx : x < n) (_hz : z < n) (h1 : 0 ≤ (D.getD x []).getD y 0) (h2 : 0 ≤ (D.getD y []).getD z 0)
    (h3 : (D.getD x []).getD z 0 < 0 ∨ (D.getD x []).getD y 0 + (D.getD y []).getD z 0 < (D.getD x []).getD z 0) : Ci n y B (D.set x ((D.getD x []).set z ((D.getD x []).getD y 0 + (D.getD y []).getD z 0))) := by
  have hB1 := h.col x; have hB2 := h.row z
  have hxy : x ≠ y := fun e => by
    subst e
    have := h.dg x
    omega
  have hzy : z ≠ y := fun e => by
    subst e
    have := h.dg z
    omega
  have hxz : x ≠ z := fun e => by
    subst e
    have := h.dg x
    omega
  have hb0 := h.bd
  refine ⟨upd_sq h.sq hx _, fun i j => ?_, fun i => ?_, fun j => ?_, fun i => ?_⟩
  · rcases el_set (D := D) (x := x) (z := z) (v := (D.getD x []).getD y 0 + (D.getD y []).getD z 0) i j with e | e <;> rw [e]
    · omega
    · exact hb0 i j
  · by_cases e : x = i
    · subst e
      by_cases hx' : x < D.length
      · rw [getD_set_eq _ _ _ _ hx', getD_set_ne _ _ _ _ _ (fun hh => hxz hh.symm)]; exact h.dg x
      · rw [h.sq.len] at hx'; omega
    · rw [getD_set_ne _ _ _ _ _ e]; exact h.dg i
  · rw [getD_set_ne _ _ _ _ _ hxy]; exact h.row j
  · by_cases e : x = i
    · subst e
      by_cases hx' : x < D.length
      · rw [getD_set_eq _ _ _ _ hx', getD_set_ne _ _ _ _ _ hzy]; exact h.col x
      · rw [h.sq.len] at hx'; omega
    · rw [getD_set_ne _ _ _ _ _ e]; exact h.col i
theorem Ci.next {n y : Nat} {B : Int} {D : List (List Int)} (h : Ci n y B D) : Ci n (y + 1) (2 * B) D :=
  ⟨h.sq, fun i j => by have := h.bd i j; omega, h.dg, fun j => (h.bd _ j).2, fun i => (h.bd i _).2⟩
theorem Ci.step {n y : Nat} {D : List (List Int)} (h : Ci n y (99 * 2 ^ y) D) : Ci n (y + 1) (99 * 2 ^ (y + 1)) D := by
  have h1 := h.next
  rwa [show (2 : Int) * (99 * 2 ^ y) = 99 * 2 ^ (y + 1) by rw [Int.pow_succ]; omega] at h1
theorem push_all {α : Type} {p : α → Prop} {xs : List α} {a : α} (h : ∀ v ∈ xs, p v) (ha : p a) : ∀ v ∈ xs ++ [a], p v := fun v hv => by
  rcases List.mem_append.1 hv with hv | hv
  · exact h v hv
  · rw [List.mem_singleton.1 hv]; exact ha
theorem Ci.weak {n y : Nat} {B C : Int} {D : List (List Int)} (h : Ci n y B D) (hb : B ≤ C) : Ci n y C D :=
  ⟨h.sq, fun i j => by have := h.bd i j; omega, h.dg, fun j => by have := h.row j; omega, fun i => by have := h.col i; omega⟩
theorem ci_start {m : List (List Int)} (h : TabP true m) : Ci m.length 0 99 m := by
  refine ⟨⟨rfl, h.rows⟩, fun i j => by have := h.tab.el i j; omega, fun i => ?_, fun j => (h.tab.el 0 j).2, fun i => (h.tab.el i 0).2⟩
  by_cases hi : i < m.length
  · exact (h.ok i i hi hi).2.1 rfl
  · exact el_out (by omega)
theorem pow_B (y : Nat) (hy : y ≤ 6) : (99 : Int) * 2 ^ y ≤ 6336 ∧ (99 : Int) ≤ 99 * 2 ^ y := by
  match y, hy with
  | 0, _ => decide
  | 1, _ => decide
  | 2, _ => decide
  | 3, _ => decide
  | 4, _ => decide
  | 5, _ => decide
  | 6, _ => decide
theorem grid_bd {n : Nat} (D : List (List Int)) (h1 : D.length = n) (h2 : ∀ i, i < n → (D.getD i []).length = n) (h3 : ∀ r ∈ D, ∀ v ∈ r, 0 ≤ v ∧ v ≤ 1073741824) : Bd n D := by
  refine ⟨⟨h1, h2⟩, fun x z => ?_⟩
  by_cases hx : x < D.length
  · by_cases hz : z < (D.getD x []).length
    · exact h3 _ (getD_mem D x [] hx) _ (getD_mem _ z 0 hz)
    · rw [getD_ge _ z 0 (by omega)]; omega
  · rw [getD_ge D x [] (by omega)]; simp
end Go.Proofs.Ytfhhfhiooehlcaa
