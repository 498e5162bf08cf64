/-
  The plain law of trees' metrics; Repeat's row. No condition.
-/
import Derived.Test.YtcfjjnajeccbhaaLawClose
import Derived.Test.YtcfjjnajeccbhaaDefM
namespace Go.Proofs.Ytcfjjnajeccbhaa
open Go Go.RowKit

theorem repeat_L1 (a : Int) : ∀ fuel n1 s, s.length - n1 < fuel → n1 ≤ s.length → (0 < n1 ∨ s.length = 0) → s.take n1 = List.replicate n1 a →
    ∃ k, F_slices_Repeat_Sint_int_L1 fuel (n1, s) = .next (k, List.replicate s.length a) := by
  intro fuel
  induction fuel with
  | zero => intro n1 s h; omega
  | succ f ih =>
    intro n1 s h h1 h2 h3
    rw [F_slices_Repeat_Sint_int_L1_s]
    by_cases hlt : n1 < s.length
    · rw [bif_pos (decide_eq_true (by omega))]
      have hd1 : ((s.take n1).drop 0).length = n1 := by simp; omega
      have hl : (s.take n1 ++ ((s.take n1).drop 0).take (s.length - n1) ++ s.drop (n1 + (min ((s.take n1).drop 0).length (s.length - n1)))).length = s.length := by simp; omega
      have := ih (n1 + (min ((s.take n1).drop 0).length (s.length - n1))) (s.take n1 ++ ((s.take n1).drop 0).take (s.length - n1) ++ s.drop (n1 + (min ((s.take n1).drop 0).length (s.length - n1)))) (by rw [hl, hd1]; omega) (by rw [hl, hd1]; omega) (by left; omega) (by
        rw [hd1, List.drop_zero, h3, List.take_replicate, List.replicate_append_replicate]
        rw [List.take_left' (by simp; omega)]
        congr 1; omega)
      rw [hl] at this
      exact this
    · rw [bif_neg (decide_eq_false (by omega))]
      have : n1 = s.length := by omega
      subst this
      rw [List.take_length] at h3
      exact ⟨_, by rw [← h3]⟩
theorem repeat_eq (a : Int) (c : Int) (h0 : 0 ≤ c) (h1 : c ≤ 1000000) : F_slices_Repeat_Sint_int [a] c = List.replicate c.toNat a := by
  have hmu := mulU_one (n := ([a] : List Int).length) (c := c) rfl h0 h1
  unfold F_slices_Repeat_Sint_int
  rw [bif_neg (decide_eq_false (by omega)), elim_next]
  rw [bif_neg (by rw [Bool.or_eq_false_iff, decide_eq_false_iff_not, decide_eq_false_iff_not]; omega), elim_next, hmu.2]
  have hlr : (List.replicate c.toNat (0 : Int)).length = c.toNat := List.length_replicate
  have hl : (([a] : List Int).take (List.replicate c.toNat (0 : Int)).length ++ (List.replicate c.toNat (0 : Int)).drop (min ([a] : List Int).length (List.replicate c.toNat (0 : Int)).length)).length = c.toNat := by simp; omega
  obtain ⟨k, hk⟩ := repeat_L1 a _ (min ([a] : List Int).length (List.replicate c.toNat (0 : Int)).length) (([a] : List Int).take (List.replicate c.toNat (0 : Int)).length ++ (List.replicate c.toNat (0 : Int)).drop (min ([a] : List Int).length (List.replicate c.toNat (0 : Int)).length)) (Nat.lt_add_one _) (by rw [hl, hlr]; exact Nat.min_le_right _ _) (by
      rw [hl, hlr]
      have : ([a] : List Int).length = 1 := rfl
      omega) (by
      rw [hlr]
      cases hc : c.toNat with
      | zero => simp
      | succ n => simp)
  rw [hk, elim_next]
  change List.replicate _ a = _
  rw [hl]

structure TrI (n k : Nat) (m : List (List Int)) : Prop where
  sq : Sq n m
  ok : ∀ i j, i < n → j < n → el m i j = el m j i ∧ (i = j → el m i j = if i < k then 0 else -1) ∧ (i ≠ j → (1 ≤ el m i j ∧ el m i j ≤ 99) ∨ el m i j = -1)
theorem TrI.tabP {n : Nat} {m : List (List Int)} (h : TrI n n m) (h1 : 1 ≤ n) (h6 : n ≤ 6) : TabP true m := by
  have hl := h.sq.len
  refine ⟨by omega, by omega, fun i hi => by rw [h.sq.rows i (by omega), hl], fun x y hx hy => ?_⟩
  obtain ⟨a1, a2, a3⟩ := h.ok x y (by omega) (by omega)
  refine ⟨a1, fun e => ?_, fun e => ?_⟩
  · rw [a2 e, if_pos (by omega)]
  · rcases a3 e with a | a
    · exact .inl a
    · exact .inr ⟨rfl, a⟩
theorem TrI.dia {n k : Nat} {m : List (List Int)} (h : TrI n k m) (hk : k < n) : TrI n (k + 1) (m.set k ((m.getD k []).set k 0)) := by
  change TrI n (k + 1) (upd m k k 0)
  refine ⟨upd_sq h.sq hk 0, fun i j hi hj => ?_⟩
  obtain ⟨a1, a2, a3⟩ := h.ok i j hi hj
  rw [el_upd h.sq hk hk, el_upd h.sq hk hk]
  by_cases e : i = k ∧ j = k
  · rw [if_pos e, if_pos ⟨e.2, e.1⟩]
    refine ⟨rfl, fun _ => by rw [if_pos (by omega)], fun hh => absurd (by omega) hh⟩
  · rw [if_neg e, if_neg (fun hh => e ⟨hh.2, hh.1⟩)]
    refine ⟨a1, fun hh => ?_, a3⟩
    rw [a2 hh]
    by_cases c : i < k
    · rw [if_pos c, if_pos (by omega)]
    · rw [if_neg c, if_neg (by omega)]
theorem TrI.two {n k : Nat} {m : List (List Int)} (h : TrI n k m) {x p : Nat} (hx : x < n) (hp : p < n) (hne : x ≠ p) {d : Int} (h1 : 1 ≤ d) (h9 : d ≤ 99) :
    TrI n k ((m.set x ((m.getD x []).set p d)).set p (((m.set x ((m.getD x []).set p d)).getD p []).set x d)) := by
  change TrI n k (upd (upd m x p d) p x d)
  have hs := upd_sq h.sq (x := x) (z := p) hx d
  refine ⟨upd_sq hs hp d, fun i j hi hj => ?_⟩
  obtain ⟨a1, a2, a3⟩ := h.ok i j hi hj
  rw [el_upd hs hp hx, el_upd hs hp hx, el_upd h.sq hx hp, el_upd h.sq hx hp]
  by_cases e : (i = p ∧ j = x) ∨ (i = x ∧ j = p)
  · have e1 : (if i = p ∧ j = x then d else if i = x ∧ j = p then d else el m i j) = d := by
      rcases e with e | e
      · rw [if_pos e]
      · rw [if_pos e]; simp
    have e2 : (if j = p ∧ i = x then d else if j = x ∧ i = p then d else el m j i) = d := by
      rcases e with e | e
      · split
        · rfl
        · rw [if_pos ⟨e.2, e.1⟩]
      · rw [if_pos ⟨e.2, e.1⟩]
    rw [e1, e2]
    exact ⟨rfl, fun hh => absurd (by omega) hne, fun _ => .inl ⟨h1, h9⟩⟩
  · rw [if_neg (fun hh => e (.inl hh)), if_neg (fun hh => e (.inr hh)), if_neg (fun hh => e (.inr ⟨hh.2, hh.1⟩)), if_neg (fun hh => e (.inl ⟨hh.2, hh.1⟩))]
    exact ⟨a1, a2, a3⟩
theorem trI_blank (n : Nat) : TrI n 0 (List.replicate n (List.replicate n (-1 : Int))) := by
  have hr : ∀ i, i < n → (List.replicate n (List.replicate n (-1 : Int))).getD i [] = List.replicate n (-1) := fun i hi => by simp [hi]
  refine ⟨⟨by simp, fun i hi => by rw [hr i hi]; simp⟩, fun i j hi hj => ?_⟩
  unfold el
  rw [hr i hi, hr j hj]
  simp [hi, hj]
theorem trI_uniform (n : Nat) : TrI n n (F_spec_l6Uniform (n : Int) (-1)) := by
  refine ⟨uniform_sq n _, fun i j hi hj => ?_⟩
  rw [uniform_el n _ i j hi hj, uniform_el n _ j i hj hi]
  by_cases e : i = j
  · subst e; rw [if_pos rfl, if_pos hi]; exact ⟨rfl, fun _ => rfl, fun hh => absurd rfl hh⟩
  · rw [if_neg e, if_neg (fun hh => e hh.symm)]; exact ⟨rfl, fun hh => absurd hh e, fun _ => .inr rfl⟩
theorem blank_push {n k : Nat} {z : List (List Int)} (h : z = List.replicate k (List.replicate (n + 1) (-1 : Int))) (hn : n ≤ 100) : z ++ [F_slices_Repeat_Sint_int ([-1]) ((n : Int) + 1)] = List.replicate (k + 1) (List.replicate (n + 1) (-1)) := by
  rw [h, repeat_eq _ _ (by omega) (by omega), show ((n : Int) + 1).toNat = n + 1 by omega]
  exact (List.replicate_succ' (n := k) (a := List.replicate (n + 1) (-1))).symm
theorem blank_dia {n k : Nat} {z : List (List Int)} (h : z = List.replicate k (List.replicate (n + 1) (-1 : Int))) (hk : k = n + 1) : TrI (n + 1) 1 (z.set 0 ((z.getD 0 []).set 0 0)) := by
  subst hk; rw [h]; exact (trI_blank (n + 1)).dia (by omega)
theorem blank_row {n k : Nat} {z : List (List Int)} (h : z = List.replicate k (List.replicate (n + 1) (-1 : Int))) (hk : k = n + 1) : z.length = n + 1 ∧ (z.getD 0 []).length = n + 1 := by
  subst hk; rw [h]; simp
theorem tree_L1 (up : List Int) (h5 : up.length ≤ 5) : ∀ fuel k s, up.length + 1 - k < fuel → k ≤ up.length + 1 → F_impl_TreeMetric_L1 up fuel (k, s) =
    .next (up.length + 1, s ++ List.replicate (up.length + 1 - k) (List.replicate (up.length + 1) (-1 : Int))) := by
  intro fuel
  induction fuel with
  | zero => intro k s h; omega
  | succ f ih =>
    intro k s h hk
    rw [F_impl_TreeMetric_L1_s]
    by_cases c : k < up.length + 1
    · rw [bif_pos (decide_eq_true (by omega)), ih _ _ (by omega) (by omega), repeat_eq _ _ (by omega) (by omega)]
      rw [show ((up.length : Int) + 1).toNat = up.length + 1 by omega, show up.length + 1 - k = (up.length + 1 - (k + 1)) + 1 by omega, List.replicate_succ, List.append_assoc]
      rfl
    · rw [bif_neg (decide_eq_false (by omega)), show k = up.length + 1 by omega]
      simp
theorem tree_both (up ln : List Int) : ∀ fuel k mi ms, up.length - k < fuel → k ≤ up.length → TrI (up.length + 1) (k + 1) mi → TrI (up.length + 1) (up.length + 1) ms →
    (∀ i j, i < up.length + 1 → j < up.length + 1 → el ms i j = if i = j then 0 else el mi i j) →
    (F_impl_TreeMetric_L2 up ln fuel (k, mi) = .ret ([], false) ∧ F_spec_TreeMetric_L1 up ln fuel (k + 1, ms) = .ret ([], false)) ∨
    (∃ a b t, F_impl_TreeMetric_L2 up ln fuel (k, mi) = .next (a, t) ∧ F_spec_TreeMetric_L1 up ln fuel (k + 1, ms) = .next (b, t) ∧ TrI (up.length + 1) (up.length + 1) t) := by
  intro fuel
  induction fuel with
  | zero => intro k mi ms h; omega
  | succ f ih =>
    intro k mi ms h hk hi hs hr
    rw [F_impl_TreeMetric_L2_s, F_spec_TreeMetric_L1_s]
    by_cases c : k < up.length
    · rw [bif_pos (decide_eq_true (by omega)), bif_pos (decide_eq_true (by omega))]
      rw [show (((k + 1 : Nat) : Int) - 1) = (k : Int) by omega, show ((k : Int) + 1 - 1) = (k : Int) by omega, Int.toNat_natCast]
      cases hb : ((!((decide (0 ≤ (up.getD k 0))) && (decide ((up.getD k 0) ≤ (k : Int))))) || (!((decide (1 ≤ (ln.getD k 0))) && (decide ((ln.getD k 0) ≤ 99))))) with
      | true => exact .inl ⟨rfl, rfl⟩
      | false =>
        simp only [cond_false]
        simp only [Bool.or_eq_false_iff, Bool.not_eq_false', Bool.and_eq_true, decide_eq_true_eq] at hb
        obtain ⟨⟨b1, b2⟩, b3, b4⟩ := hb
        have hdi := hi.dia (by omega)
        refine ih (k + 1) _ _ (by omega) (by omega) (hdi.two (x := k + 1) (p := (up.getD k 0).toNat) (by omega) (by omega) (by omega) b3 b4)
          (hs.two (x := k + 1) (p := (up.getD k 0).toNat) (by omega) (by omega) (by omega) b3 b4) ?_
        intro i j hi' hj'
        change el (upd (upd ms (k + 1) (up.getD k 0).toNat (ln.getD k 0)) (up.getD k 0).toNat (k + 1) (ln.getD k 0)) i j =
          if i = j then 0 else el (upd (upd (upd mi (k + 1) (k + 1) 0) (k + 1) (up.getD k 0).toNat (ln.getD k 0)) (up.getD k 0).toNat (k + 1) (ln.getD k 0)) i j
        have hp : (up.getD k 0).toNat < up.length + 1 := by omega
        have hx : k + 1 < up.length + 1 := by omega
        have q1 := upd_sq hs.sq (x := k + 1) (z := (up.getD k 0).toNat) hx (ln.getD k 0)
        have q2 := upd_sq hi.sq (x := k + 1) (z := k + 1) hx 0
        have q3 := upd_sq q2 (x := k + 1) (z := (up.getD k 0).toNat) hx (ln.getD k 0)
        rw [el_upd q1 hp hx, el_upd hs.sq hx hp, el_upd q3 hp hx, el_upd q2 hx hp, el_upd hi.sq hx hx, hr i j hi' hj']
        by_cases e1 : i = (up.getD k 0).toNat ∧ j = k + 1
        · rw [if_pos e1, if_neg (by omega), if_pos e1]
        · rw [if_neg e1, if_neg e1]
          by_cases e2 : i = k + 1 ∧ j = (up.getD k 0).toNat
          · rw [if_pos e2, if_neg (by omega), if_pos e2]
          · rw [if_neg e2, if_neg e2]
            by_cases e3 : i = j
            · rw [if_pos e3, if_pos e3]
            · rw [if_neg e3, if_neg e3, if_neg (by omega)]
    · rw [bif_neg (decide_eq_false (by omega)), bif_neg (decide_eq_false (by omega))]
      have hke : k = up.length := by omega
      subst hke
      have : ms = mi := by
        rw [grid_ext (n := up.length + 1) (f := el ms) hs.sq.len hs.sq.rows (fun _ _ _ _ => rfl)]
        symm
        refine grid_ext hi.sq.len hi.sq.rows fun x y hx hy => ?_
        rw [hr x y hx hy]
        by_cases e : x = y
        · rw [if_pos e, (hi.ok x y hx hy).2.1 e, if_pos hx]
        · rw [if_neg e]
      subst this
      exact .inr ⟨_, _, _, rfl, rfl, hi⟩
theorem give_close {t : List (List Int)} (hT : TabP true t) : F_impl_metricOf (F_impl_Metric_closed t) = F_spec_l6Give (F_spec_l6Close t) := by
  have h := closedMetric_eq t
  unfold F_impl_ClosedMetric F_spec_ClosedMetric at h
  rw [table_eq, (l6Table_iff t true).2 hT] at h
  exact h
theorem tree_shape (up ln : List Int) : (F_impl_TreeMetric up ln = ([], false) ∧ F_spec_TreeMetric up ln = ([], false)) ∨
    ∃ t, TabP true t ∧ F_impl_TreeMetric up ln = F_impl_metricOf (F_impl_Metric_closed t) ∧ F_spec_TreeMetric up ln = F_spec_l6Give (F_spec_l6Close t) := by
  unfold F_impl_TreeMetric F_spec_TreeMetric
  by_cases h5 : up.length ≤ 5
  · by_cases hl : ln.length = up.length
    · rw [bif_neg (by simp; omega), bif_neg (by simp; omega)]
      rw [tree_L1 up h5 _ _ _ (by omega) (by omega), elim_next]
      have hn : (up.length : Int) + 1 = ((up.length + 1 : Nat) : Int) := by omega
      have hf : (((up.length : Int) + 1).toNat - 1) + 1 = (up.length - 0) + 1 := by omega
      rw [hf, hn]
      have hb := (trI_blank (up.length + 1)).dia (by omega)
      rcases tree_both up ln ((up.length - 0) + 1) 0 _ _ (by omega) (by omega) hb (trI_uniform (up.length + 1)) (fun i j hi hj => by
        change _ = if i = j then 0 else el (upd _ 0 0 0) i j
        rw [uniform_el _ _ i j hi hj, el_upd (trI_blank _).sq (by omega) (by omega)]
        by_cases e : i = j
        · rw [if_pos e, if_pos e]
        · rw [if_neg e, if_neg e, if_neg (by omega)]
          unfold el; simp [hi, hj]) with ⟨h1, h2⟩ | ⟨a, b, t, h1, h2, h3⟩
      · left
        simp only [List.nil_append, Nat.sub_zero] at h1 h2 ⊢
        rw [h1, h2]; exact ⟨rfl, rfl⟩
      · right
        refine ⟨t, h3.tabP (by omega) (by omega), ?_⟩
        simp only [List.nil_append, Nat.sub_zero] at h1 h2 ⊢
        rw [h1, h2]; exact ⟨rfl, rfl⟩
    · left
      rw [bif_pos (by simp; omega), bif_pos (by simp; omega)]
      exact ⟨rfl, rfl⟩
  · left
    rw [bif_pos (by simp; omega), bif_pos (by simp; omega)]
    exact ⟨rfl, rfl⟩
theorem treeMetric_eq (up ln : List Int) : F_impl_TreeMetric up ln = F_spec_TreeMetric up ln := by
  rcases tree_shape up ln with ⟨h1, h2⟩ | ⟨t, h1, h2, h3⟩
  · rw [h1, h2]
  · rw [h2, h3, give_close h1]
theorem treeMetric_total (up ln : List Int) : total (F_impl_TreeMetric up ln).1 ≤ 36 := by
  rcases tree_shape up ln with ⟨h1, h2⟩ | ⟨t, h1, h2, h3⟩
  · rw [h1]; simp [total]
  · rw [h2]; exact metricOf_total _
theorem law_TreeMetric (a b : List Int) : F_laws_FnExactTreeMetric a b = true := by
  unfold F_laws_FnExactTreeMetric
  simp only [toIntS_eq, treeMetric_eq, eqMetric_refl, markMetric_eq, eqIntS_refl, markIntS_eq]
  rw [heldMetric_marked _ 1 (by omega)]
  have h1 : ¬ ((1 : Int) + (total (F_spec_TreeMetric a b).1 : Int) < 0) := by omega
  have h2 : ¬ ((1 : Int) + (a.length : Int) + (b.length : Int) < 0) := by omega
  simp [h1, h2]
end Go.Proofs.Ytcfjjnajeccbhaa
