/-
  Part of a proof: rules of the walk, plain functions and their laws, walks. No condition.
-/
import Derived.Test.YtcmhgkcifejgcaaKLeastRows5
import Derived.Lib.SlicesCompact
import Derived.Lib.RowBridge
namespace Go.Proofs.Ytcmhgkcifejgcaa
set_option linter.unusedVariables false
set_option linter.unusedSimpArgs false

/-- Numbers in ascending order. -/
abbrev sortI (xs : List Int) : List Int := xs.mergeSort fun x y => decide (x ≤ y)
end Go.Proofs.Ytcmhgkcifejgcaa
namespace Go.Proofs.Ytcmhgkcifejgcaa
set_option linter.unusedVariables false
set_option linter.unusedSimpArgs false
open Go Go.RowKit
set_option linter.unusedVariables false

def F_impl_moved (a : List Int) (src : Int) (dst : Int) : List Int := (sortI (a.set (((F_slices_Index_Sint_int a src)).toNat) dst))

def F_spec_l6Sort_L2 (list : List Int) (out1 : List Int) (i1 : Nat) : Nat → Nat → Ctl (Nat) (List Int)
  | 0, s => .next s
  | mf2 + 1, k2 => (bif ((decide ((k2 : Int) < (out1.length : Int))) && (decide ((out1.getD k2 0) ≤ (list.getD i1 0)))) then F_spec_l6Sort_L2 list out1 i1 mf2 (k2 + 1) else (.next k2))
theorem F_spec_l6Sort_L2_s (list : List Int) (out1 : List Int) (i1 : Nat) (k2 : Nat) (mf2 : Nat) : F_spec_l6Sort_L2 list out1 i1 (mf2 + 1) k2 = (bif ((decide ((k2 : Int) < (out1.length : Int))) && (decide ((out1.getD k2 0) ≤ (list.getD i1 0)))) then F_spec_l6Sort_L2 list out1 i1 mf2 (k2 + 1) else (.next k2)) := rfl
def F_spec_l6Sort_L1 (list : List Int) : Nat → List Int × Nat → Ctl (List Int × Nat) (List Int)
  | 0, s => .next s
  | mf1 + 1, (out1, i1) => (bif decide ((i1 : Int) < (list.length : Int)) then ((F_spec_l6Sort_L2 list out1 i1 ((out1.length - 0) + 1) 0).elim (fun k2 => F_spec_l6Sort_L1 list mf1 ((((([] : List Int) ++ ((out1.take k2).drop 0)) ++ ([(list.getD i1 0)])) ++ ((out1.take out1.length).drop k2)), (i1 + 1))) (fun r => .ret r)) else (.next (out1, i1)))
theorem F_spec_l6Sort_L1_s (list : List Int) (out1 : List Int) (i1 : Nat) (mf1 : Nat) : F_spec_l6Sort_L1 list (mf1 + 1) (out1, i1) = (bif decide ((i1 : Int) < (list.length : Int)) then ((F_spec_l6Sort_L2 list out1 i1 ((out1.length - 0) + 1) 0).elim (fun k2 => F_spec_l6Sort_L1 list mf1 ((((([] : List Int) ++ ((out1.take k2).drop 0)) ++ ([(list.getD i1 0)])) ++ ((out1.take out1.length).drop k2)), (i1 + 1))) (fun r => .ret r)) else (.next (out1, i1))) := rfl
def F_spec_l6Sort (list : List Int) : List Int := ((F_spec_l6Sort_L1 list ((list.length - 0) + 1) (([] : List Int), 0)).elim (fun (out1, _) => out1) (fun r => r))

def F_spec_l6Least_L1 (now : List Int) (reqs : List Int) (at_ : Int) (rec : List Int → List Int → Int → Int) : Nat → Int × Nat → Ctl (Int × Nat) (Int)
  | 0, s => .next s
  | mf1 + 1, (k7_1, k8_1) => (bif decide ((k8_1 : Int) < (now.length : Int)) then (bif ((decide (k7_1 < 0)) || (decide ((F_spec_l1Most ((now.getD k8_1 0) - (reqs.getD ((at_).toNat) 0)) ((reqs.getD ((at_).toNat) 0) - (now.getD k8_1 0))) + (rec (F_spec_l6Sort (now.set k8_1 (reqs.getD ((at_).toNat) 0))) reqs (at_ + 1)) < k7_1))) then F_spec_l6Least_L1 now reqs at_ rec mf1 (((F_spec_l1Most ((now.getD k8_1 0) - (reqs.getD ((at_).toNat) 0)) ((reqs.getD ((at_).toNat) 0) - (now.getD k8_1 0))) + (rec (F_spec_l6Sort (now.set k8_1 (reqs.getD ((at_).toNat) 0))) reqs (at_ + 1))), (k8_1 + 1)) else F_spec_l6Least_L1 now reqs at_ rec mf1 (k7_1, (k8_1 + 1))) else (.next (k7_1, k8_1)))
theorem F_spec_l6Least_L1_s (now : List Int) (reqs : List Int) (at_ : Int) (rec : List Int → List Int → Int → Int) (k7_1 : Int) (k8_1 : Nat) (mf1 : Nat) : F_spec_l6Least_L1 now reqs at_ rec (mf1 + 1) (k7_1, k8_1) = (bif decide ((k8_1 : Int) < (now.length : Int)) then (bif ((decide (k7_1 < 0)) || (decide ((F_spec_l1Most ((now.getD k8_1 0) - (reqs.getD ((at_).toNat) 0)) ((reqs.getD ((at_).toNat) 0) - (now.getD k8_1 0))) + (rec (F_spec_l6Sort (now.set k8_1 (reqs.getD ((at_).toNat) 0))) reqs (at_ + 1)) < k7_1))) then F_spec_l6Least_L1 now reqs at_ rec mf1 (((F_spec_l1Most ((now.getD k8_1 0) - (reqs.getD ((at_).toNat) 0)) ((reqs.getD ((at_).toNat) 0) - (now.getD k8_1 0))) + (rec (F_spec_l6Sort (now.set k8_1 (reqs.getD ((at_).toNat) 0))) reqs (at_ + 1))), (k8_1 + 1)) else F_spec_l6Least_L1 now reqs at_ rec mf1 (k7_1, (k8_1 + 1))) else (.next (k7_1, k8_1))) := rfl
def F_spec_l6Least_R : Nat → List Int → List Int → Int → Int
  | 0, _, _, _ => default
  | mr + 1, now, reqs, at_ => (bif decide (at_ = (reqs.length : Int)) then 0 else (bif (F_spec_l1Has now (reqs.getD ((at_).toNat) 0)) then ((F_spec_l6Least_R mr) now reqs (at_ + 1)) else ((F_spec_l6Least_L1 now reqs at_ (F_spec_l6Least_R mr) ((now.length - 0) + 1) ((-1), 0)).elim (fun (k7_1, _) => k7_1) (fun r => r))))
theorem F_spec_l6Least_R_s (mr : Nat) (now : List Int) (reqs : List Int) (at_ : Int) : F_spec_l6Least_R (mr + 1) now reqs at_ = (bif decide (at_ = (reqs.length : Int)) then 0 else (bif (F_spec_l1Has now (reqs.getD ((at_).toNat) 0)) then ((F_spec_l6Least_R mr) now reqs (at_ + 1)) else ((F_spec_l6Least_L1 now reqs at_ (F_spec_l6Least_R mr) ((now.length - 0) + 1) ((-1), 0)).elim (fun (k7_1, _) => k7_1) (fun r => r)))) := rfl
def F_spec_l6Least (now : List Int) (reqs : List Int) (at_ : Int) : Int := F_spec_l6Least_R (reqs.length - at_.toNat + 1) now reqs at_

def F_spec_LeastRows (row : List Int) (reqs : List Int) : Int × Bool := (bif (((!(F_spec_l6Row row)) || (decide (12 < (reqs.length : Int)))) || (!(F_spec_l6Places reqs))) then (0, false) else ((F_spec_l6Least row reqs 0), true))


end Go.Proofs.Ytcmhgkcifejgcaa
namespace Go.Proofs.Ytcmhgkcifejgcaa
set_option linter.unusedVariables false
set_option linter.unusedSimpArgs false
open Go Go.RowKit
set_option linter.unusedVariables false
set_option linter.unusedSimpArgs false
/-! sorting -/
def Up (l : List Int) : Prop := l.Pairwise (· ≤ ·)
theorem sortI_perm (l : List Int) : (sortI l).Perm l := List.mergeSort_perm l _
theorem sortI_up (l : List Int) : Up (sortI l) := by
  have := List.pairwise_mergeSort (le := fun (x y : Int) => decide (x ≤ y)) (fun a b c h1 h2 => by simp at *; omega) (fun a b => by simp; omega) l
  exact this.imp (fun h => by simpa using h)
theorem up_unique {a b : List Int} (ha : Up a) (hb : Up b) (h : a.Perm b) : a = b := List.Perm.eq_of_pairwise (fun x y _ _ h1 h2 => by omega) ha hb h
theorem sortI_of {l s : List Int} (hs : Up s) (h : s.Perm l) : sortI l = s := up_unique (sortI_up l) hs ((sortI_perm l).trans h.symm)
theorem sortI_congr {a b : List Int} (h : a.Perm b) : sortI a = sortI b := up_unique (sortI_up a) (sortI_up b) ((sortI_perm a).trans (h.trans (sortI_perm b).symm))
theorem sortI_length (l : List Int) : (sortI l).length = l.length := (sortI_perm l).length_eq
theorem up_getD {l : List Int} : Up l ↔ ∀ i, i + 1 < l.length → l.getD i 0 ≤ l.getD (i + 1) 0 := by
  constructor
  · intro h i hi
    have := List.pairwise_iff_getElem.1 h i (i + 1) (by omega) hi (by omega)
    rw [getD_lt l i 0 (by omega), getD_lt l (i + 1) 0 hi]; exact this
  · intro h
    refine List.pairwise_iff_getElem.2 fun i j hi hj hij => ?_
    have := sorted_le h (j - i) i (by omega)
    rw [show i + (j - i) = j by omega, getD_lt l i 0 hi, getD_lt l j 0 hj] at this
    exact this
theorem mem_getD {l : List Int} {v : Int} : v ∈ l ↔ ∃ i, i < l.length ∧ l.getD i 0 = v := by
  constructor
  · intro h
    obtain ⟨i, hi, rfl⟩ := List.getElem_of_mem h
    exact ⟨i, hi, getD_lt l i 0 hi⟩
  · rintro ⟨i, hi, rfl⟩; exact getD_mem l i 0 hi
theorem sort_L2 (list out : List Int) (i : Nat) (hu : Up out) : ∀ fuel k, out.length - k < fuel → k ≤ out.length → (∀ j, j < k → out.getD j 0 ≤ list.getD i 0) →
    ∃ k', F_spec_l6Sort_L2 list out i fuel k = .next k' ∧ k' ≤ out.length ∧ (∀ j, j < k' → out.getD j 0 ≤ list.getD i 0) ∧ (∀ j, k' ≤ j → j < out.length → list.getD i 0 ≤ out.getD j 0) := by
  intro fuel
  induction fuel with
  | zero => intro k h; omega
  | succ mf ih =>
    intro k h hk hl
    rw [F_spec_l6Sort_L2_s]
    by_cases hc : k < out.length ∧ out.getD k 0 ≤ list.getD i 0
    · rw [decide_eq_true (show (k : Int) < (out.length : Int) by omega), decide_eq_true hc.2, Bool.and_self, cond_true]
      exact ih (k + 1) (by omega) hc.1 (upto_succ hl hc.2)
    · have : ((decide ((k : Int) < (out.length : Int))) && (decide ((out.getD k 0) ≤ (list.getD i 0)))) = false := by
        rw [Bool.eq_false_iff]; intro hh
        simp only [Bool.and_eq_true, decide_eq_true_eq] at hh
        exact hc ⟨by omega, hh.2⟩
      rw [this, cond_false]
      refine ⟨k, rfl, hk, hl, fun j h1 h2 => ?_⟩
      have h3 : ¬ out.getD k 0 ≤ list.getD i 0 := fun hh => hc ⟨by omega, hh⟩
      have h4 := sorted_le (up_getD.1 hu) (j - k) k (by omega)
      rw [show k + (j - k) = j by omega] at h4
      omega
theorem insert_up {out : List Int} {x : Int} {k : Nat} (hu : Up out) (hk : k ≤ out.length) (h1 : ∀ j, j < k → out.getD j 0 ≤ x) (h2 : ∀ j, k ≤ j → j < out.length → x ≤ out.getD j 0) : Up ((out.take k ++ [x]) ++ out.drop k) := by
  have ht : ∀ v ∈ out.take k, v ≤ x := fun v hv => by
    obtain ⟨i, hi, rfl⟩ := List.getElem_of_mem hv
    have hi' : i < k := by simp at hi; omega
    have := h1 i hi'
    rw [getD_lt out i 0 (by omega)] at this
    simpa using this
  have hd : ∀ v ∈ out.drop k, x ≤ v := fun v hv => by
    obtain ⟨i, hi, rfl⟩ := List.getElem_of_mem hv
    have hi' : k + i < out.length := by simp at hi; omega
    have := h2 (k + i) (by omega) hi'
    rw [getD_lt out (k + i) 0 hi'] at this
    simpa using this
  unfold Up
  rw [List.pairwise_append, List.pairwise_append]
  refine ⟨⟨List.Pairwise.sublist (List.take_sublist _ _) hu, by simp, fun a ha b hb => ?_⟩, List.Pairwise.sublist (List.drop_sublist _ _) hu, fun a ha b hb => ?_⟩
  · rw [List.mem_singleton.1 hb]; exact ht a ha
  · rcases List.mem_append.1 ha with ha | ha
    · have := ht a ha; have := hd b hb; omega
    · rw [List.mem_singleton.1 ha]; exact hd b hb
theorem sort_L1 (list : List Int) : ∀ fuel i out, list.length - i < fuel → i ≤ list.length → Up out → out.Perm (list.take i) → ∃ s, F_spec_l6Sort_L1 list fuel (out, i) = .next s ∧ Up s.1 ∧ s.1.Perm list := by
  intro fuel
  induction fuel with
  | zero => intro i out h; omega
  | succ mf ih =>
    intro i out h hi hu hp
    rw [F_spec_l6Sort_L1_s]
    by_cases hlt : (i : Int) < (list.length : Int)
    · obtain ⟨k, h1, h2, h3, h4⟩ := sort_L2 list out i hu (out.length - 0 + 1) 0 (by omega) (by omega) (fun j hj => by omega)
      rw [decide_eq_true hlt, cond_true, h1]
      simp only [elim_next, List.drop_zero, List.nil_append, List.take_length]
      refine ih (i + 1) _ (by omega) (by omega) (insert_up hu h2 h3 h4) ?_
      rw [List.take_succ_eq_append_getElem (by omega), ← getD_lt list i 0 (by omega)]
      have e1 : (out.take k ++ [list.getD i 0] ++ out.drop k).Perm (list.getD i 0 :: out) := by
        rw [List.append_assoc]
        refine (List.perm_middle).trans ?_
        show (list.getD i 0 :: (out.take k ++ out.drop k)).Perm _
        rw [List.take_append_drop]
      exact e1.trans ((List.Perm.cons _ hp).trans (List.perm_append_singleton _ _).symm)
    · rw [decide_eq_false hlt, cond_false]
      refine ⟨_, rfl, hu, ?_⟩
      rwa [List.take_of_length_le (by omega)] at hp
theorem l6Sort_eq (l : List Int) : F_spec_l6Sort l = sortI l := by
  unfold F_spec_l6Sort
  obtain ⟨⟨s, k⟩, h1, h2, h3⟩ := sort_L1 l (l.length - 0 + 1) 0 [] (by omega) (by omega) (by unfold Up; simp) (by simp)
  rw [h1]
  exact (sortI_of h2 h3).symm
/-- A list of numbers of which one has been put for another. -/
theorem set_perm {a : List Int} {i j : Nat} (hi : i < a.length) (hj : j < a.length) (h : a.getD i 0 = a.getD j 0) (r : Int) : (a.set i r).Perm (a.set j r) := by
  rw [List.perm_iff_count]
  intro v
  have h1 := List.count_set (a := r) (b := v) (l := a) (i := i) hi
  have h2 := List.count_set (a := r) (b := v) (l := a) (i := j) hj
  rw [getD_lt a i 0 hi, getD_lt a j 0 hj] at h
  rw [h1, h2, h]
theorem index_lt {a : List Int} {v : Int} (h : ∃ i, i < a.length ∧ a.getD i 0 = v) : 0 ≤ F_slices_Index_Sint_int a v ∧ F_slices_Index_Sint_int a v < a.length := by
  rcases index_spec a v with ⟨_, h2⟩ | ⟨i, h1, h2, _⟩
  · obtain ⟨i, hi, he⟩ := h; exact absurd he (h2 i hi)
  · omega
theorem moved_eq {a : List Int} {k : Nat} (hk : k < a.length) (r : Int) : F_impl_moved a (a.getD k 0) r = sortI (a.set k r) := by
  unfold F_impl_moved
  rcases index_spec a (a.getD k 0) with ⟨_, h2⟩ | ⟨i, h1, h2, h3, _⟩
  · exact absurd rfl (h2 k hk)
  · rw [h2, Int.toNat_natCast]
    exact sortI_congr (set_perm h1 hk h3 r)
end Go.Proofs.Ytcmhgkcifejgcaa
namespace Go.Proofs.Ytcmhgkcifejgcaa
set_option linter.unusedVariables false
set_option linter.unusedSimpArgs false
open Go Go.RowKit
set_option linter.unusedVariables false
set_option linter.unusedSimpArgs false
theorem lr_pick {x' x : List Int} (h : x'.Perm x) : ∀ t, t < x'.length → ∃ s, s < x.length ∧ x'.getD t 0 = x.getD s 0 ∧ ∀ r, (x'.set t r).Perm (x.set s r) := by
  induction h with
  | nil => intro t ht; simp at ht
  | cons a h ih =>
    intro t ht
    cases t with
    | zero => exact ⟨0, by simp, rfl, fun r => by simpa using h⟩
    | succ t =>
      obtain ⟨s, h1, h2, h3⟩ := ih t (by simpa using ht)
      exact ⟨s + 1, by simpa using h1, by simpa using h2, fun r => by simpa using h3 r⟩
  | swap a b l =>
    intro t ht
    match t, ht with
    | 0, _ => exact ⟨1, by simp, rfl, fun r => by simpa using List.Perm.swap a r l⟩
    | 1, _ => exact ⟨0, by simp, rfl, fun r => by simpa using List.Perm.swap r b l⟩
    | t + 2, ht => exact ⟨t + 2, by simpa using ht, rfl, fun r => by simpa using List.Perm.swap a b (l.set t r)⟩
  | trans h1 h2 ih1 ih2 =>
    intro t ht
    obtain ⟨s, a1, a2, a3⟩ := ih1 t ht
    obtain ⟨u, b1, b2, b3⟩ := ih2 s a1
    exact ⟨u, b1, a2.trans b2, fun r => (a3 r).trans (b3 r)⟩
def Vl (reqs s : List Int) (t : Nat) : Int := F_spec_l6Least s reqs (t : Int)
def ab (x : Int) : Int := max x (-x)
theorem ab_nn (x : Int) : 0 ≤ ab x := by unfold ab; omega
/-- The cost of a move, and of what follows. -/
def Cm (rec : List Int → List Int → Int → Int) (now reqs : List Int) (at_ : Int) (k : Nat) : Int :=
  F_spec_l1Most (now.getD k 0 - reqs.getD at_.toNat 0) (reqs.getD at_.toNat 0 - now.getD k 0) + rec (F_spec_l6Sort (now.set k (reqs.getD at_.toNat 0))) reqs (at_ + 1)
theorem lr_L1 (now reqs : List Int) (at_ : Int) (rec : List Int → List Int → Int → Int) (hnn : ∀ k, k < now.length → 0 ≤ Cm rec now reqs at_ k) : ∀ (fuel k : Nat) (least : Int), now.length - k < fuel → k ≤ now.length →
    ((k = 0 ∧ least = -1) ∨ (0 ≤ least ∧ (∀ j, j < k → least ≤ Cm rec now reqs at_ j) ∧ ∃ j, j < k ∧ least = Cm rec now reqs at_ j)) → 1 ≤ now.length →
    ∃ k' least', F_spec_l6Least_L1 now reqs at_ rec fuel (least, k) = .next (least', k') ∧ 0 ≤ least' ∧ (∀ j, j < now.length → least' ≤ Cm rec now reqs at_ j) ∧ ∃ j, j < now.length ∧ least' = Cm rec now reqs at_ j := by
  intro fuel
  induction fuel with
  | zero => intro k least h; omega
  | succ f ih =>
    intro k least h hk hI h1
    rw [F_spec_l6Least_L1_s]
    by_cases hl : k < now.length
    · rw [bif_pos (decide_eq_true (by omega))]
      have hc := hnn k hl
      have hC : Cm rec now reqs at_ k = F_spec_l1Most (now.getD k 0 - reqs.getD at_.toNat 0) (reqs.getD at_.toNat 0 - now.getD k 0) + rec (F_spec_l6Sort (now.set k (reqs.getD at_.toNat 0))) reqs (at_ + 1) := rfl
      rw [← hC]
      by_cases hb : least < 0 ∨ Cm rec now reqs at_ k < least
      · rw [bif_pos (by rcases hb with hb | hb <;> simp [hb])]
        refine ih (k + 1) _ (by omega) (by omega) (.inr ⟨hc, fun j hj => ?_, k, by omega, rfl⟩) h1
        by_cases e : j = k
        · subst e; omega
        · rcases hI with ⟨h2, _⟩ | ⟨h2, h3, _⟩
          · omega
          · have := h3 j (by omega); omega
      · rw [bif_neg (by rw [decide_eq_false (by omega), decide_eq_false (by omega)]; rfl)]
        refine ih (k + 1) _ (by omega) (by omega) (.inr ?_) h1
        rcases hI with ⟨_, h2⟩ | ⟨h2, h3, j, h4, h5⟩
        · omega
        · refine ⟨h2, fun j hj => ?_, j, by omega, h5⟩
          by_cases e : j = k
          · subst e; omega
          · exact h3 j (by omega)
    · rw [bif_neg (decide_eq_false (by omega))]
      have : k = now.length := by omega
      subst this
      rcases hI with ⟨h2, _⟩ | ⟨h2, h3, h4⟩
      · omega
      · exact ⟨_, _, rfl, h2, h3, h4⟩
theorem vl_R {reqs : List Int} {s : List Int} {t : Nat} (ht : t ≤ reqs.length) : Vl reqs s t = F_spec_l6Least_R (reqs.length - t + 1) s reqs (t : Int) := by
  unfold Vl F_spec_l6Least
  rw [show ((t : Int)).toNat = t by omega]
theorem vl_end (reqs s : List Int) : Vl reqs s reqs.length = 0 := by
  rw [vl_R (Nat.le_refl _), F_spec_l6Least_R_s, bif_pos (decide_eq_true rfl)]
theorem vl_has {reqs s : List Int} {t : Nat} (ht : t < reqs.length) (h : F_spec_l1Has s (reqs.getD t 0) = true) : Vl reqs s t = Vl reqs s (t + 1) := by
  rw [vl_R (by omega), vl_R (by omega), F_spec_l6Least_R_s, bif_neg (decide_eq_false (by omega)), show ((t : Int)).toNat = t by omega, bif_pos h, show reqs.length - (t + 1) + 1 = reqs.length - t by omega]
  rfl
theorem cm_eq {reqs s : List Int} {t : Nat} (ht : t < reqs.length) (k : Nat) : Cm (F_spec_l6Least_R (reqs.length - t)) s reqs (t : Int) k = ab (s.getD k 0 - reqs.getD t 0) + Vl reqs (sortI (s.set k (reqs.getD t 0))) (t + 1) := by
  unfold Cm
  rw [show ((t : Int)).toNat = t by omega, l6Sort_eq, vl_R (by omega), show reqs.length - (t + 1) + 1 = reqs.length - t by omega, l1Most_eq]
  unfold ab
  rw [show -(s.getD k 0 - reqs.getD t 0) = reqs.getD t 0 - s.getD k 0 by omega]
  rfl
theorem vl_not {reqs s : List Int} {t : Nat} (ht : t < reqs.length) (h1 : 1 ≤ s.length) (h : F_spec_l1Has s (reqs.getD t 0) = false) (hnn : ∀ l : List Int, l.length = s.length → 0 ≤ Vl reqs l (t + 1)) :
    0 ≤ Vl reqs s t ∧ (∀ k, k < s.length → Vl reqs s t ≤ ab (s.getD k 0 - reqs.getD t 0) + Vl reqs (sortI (s.set k (reqs.getD t 0))) (t + 1)) ∧ ∃ k, k < s.length ∧ Vl reqs s t = ab (s.getD k 0 - reqs.getD t 0) + Vl reqs (sortI (s.set k (reqs.getD t 0))) (t + 1) := by
  have hn : ∀ k, k < s.length → 0 ≤ Cm (F_spec_l6Least_R (reqs.length - t)) s reqs (t : Int) k := fun k _ => by
    rw [cm_eq ht]
    have h2 := ab_nn (s.getD k 0 - reqs.getD t 0)
    have h3 := hnn (sortI (s.set k (reqs.getD t 0))) (by rw [sortI_length, List.length_set])
    omega
  obtain ⟨k', v, e1, e2, e3, e4⟩ := lr_L1 s reqs (t : Int) (F_spec_l6Least_R (reqs.length - t)) hn (s.length - 0 + 1) 0 (-1) (by omega) (by omega) (.inl ⟨rfl, rfl⟩) h1
  have hv : Vl reqs s t = v := by
    rw [vl_R (by omega), F_spec_l6Least_R_s, bif_neg (decide_eq_false (by omega)), show ((t : Int)).toNat = t by omega, bif_neg h, e1, elim_next]
  rw [hv]
  refine ⟨e2, fun k hk => ?_, ?_⟩
  · rw [← cm_eq ht]; exact e3 k hk
  · obtain ⟨k, hk, e⟩ := e4
    exact ⟨k, hk, by rw [← cm_eq ht]; exact e⟩
theorem vl_nn {reqs : List Int} : ∀ (d t : Nat), t + d = reqs.length → ∀ s : List Int, 1 ≤ s.length → 0 ≤ Vl reqs s t := by
  intro d
  induction d with
  | zero =>
    intro t h s _
    rw [show t = reqs.length by omega, vl_end]
    omega
  | succ d ih =>
    intro t h s h1
    cases hb : F_spec_l1Has s (reqs.getD t 0)
    · exact (vl_not (by omega) h1 hb (fun l hl => ih (t + 1) (by omega) l (by omega))).1
    · rw [vl_has (by omega) hb]; exact ih (t + 1) (by omega) s h1
/-- By the row's numbers, in whatever order. -/
def Wl (reqs l : List Int) (t : Nat) : Int := Vl reqs (sortI l) t
theorem wl_perm {reqs l l' : List Int} {t : Nat} (h : l.Perm l') : Wl reqs l t = Wl reqs l' t := by unfold Wl; rw [sortI_congr h]
structure Bm (reqs : List Int) (t : Nat) : Prop where
  u : ∀ (l : List Int) (i : Nat), i < l.length → Wl reqs l t ≤ ab (l.getD i 0 - reqs.getD t 0) + Wl reqs (l.set i (reqs.getD t 0)) (t + 1)
  e : ∀ l : List Int, 1 ≤ l.length → ∃ i, i < l.length ∧ Wl reqs l t = ab (l.getD i 0 - reqs.getD t 0) + Wl reqs (l.set i (reqs.getD t 0)) (t + 1)
def Lp (reqs : List Int) (t : Nat) : Prop := ∀ (l : List Int) (i : Nat) (p : Int), i < l.length → Wl reqs l t ≤ ab (l.getD i 0 - p) + Wl reqs (l.set i p) t
theorem has_mem {l : List Int} {r : Int} (h : F_spec_l1Has (sortI l) r = true) : ∃ i, i < l.length ∧ l.getD i 0 = r := by
  obtain ⟨i, hi, e⟩ := (l1Has_iff (sortI l) r).1 h
  obtain ⟨s, h1, h2, _⟩ := lr_pick (sortI_perm l) i hi
  exact ⟨s, h1, by rw [← h2]; exact e⟩
theorem bm_of {reqs : List Int} {t : Nat} (ht : t < reqs.length) (hL : Lp reqs (t + 1)) : Bm reqs t := by
  have hset : ∀ (l : List Int) (i : Nat), i < l.length → l.set i (l.getD i 0) = l := fun l i hi => by
    rw [getD_lt _ _ _ hi]; exact List.set_getElem_self hi
  refine ⟨fun l i hi => ?_, fun l h1 => ?_⟩
  · cases hb : F_spec_l1Has (sortI l) (reqs.getD t 0)
    · obtain ⟨_, h2, _⟩ := vl_not ht (by rw [sortI_length]; omega) hb (fun l' hl' => vl_nn (reqs.length - (t + 1)) (t + 1) (by omega) l' (by rw [sortI_length] at hl'; omega))
      obtain ⟨s, h3, h4, h5⟩ := lr_pick (sortI_perm l).symm i hi
      have := h2 s h3
      rw [h4]
      have e := wl_perm (reqs := reqs) (t := t + 1) (h5 (reqs.getD t 0))
      rw [e]
      exact this
    · unfold Wl at *
      rw [vl_has ht hb]
      exact hL l i _ hi
  · cases hb : F_spec_l1Has (sortI l) (reqs.getD t 0)
    · obtain ⟨_, _, k, h2, h3⟩ := vl_not ht (by rw [sortI_length]; omega) hb (fun l' hl' => vl_nn (reqs.length - (t + 1)) (t + 1) (by omega) l' (by rw [sortI_length] at hl'; omega))
      obtain ⟨s, h4, h5, h6⟩ := lr_pick (sortI_perm l) k h2
      refine ⟨s, h4, ?_⟩
      rw [← h5]
      have e := wl_perm (reqs := reqs) (t := t + 1) (h6 (reqs.getD t 0))
      rw [← e]
      exact h3
    · obtain ⟨i, hi, e⟩ := has_mem hb
      refine ⟨i, hi, ?_⟩
      rw [← e, hset l i hi]
      unfold Wl
      rw [vl_has ht hb]
      unfold ab
      omega
theorem lp_of {reqs : List Int} {t : Nat} (hB : Bm reqs t) (hL : Lp reqs (t + 1)) : Lp reqs t := by
  intro l i p hi
  obtain ⟨j, hj, e⟩ := hB.e (l.set i p) (by rw [List.length_set]; omega)
  rw [List.length_set] at hj
  rw [e]
  by_cases h : j = i
  · subst h
    rw [getD_set_eq _ _ _ _ hi, List.set_set]
    have := hB.u l j hi
    unfold ab at *
    omega
  · rw [getD_set_ne _ _ _ _ _ (Ne.symm h), List.set_comm _ _ (Ne.symm h)]
    have h1 := hB.u l j hj
    have h2 := hL (l.set j (reqs.getD t 0)) i p (by rw [List.length_set]; exact hi)
    rw [getD_set_ne _ _ _ _ _ h] at h2
    omega
theorem lp_all {reqs : List Int} : ∀ (d t : Nat), t + d = reqs.length → Lp reqs t := by
  intro d
  induction d with
  | zero =>
    intro t h l i p hi
    rw [show t = reqs.length by omega]
    unfold Wl
    rw [vl_end, vl_end]
    have := ab_nn (l.getD i 0 - p)
    omega
  | succ d ih =>
    intro t h
    have h1 := ih (t + 1) (by omega)
    exact lp_of (bm_of (by omega) h1) h1
theorem bellman {reqs : List Int} {t : Nat} (ht : t < reqs.length) : Bm reqs t := bm_of ht (lp_all (reqs.length - (t + 1)) (t + 1) (by omega))
/-! what the walks ask -/
def Plc (l : List Int) : Prop := ∀ i : Nat, 0 ≤ l.getD i 0 ∧ l.getD i 0 ≤ 99
theorem plc_of {l : List Int} (h : ∀ i, i < l.length → 0 ≤ l.getD i 0 ∧ l.getD i 0 ≤ 99) : Plc l := fun i => by
  by_cases hi : i < l.length
  · exact h i hi
  · rw [getD_ge _ _ _ (by omega)]; omega
theorem plc_set {l : List Int} {k : Nat} {x : Int} (h : Plc l) (hx : 0 ≤ x ∧ x ≤ 99) : Plc (l.set k x) := plc_of fun i hi => by
  by_cases e : k = i
  · subst e; rw [getD_set_eq _ _ _ _ (by simpa using hi)]; exact hx
  · rw [getD_set_ne _ _ _ _ _ e]; exact h i
theorem plc_perm {l l' : List Int} (hp : l'.Perm l) (h : Plc l) : Plc l' := plc_of fun i hi => by
  obtain ⟨s, h1, h2, _⟩ := lr_pick hp i hi
  rw [h2]; exact h s
theorem plc_sortI {l : List Int} {k : Nat} {x : Int} (h : Plc l) (hx : 0 ≤ x ∧ x ≤ 99) : Plc (sortI (l.set k x)) := plc_perm (sortI_perm _) (plc_set h hx)
theorem plc_sort {l : List Int} {k : Nat} {x : Int} (h : Plc l) (hx : 0 ≤ x ∧ x ≤ 99) : Plc (F_spec_l6Sort (l.set k x)) := by rw [l6Sort_eq]; exact plc_sortI h hx
theorem len_sort (l : List Int) (k : Nat) (x : Int) : (F_spec_l6Sort (l.set k x)).length = l.length := by rw [l6Sort_eq, sortI_length, List.length_set]
theorem bd_L1 (now reqs : List Int) (at_ : Int) (rec : List Int → List Int → Int → Int) (B : Int) (hB : 0 ≤ B) (hb : ∀ k, k < now.length → -1 ≤ Cm rec now reqs at_ k ∧ Cm rec now reqs at_ k ≤ B) : ∀ (fuel k : Nat) (least : Int), -1 ≤ least ∧ least ≤ B → ∃ k' least', F_spec_l6Least_L1 now reqs at_ rec fuel (least, k) = .next (least', k') ∧ -1 ≤ least' ∧ least' ≤ B := by
  intro fuel
  induction fuel with
  | zero => intro k least h; exact ⟨k, least, rfl, h.1, h.2⟩
  | succ f ih =>
    intro k least h
    rw [F_spec_l6Least_L1_s]
    by_cases hl : k < now.length
    · rw [bif_pos (decide_eq_true (by omega))]
      have hC : Cm rec now reqs at_ k = F_spec_l1Most (now.getD k 0 - reqs.getD at_.toNat 0) (reqs.getD at_.toNat 0 - now.getD k 0) + rec (F_spec_l6Sort (now.set k (reqs.getD at_.toNat 0))) reqs (at_ + 1) := rfl
      rw [← hC]
      have := hb k hl
      cases (decide (least < 0) || decide (Cm rec now reqs at_ k < least))
      · exact ih _ _ h
      · exact ih _ _ this
    · rw [bif_neg (decide_eq_false (by omega))]
      exact ⟨k, least, rfl, h.1, h.2⟩
theorem least_bd {reqs : List Int} (hr : Plc reqs) (h12 : reqs.length ≤ 12) : ∀ (mr : Nat) {l : List Int} {at_ : Int}, Plc l → 0 ≤ at_ ∧ at_ ≤ reqs.length → -1 ≤ F_spec_l6Least_R mr l reqs at_ ∧ F_spec_l6Least_R mr l reqs at_ ≤ 100 * ((reqs.length : Int) - at_) := by
  intro mr
  induction mr with
  | zero => intro l at_ hl ha; show -1 ≤ (0 : Int) ∧ (0 : Int) ≤ _; omega
  | succ mr ih =>
    intro l at_ hl ha
    rw [F_spec_l6Least_R_s]
    by_cases he : at_ = reqs.length
    · rw [bif_pos (decide_eq_true he)]; omega
    · rw [bif_neg (decide_eq_false he)]
      cases F_spec_l1Has l (reqs.getD at_.toNat 0)
      · obtain ⟨k', v, h1, h2, h3⟩ := bd_L1 l reqs at_ (F_spec_l6Least_R mr) (100 * ((reqs.length : Int) - at_)) (by omega) (fun k hk => by
          have h4 := ih (l := F_spec_l6Sort (l.set k (reqs.getD at_.toNat 0))) (at_ := at_ + 1) (plc_sort hl (hr _)) (by omega)
          have h5 := hl k
          have h6 := hr at_.toNat
          unfold Cm
          rw [l1Most_eq]
          omega) (l.length - 0 + 1) 0 (-1) (by omega)
        rw [cond_false, h1, elim_next]
        exact ⟨h2, h3⟩
      · have h4 := ih (l := l) (at_ := at_ + 1) hl (by omega)
        rw [cond_true]; omega
structure LrOk (row reqs : List Int) : Prop where
  r : Row row
  n : reqs.length ≤ 12
  p : Plc row
  q : Plc reqs
theorem lr_ok {row reqs : List Int} (h : (((!(F_spec_l6Row row)) || (decide (12 < (reqs.length : Int)))) || (!(F_spec_l6Places reqs))) = false) : LrOk row reqs := by
  obtain ⟨h1, h2⟩ := or_f h
  obtain ⟨h3, h4⟩ := or_f h1
  have hR := l6Row_t (not_f h3)
  have hP := (places_iff reqs).1 (not_f h2)
  have h5 := of_decide_eq_false h4
  exact ⟨hR, by omega, hR.el, plc_of hP⟩
end Go.Proofs.Ytcmhgkcifejgcaa
namespace Go.Proofs.Ytcmhgkcifejgcaa
set_option linter.unusedVariables false
set_option linter.unusedSimpArgs false
open Go Go.RowKit
set_option linter.unusedVariables false

def F_laws_FnExactLeastRows (row : List Int) (reqs : List Int) : Bool := (bif decide (1048576 < (row.length : Int)) then true else (bif decide (1048576 < (reqs.length : Int)) then true else (bif ((!decide ((F_spec_LeastRows (F_laws_toIntS row) (F_laws_toIntS reqs)).1 = (F_spec_LeastRows (F_laws_toIntS row) (F_laws_toIntS reqs)).1)) || (((F_spec_LeastRows (F_laws_toIntS row) (F_laws_toIntS reqs)).2) != ((F_spec_LeastRows (F_laws_toIntS row) (F_laws_toIntS reqs)).2))) then false else (bif !(F_laws_eqIntS (F_laws_toIntS row) (F_laws_toIntS row)) then false else (bif !(F_laws_eqIntS (F_laws_toIntS reqs) (F_laws_toIntS reqs)) then false else true)))))


end Go.Proofs.Ytcmhgkcifejgcaa
namespace Go.Proofs.Ytcmhgkcifejgcaa
set_option linter.unusedVariables false
set_option linter.unusedSimpArgs false
open Go Go.RowKit
set_option linter.unusedVariables false

def F_impl_arePlaces (l : List Int) (many : Int) : Bool := ((decide ((l.length : Int) ≤ many)) && (F_impl_areBelow 100 l))


end Go.Proofs.Ytcmhgkcifejgcaa
