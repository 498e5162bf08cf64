/-
  Plain laws on sorting, on lists without repetitions, on greedy servers, isometries and tables like a tree. No condition.
-/
import Derived.Test.YtcfjjnajeccbhaaDefK
import Derived.Test.YtcfjjnajeccbhaaLawWay
namespace Go.Proofs.Ytcfjjnajeccbhaa
open Go

/-! sorting -/
def Up (l : List Int) : Prop := l.Pairwise (· ≤ ·)
theorem sortI_perm (l : List Int) : (sortI l).Perm l := List.mergeSort_perm l _
theorem sortI_up (l : List Int) : Up (sortI l) := by
  have := List.pairwise_mergeSort (le := fun (x y : Int) => decide (x ≤ y)) (fun a b c h1 h2 => by simp at *; omega) (fun a b => by simp; omega) l
  exact this.imp (fun h => by simpa using h)
theorem up_unique {a b : List Int} (ha : Up a) (hb : Up b) (h : a.Perm b) : a = b := List.Perm.eq_of_pairwise (fun x y _ _ h1 h2 => by omega) ha hb h
theorem sortI_of {l s : List Int} (hs : Up s) (h : s.Perm l) : sortI l = s := up_unique (sortI_up l) hs ((sortI_perm l).trans h.symm)
theorem sortI_congr {a b : List Int} (h : a.Perm b) : sortI a = sortI b := up_unique (sortI_up a) (sortI_up b) ((sortI_perm a).trans (h.trans (sortI_perm b).symm))
theorem sortI_length (l : List Int) : (sortI l).length = l.length := (sortI_perm l).length_eq
theorem up_getD {l : List Int} : Up l ↔ ∀ i, i + 1 < l.length → l.getD i 0 ≤ l.getD (i + 1) 0 := by
  constructor
  · intro h i hi
    have := List.pairwise_iff_getElem.1 h i (i + 1) (by omega) hi (by omega)
    rw [getD_lt l i 0 (by omega), getD_lt l (i + 1) 0 hi]; exact this
  · intro h
    refine List.pairwise_iff_getElem.2 fun i j hi hj hij => ?_
    have := sorted_le h (j - i) i (by omega)
    rw [show i + (j - i) = j by omega, getD_lt l i 0 hi, getD_lt l j 0 hj] at this
    exact this
theorem mem_getD {l : List Int} {v : Int} : v ∈ l ↔ ∃ i, i < l.length ∧ l.getD i 0 = v := by
  constructor
  · intro h
    obtain ⟨i, hi, rfl⟩ := List.getElem_of_mem h
    exact ⟨i, hi, getD_lt l i 0 hi⟩
  · rintro ⟨i, hi, rfl⟩; exact getD_mem l i 0 hi
theorem sort_L2 (list out : List Int) (i : Nat) (hu : Up out) : ∀ fuel k, out.length - k < fuel → k ≤ out.length → (∀ j, j < k → out.getD j 0 ≤ list.getD i 0) →
    ∃ k', F_spec_l6Sort_L2 list out i fuel k = .next k' ∧ k' ≤ out.length ∧ (∀ j, j < k' → out.getD j 0 ≤ list.getD i 0) ∧ (∀ j, k' ≤ j → j < out.length → list.getD i 0 ≤ out.getD j 0) := by
  intro fuel
  induction fuel with
  | zero => intro k h; omega
  | succ mf ih =>
    intro k h hk hl
    rw [F_spec_l6Sort_L2_s]
    by_cases hc : k < out.length ∧ out.getD k 0 ≤ list.getD i 0
    · rw [decide_eq_true (show (k : Int) < (out.length : Int) by omega), decide_eq_true hc.2, Bool.and_self, cond_true]
      exact ih (k + 1) (by omega) hc.1 (upto_succ hl hc.2)
    · have : ((decide ((k : Int) < (out.length : Int))) && (decide ((out.getD k 0) ≤ (list.getD i 0)))) = false := by
        rw [Bool.eq_false_iff]; intro hh
        simp only [Bool.and_eq_true, decide_eq_true_eq] at hh
        exact hc ⟨by omega, hh.2⟩
      rw [this, cond_false]
      refine ⟨k, rfl, hk, hl, fun j h1 h2 => ?_⟩
      have h3 : ¬ out.getD k 0 ≤ list.getD i 0 := fun hh => hc ⟨by omega, hh⟩
      have h4 := sorted_le (up_getD.1 hu) (j - k) k (by omega)
      rw [show k + (j - k) = j by omega] at h4
      omega
theorem insert_up {out : List Int} {x : Int} {k : Nat} (hu : Up out) (hk : k ≤ out.length) (h1 : ∀ j, j < k → out.getD j 0 ≤ x) (h2 : ∀ j, k ≤ j → j < out.length → x ≤ out.getD j 0) : Up ((out.take k ++ [x]) ++ out.drop k) := by
  have ht : ∀ v ∈ out.take k, v ≤ x := fun v hv => by
    obtain ⟨i, hi, rfl⟩ := List.getElem_of_mem hv
    have hi' : i < k := by simp at hi; omega
    have := h1 i hi'
    rw [getD_lt out i 0 (by omega)] at this
    simpa using this
  have hd : ∀ v ∈ out.drop k, x ≤ v := fun v hv => by
    obtain ⟨i, hi, rfl⟩ := List.getElem_of_mem hv
    have hi' : k + i < out.length := by simp at hi; omega
    have := h2 (k + i) (by omega) hi'
    rw [getD_lt out (k + i) 0 hi'] at this
    simpa using this
  unfold Up
  rw [List.pairwise_append, List.pairwise_append]
  refine ⟨⟨List.Pairwise.sublist (List.take_sublist _ _) hu, by simp, fun a ha b hb => ?_⟩, List.Pairwise.sublist (List.drop_sublist _ _) hu, fun a ha b hb => ?_⟩
  · rw [List.mem_singleton.1 hb]; exact ht a ha
  · rcases List.mem_append.1 ha with ha | ha
    · have := ht a ha; have := hd b hb; omega
    · rw [List.mem_singleton.1 ha]; exact hd b hb
theorem sort_L1 (list : List Int) : ∀ fuel i out, list.length - i < fuel → i ≤ list.length → Up out → out.Perm (list.take i) → ∃ s, F_spec_l6Sort_L1 list fuel (out, i) = .next s ∧ Up s.1 ∧ s.1.Perm list := by
  intro fuel
  induction fuel with
  | zero => intro i out h; omega
  | succ mf ih =>
    intro i out h hi hu hp
    rw [F_spec_l6Sort_L1_s]
    by_cases hlt : (i : Int) < (list.length : Int)
    · obtain ⟨k, h1, h2, h3, h4⟩ := sort_L2 list out i hu (out.length - 0 + 1) 0 (by omega) (by omega) (fun j hj => by omega)
      rw [decide_eq_true hlt, cond_true, h1]
      simp only [elim_next, List.drop_zero, List.nil_append, List.take_length]
      refine ih (i + 1) _ (by omega) (by omega) (insert_up hu h2 h3 h4) ?_
      rw [List.take_succ_eq_append_getElem (by omega), ← getD_lt list i 0 (by omega)]
      have e1 : (out.take k ++ [list.getD i 0] ++ out.drop k).Perm (list.getD i 0 :: out) := by
        rw [List.append_assoc]
        refine (List.perm_middle).trans ?_
        show (list.getD i 0 :: (out.take k ++ out.drop k)).Perm _
        rw [List.take_append_drop]
      exact e1.trans ((List.Perm.cons _ hp).trans (List.perm_append_singleton _ _).symm)
    · rw [decide_eq_false hlt, cond_false]
      refine ⟨_, rfl, hu, ?_⟩
      rwa [List.take_of_length_le (by omega)] at hp
theorem l6Sort_eq (l : List Int) : F_spec_l6Sort l = sortI l := by
  unfold F_spec_l6Sort
  obtain ⟨⟨s, k⟩, h1, h2, h3⟩ := sort_L1 l (l.length - 0 + 1) 0 [] (by omega) (by omega) (by unfold Up; simp) (by simp)
  rw [h1]
  exact (sortI_of h2 h3).symm
/-- A list of numbers of which one has been put for another. -/
theorem set_perm {a : List Int} {i j : Nat} (hi : i < a.length) (hj : j < a.length) (h : a.getD i 0 = a.getD j 0) (r : Int) : (a.set i r).Perm (a.set j r) := by
  rw [List.perm_iff_count]
  intro v
  have h1 := List.count_set (a := r) (b := v) (l := a) (i := i) hi
  have h2 := List.count_set (a := r) (b := v) (l := a) (i := j) hj
  rw [getD_lt a i 0 hi, getD_lt a j 0 hj] at h
  rw [h1, h2, h]

/-! lists without repetitions -/
def Rise (l : List Int) : Prop := l.Pairwise (· < ·)
theorem rise_nodup {l : List Int} (h : Rise l) : l.Nodup := h.imp (fun h => by omega)
theorem rise_unique {a b : List Int} (ha : Rise a) (hb : Rise b) (h : ∀ v, v ∈ a ↔ v ∈ b) : a = b := by
  refine List.Perm.eq_of_pairwise (le := (· < ·)) (fun x y _ _ h1 h2 => by omega) ha hb ?_
  exact (List.perm_ext_iff_of_nodup (rise_nodup ha) (rise_nodup hb)).2 h
theorem compactUpTo_rise (d : Array Int) (hu : ∀ i, i + 1 < d.size → d[i]! ≤ d[i + 1]!) : ∀ m, m ≤ d.size → Rise (Lib.compactUpTo d m) ∧ ∀ v, v ∈ Lib.compactUpTo d m ↔ ∃ j, j < m ∧ d[j]! = v
  | 0, _ => ⟨by simp [Lib.compactUpTo, Rise], fun v => by simp [Lib.compactUpTo]⟩
  | m + 1, hm => by
    obtain ⟨h1, h2⟩ := compactUpTo_rise d hu m (by omega)
    have hle : ∀ n j, j + n < d.size → d[j]! ≤ d[j + n]! := by
      intro n
      induction n with
      | zero => intro j _; simp
      | succ n ih => intro j hj; have a1 := ih j (by omega); have a2 := hu (j + n) (by omega); rw [show j + (n + 1) = j + n + 1 by omega]; omega
    rw [Lib.compactUpTo_succ]
    cases hk : Lib.keeps d m with
    | true =>
      simp only [if_true]
      simp only [Lib.keeps, decide_eq_true_eq] at hk
      refine ⟨?_, fun v => ?_⟩
      · unfold Rise
        rw [List.pairwise_append]
        refine ⟨h1, by simp, fun a ha b hb => ?_⟩
        rw [List.mem_singleton.1 hb]
        obtain ⟨j, hj, rfl⟩ := (h2 a).1 ha
        rcases hk with hk | hk
        · omega
        · have a1 := hle (m - 1 - j) j (by omega)
          have a2 := hu (m - 1) (by omega)
          rw [show j + (m - 1 - j) = m - 1 by omega] at a1
          rw [show m - 1 + 1 = m by omega] at a2
          omega
      · rw [List.mem_append, h2, List.mem_singleton]
        constructor
        · rintro (⟨j, hj, e⟩ | rfl)
          · exact ⟨j, by omega, e⟩
          · exact ⟨m, by omega, rfl⟩
        · rintro ⟨j, hj, e⟩
          rcases Nat.lt_or_eq_of_le (Nat.le_of_lt_succ hj) with h | h
          · exact .inl ⟨j, h, e⟩
          · subst h; exact .inr e.symm
    | false =>
      simp only [Bool.false_eq_true, if_false, List.append_nil]
      have hk' : ¬ (m = 0 ∨ d[m]! ≠ d[m - 1]!) := by
        intro hh
        rw [show Lib.keeps d m = decide (m = 0 ∨ d[m]! ≠ d[m - 1]!) from rfl, decide_eq_true hh] at hk
        cases hk
      refine ⟨h1, fun v => ?_⟩
      rw [h2]
      constructor
      · rintro ⟨j, hj, e⟩; exact ⟨j, by omega, e⟩
      · rintro ⟨j, hj, e⟩
        rcases Nat.lt_or_eq_of_le (Nat.le_of_lt_succ hj) with h | h
        · exact ⟨j, h, e⟩
        · subst h
          refine ⟨j - 1, by omega, ?_⟩
          rw [← e]
          exact (Classical.byContradiction fun hh => hk' (.inr (fun e2 => hh e2.symm)))
theorem compact_rise {s : List Int} (hu : Up s) : Rise (Lib.compact s) ∧ ∀ v, v ∈ Lib.compact s ↔ v ∈ s := by
  have hg : ∀ i, i < s.length → s.toArray[i]! = s.getD i 0 := fun i hi => by
    rw [getD_lt s i 0 hi]; simp [hi]
  obtain ⟨h1, h2⟩ := compactUpTo_rise s.toArray (fun i hi => by
    have hi' : i + 1 < s.length := by simpa using hi
    rw [hg i (by omega), hg (i + 1) hi']; exact up_getD.1 hu i hi') s.length (by simp)
  refine ⟨h1, fun v => (h2 v).trans ?_⟩
  rw [mem_getD]
  constructor
  · rintro ⟨j, hj, e⟩; exact ⟨j, hj, by rw [← hg j hj]; exact e⟩
  · rintro ⟨j, hj, e⟩; exact ⟨j, hj, by rw [hg j hj]; exact e⟩
theorem rising_spec (l : List Int) : Rise (F_impl_rising l) ∧ ∀ v, v ∈ F_impl_rising l ↔ v ∈ l := by
  unfold F_impl_rising
  obtain ⟨h1, h2⟩ := compact_rise (sortI_up l)
  exact ⟨h1, fun v => (h2 v).trans (sortI_perm l).mem_iff⟩
theorem rising_len (l : List Int) : (F_impl_rising l).length ≤ l.length := by
  have := Lib.compact_length_le (sortI l)
  unfold F_impl_rising
  rw [sortI_length] at this; exact this
theorem all_len : ∀ (n : Nat) (l : List Int), (∀ x, x < n → ((x : Nat) : Int) ∈ l) → n ≤ l.length
  | 0, _, _ => by omega
  | n + 1, l, h => by
    have hm := h n (by omega)
    have := all_len n (l.erase (n : Int)) (fun x hx => (List.mem_erase_of_ne (by omega)).2 (h x (by omega)))
    rw [List.length_erase_of_mem hm] at this
    have : 0 < l.length := List.length_pos_of_mem hm
    omega
/-- A list that has each number below n once. -/
theorem perm_iff (n : Nat) (l : List Int) (hl : l.length = n) : (∀ x, x < n → ((x : Nat) : Int) ∈ l) ↔ ((∀ i, i < l.length → 0 ≤ l.getD i 0 ∧ l.getD i 0 < n) ∧ (F_impl_rising l).length = n) := by
  obtain ⟨r1, r2⟩ := rising_spec l
  have r3 := rising_len l
  constructor
  · intro h
    have h1 := all_len n (F_impl_rising l) (fun x hx => (r2 _).2 (h x hx))
    refine ⟨fun i hi => Classical.byContradiction fun hh => ?_, by omega⟩
    have hm := getD_mem l i 0 hi
    have h2 := all_len n (l.erase (l.getD i 0)) (fun x hx => (List.mem_erase_of_ne (fun e => hh (by omega))).2 (h x hx))
    rw [List.length_erase_of_mem hm] at h2
    omega
  · rintro ⟨h1, h2⟩ x hx
    refine Classical.byContradiction fun hh => ?_
    have hn : ((x : Int) :: F_impl_rising l).Nodup := List.nodup_cons.2 ⟨fun hm => hh ((r2 _).1 hm), rise_nodup r1⟩
    have := nodup_len n ((x : Int) :: F_impl_rising l) hn (fun v hv => by
      rcases List.mem_cons.1 hv with rfl | hv
      · omega
      · obtain ⟨i, hi, rfl⟩ := mem_getD.1 ((r2 v).1 hv)
        exact h1 i hi)
    simp only [List.length_cons] at this
    omega
theorem isOrder_iff (n : Nat) (l : List Int) : F_impl_isOrder (n : Int) l = true ↔ l.length = n ∧ ∀ x, x < n → ((x : Nat) : Int) ∈ l := by
  unfold F_impl_isOrder
  cases hb : ((decide ((l.length : Int) = (n : Int))) && (F_impl_areBelow (n : Int) l)) with
  | true =>
    simp only [Bool.and_eq_true, decide_eq_true_eq, areBelow_iff] at hb
    have hl : l.length = n := by omega
    rw [cond_true, decide_eq_true_eq]
    constructor
    · intro h; exact ⟨hl, (perm_iff n l hl).2 ⟨hb.2, by omega⟩⟩
    · rintro ⟨_, h⟩; have := ((perm_iff n l hl).1 h).2; omega
  | false =>
    rw [cond_false]
    simp only [Bool.false_eq_true, false_iff]
    rintro ⟨hl, h⟩
    have h1 := ((perm_iff n l hl).1 h).1
    rw [decide_eq_true (show (l.length : Int) = (n : Int) by omega), Bool.true_and, (areBelow_iff _ _).2 h1] at hb
    cases hb
theorem l6Perm_iff (n : Nat) (l : List Int) : F_spec_l6Perm (n : Int) l = true ↔ l.length = n ∧ ∀ x, x < n → ((x : Nat) : Int) ∈ l := by
  unfold F_spec_l6Perm
  by_cases hl : (l.length : Int) = (n : Int)
  · rw [decide_eq_true hl, Bool.not_true, cond_false]
    rcases scan (F_spec_l6Perm_L1 (n : Int) l) n (fun x => !(F_spec_l1Has l (x : Int))) (fun _ => false) (fun m i => F_spec_l6Perm_L1_s (n : Int) l i m) (n - 0 + 1) 0 (by omega) with ⟨h1, h2⟩ | ⟨j, _, h2, h3, h4, _⟩
    · rw [Int.toNat_natCast, h1]
      simp only [elim_next, true_iff]
      refine ⟨by omega, fun x hx => ?_⟩
      have := h2 x (by omega) hx
      rw [Bool.not_eq_false'] at this
      exact has_mem.1 this
    · rw [Int.toNat_natCast, h3]
      simp only [elim_ret, Bool.false_eq_true, false_iff]
      rintro ⟨_, h⟩
      rw [Bool.not_eq_true', Bool.eq_false_iff] at h4
      exact h4 (has_mem.2 (h j h2))
  · rw [decide_eq_false hl, Bool.not_false, cond_true]
    simp only [Bool.false_eq_true, false_iff]
    rintro ⟨h, _⟩; omega
theorem order_eq (n : Nat) (l : List Int) : F_impl_isOrder (n : Int) l = F_spec_l6Perm (n : Int) l := by rw [Bool.eq_iff_iff, isOrder_iff, l6Perm_iff]
theorem isOrder_t {n : Nat} {l : List Int} (h : F_impl_isOrder (n : Int) l = true) : l.length = n ∧ ∀ i, i < l.length → 0 ≤ l.getD i 0 ∧ l.getD i 0 < n := by
  obtain ⟨h1, h2⟩ := (isOrder_iff n l).1 h
  exact ⟨h1, ((perm_iff n l h1).1 h2).1⟩
theorem l6Perm_t {n : Nat} {l : List Int} (h : F_spec_l6Perm (n : Int) l = true) : l.length = n ∧ ∀ i, i < l.length → 0 ≤ l.getD i 0 ∧ l.getD i 0 < n := isOrder_t (by rw [order_eq]; exact h)
theorem iso_L2 (m : List (List Int)) (to : List Int) (x : Nat) (hr : (m.getD x []).length = to.length) : ∀ fuel y, F_impl_IsIsometry_L2 m to x fuel y = F_spec_IsIsometry_L2 m to x fuel y := by
  intro fuel
  induction fuel with
  | zero => intro y; rfl
  | succ mf ih =>
    intro y
    rw [F_impl_IsIsometry_L2_s, F_spec_IsIsometry_L2_s, ih, hr]
    congr 2
    rw [Bool.eq_iff_iff]
    simp only [Bool.not_eq_true', decide_eq_false_iff_not]
    constructor <;> intro h <;> intro h2 <;> exact h h2.symm
theorem iso_L1 (m : List (List Int)) (to : List Int) (hl : to.length = m.length) (hr : ∀ i, i < m.length → (m.getD i []).length = m.length) : ∀ fuel x, F_impl_IsIsometry_L1 m to fuel x = F_spec_IsIsometry_L1 m to fuel x := by
  intro fuel
  induction fuel with
  | zero => intro y; rfl
  | succ mf ih =>
    intro x
    rw [F_impl_IsIsometry_L1_s, F_spec_IsIsometry_L1_s, hl]
    by_cases hx : (x : Int) < (m.length : Int)
    · have h1 := hr x (by omega)
      rw [decide_eq_true hx, cond_true, cond_true, h1, iso_L2 m to x (by omega), ih]
    · rw [decide_eq_false hx, cond_false, cond_false]
theorem isIsometry_eq (m : List (List Int)) (to : List Int) : F_impl_IsIsometry m to = F_spec_IsIsometry m to := by
  unfold F_impl_IsIsometry F_spec_IsIsometry
  rw [isMetric_eq, order_eq]
  cases hb : ((!(F_spec_l6Good m)) || (!(F_spec_l6Perm (m.length : Int) to))) with
  | true => rfl
  | false =>
    simp only [Bool.or_eq_false_iff, Bool.not_eq_false'] at hb
    have hl := (l6Perm_t hb.2).1
    rw [cond_false, cond_false, iso_L1 m to hl (l6Good_t hb.1).rows, hl]
theorem law_IsIsometry (m : List (List Int)) (to : List Int) : F_laws_FnExactIsIsometry m to = true := by
  unfold F_laws_FnExactIsIsometry
  simp only [toMetric_eq, toIntS_eq, isIsometry_eq, eqMetric_refl, eqIntS_refl]
  simp

/-! like a tree -/
theorem sort3 (a b c : Int) : (decide ((sortI [a, b, c]).getD 1 0 = (sortI [a, b, c]).getD 2 0)) = !(((decide (max b c < a)) || (decide (max a c < b))) || (decide (max a b < c))) := by
  have key : ∀ p q r : Int, p ≤ q → q ≤ r → [p, q, r].Perm [a, b, c] → (decide ((sortI [a, b, c]).getD 1 0 = (sortI [a, b, c]).getD 2 0)) = decide (q = r) := fun p q r h1 h2 hp => by
    rw [sortI_of (s := [p, q, r]) (by unfold Up; simp; omega) hp]; rfl
  have fin : ∀ p q r : Int, p ≤ q → q ≤ r → [p, q, r].Perm [a, b, c] → ((q = r) ↔ ¬ (max b c < a ∨ max a c < b ∨ max a b < c)) → (decide ((sortI [a, b, c]).getD 1 0 = (sortI [a, b, c]).getD 2 0)) = !(((decide (max b c < a)) || (decide (max a c < b))) || (decide (max a b < c))) := fun p q r h1 h2 hp hi => by
    rw [key p q r h1 h2 hp, Bool.eq_iff_iff]
    simp only [decide_eq_true_eq, Bool.not_eq_true', Bool.or_eq_false_iff, decide_eq_false_iff_not]
    rw [hi]
    constructor
    · intro h; exact ⟨⟨fun h1 => h (.inl h1), fun h1 => h (.inr (.inl h1))⟩, fun h1 => h (.inr (.inr h1))⟩
    · rintro ⟨⟨h1, h2⟩, h3⟩ (h | h | h)
      · exact h1 h
      · exact h2 h
      · exact h3 h
  by_cases h1 : a ≤ b
  · by_cases h2 : b ≤ c
    · exact fin a b c h1 h2 (List.Perm.refl _) (by omega)
    · by_cases h3 : a ≤ c
      · exact fin a c b h3 (by omega) ((List.Perm.swap b c []).cons a) (by omega)
      · exact fin c a b (by omega) h1 ((List.Perm.swap a c [b]).trans ((List.Perm.swap b c []).cons a)) (by omega)
  · by_cases h2 : a ≤ c
    · exact fin b a c (by omega) h2 (List.Perm.swap a b [c]) (by omega)
    · by_cases h3 : b ≤ c
      · exact fin b c a h3 (by omega) (((List.Perm.swap a c []).cons b).trans (List.Perm.swap a b [c])) (by omega)
      · exact fin c b a (by omega) (by omega) ((List.Perm.swap b c [a]).trans (((List.Perm.swap a c []).cons b).trans (List.Perm.swap a b [c]))) (by omega)
theorem tree_L1 (m : List (List Int)) : ∀ fuel k, F_impl_IsTreeLike_L1 m fuel k = F_spec_IsTreeLike_L1 m fuel k := by
  intro fuel
  induction fuel with
  | zero => intro y; rfl
  | succ mf ih =>
    intro k
    rw [F_impl_IsTreeLike_L1_s, F_spec_IsTreeLike_L1_s, ih, sort3]
    simp only [l1Most_eq, Bool.not_not]
theorem isTreeLike_eq (m : List (List Int)) : F_impl_IsTreeLike m = F_spec_IsTreeLike m := by
  unfold F_impl_IsTreeLike F_spec_IsTreeLike
  rw [isMetric_eq, tree_L1]
theorem law_IsTreeLike (m : List (List Int)) : F_laws_FnExactIsTreeLike m = true := by
  unfold F_laws_FnExactIsTreeLike
  simp only [toMetric_eq, isTreeLike_eq, eqMetric_refl]
  simp

/-! greedy servers -/
theorem index_lt {a : List Int} {v : Int} (h : ∃ i, i < a.length ∧ a.getD i 0 = v) : 0 ≤ F_slices_Index_Sint_int a v ∧ F_slices_Index_Sint_int a v < a.length := by
  rcases index_spec a v with ⟨_, h2⟩ | ⟨i, h1, h2, _⟩
  · obtain ⟨i, hi, he⟩ := h; exact absurd he (h2 i hi)
  · omega
theorem moved_eq {a : List Int} {k : Nat} (hk : k < a.length) (r : Int) : F_impl_moved a (a.getD k 0) r = sortI (a.set k r) := by
  unfold F_impl_moved
  rcases index_spec a (a.getD k 0) with ⟨_, h2⟩ | ⟨i, h1, h2, h3, _⟩
  · exact absurd rfl (h2 k hk)
  · rw [h2, Int.toNat_natCast]
    exact sortI_congr (set_perm h1 hk h3 r)
theorem cf_moved {n : Nat} {a : List Int} (h : Cf n a) {k : Nat} {r : Int} (h0 : 0 ≤ r) (hr : r < n) : Cf n (sortI (a.set k r)) ∧ (sortI (a.set k r)).length = a.length := by
  have hl : (sortI (a.set k r)).length = a.length := by rw [sortI_length, List.length_set]
  have h1 := h.n1; have h3 := h.n3
  refine ⟨⟨by omega, by omega, fun i hi => ?_, up_getD.1 (sortI_up _)⟩, hl⟩
  have hm := (sortI_perm (a.set k r)).mem_iff.1 (getD_mem (sortI (a.set k r)) i 0 hi)
  rcases List.mem_or_eq_of_mem_set hm with hm | hm
  · obtain ⟨j, hj, he⟩ := mem_getD.1 hm
    rw [← he]; exact h.el j hj
  · rw [hm]; exact ⟨h0, hr⟩
theorem near_L1 (m : List (List Int)) (reqs a : List Int) (q : Nat) : ∀ fuel i b, F_impl_GreedyServers_L2 m reqs a q fuel (a.getD b 0, i) = (match F_spec_l6Nearest_L1 m a (reqs.getD q 0) fuel (b, i) with | .next (b', i') => .next (a.getD b' 0, i') | .ret _ => .next (0, 0)) ∧
    (∀ r, F_spec_l6Nearest_L1 m a (reqs.getD q 0) fuel (b, i) ≠ .ret r) ∧ (∀ b' i', b < a.length → F_spec_l6Nearest_L1 m a (reqs.getD q 0) fuel (b, i) = .next (b', i') → b' < a.length) := by
  intro fuel
  induction fuel with
  | zero => intro i b; exact ⟨rfl, (fun r h => by cases h), (fun b' i' hb h => by injection h with h; injection h with h1 h2; omega)⟩
  | succ mf ih =>
    intro i b
    rw [F_impl_GreedyServers_L2_s, F_spec_l6Nearest_L1_s]
    by_cases hi : (i : Int) < (a.length : Int)
    · rw [decide_eq_true hi, cond_true, cond_true]
      cases hd : decide (((m.getD (((a.getD i 0)).toNat) []).getD (((reqs.getD q 0)).toNat) 0) < ((m.getD (((a.getD b 0)).toNat) []).getD (((reqs.getD q 0)).toNat) 0)) with
      | true =>
        rw [cond_true, cond_true]
        obtain ⟨h1, h2, h3⟩ := ih (i + 1) i
        exact ⟨h1, h2, fun b' i' _ => h3 b' i' (by omega)⟩
      | false =>
        rw [cond_false, cond_false]
        exact ih (i + 1) b
    · rw [decide_eq_false hi, cond_false, cond_false]
      exact ⟨rfl, (fun r h => by cases h), (fun b' i' hb h => by injection h with h; injection h with h1 h2; omega)⟩
theorem nearest_both (m : List (List Int)) (reqs a : List Int) (q : Nat) (ha : 1 ≤ a.length) : ∃ b i', b < a.length ∧ F_spec_l6Nearest m a (reqs.getD q 0) = (b : Int) ∧ F_impl_GreedyServers_L2 m reqs a q (a.length - 0 + 1) (a.getD 0 0, 0) = .next (a.getD b 0, i') := by
  unfold F_spec_l6Nearest
  have hs : F_impl_GreedyServers_L2 m reqs a q (a.length - 0 + 1) (a.getD 0 0, 0) = F_impl_GreedyServers_L2 m reqs a q (a.length - 1 + 1) (a.getD 0 0, 1) := by
    rw [show a.length - 0 + 1 = (a.length - 1 + 1) + 1 by omega, F_impl_GreedyServers_L2_s, decide_eq_true (show ((0 : Nat) : Int) < (a.length : Int) by omega), cond_true, decide_eq_false (by omega), cond_false]
  obtain ⟨h1, h2, h3⟩ := near_L1 m reqs a q (a.length - 1 + 1) 1 0
  rw [hs, h1]
  cases hn : F_spec_l6Nearest_L1 m a (reqs.getD q 0) (a.length - 1 + 1) (0, 1) with
  | ret r => exact absurd hn (h2 r)
  | next s =>
    obtain ⟨b, i'⟩ := s
    exact ⟨b, i', h3 b i' (by omega) hn, rfl, rfl⟩
theorem greedy_L1 {m : List (List Int)} {reqs : List Int} (hr : ∀ i, i < reqs.length → 0 ≤ reqs.getD i 0 ∧ reqs.getD i 0 < m.length) : ∀ fuel i a out sum, Cf m.length a →
    (F_impl_GreedyServers_L1 m reqs fuel (out, sum, a, i)).elim (fun s => (s.1, s.2.1, true)) (fun r => r) = (F_spec_GreedyServers_L1 m reqs fuel (out, sum, a, i)).elim (fun s => (s.1, s.2.1, true)) (fun r => r) := by
  intro fuel
  induction fuel with
  | zero => intro i a out sum _; rfl
  | succ mf ih =>
    intro i a out sum ha
    rw [F_impl_GreedyServers_L1_s, F_spec_GreedyServers_L1_s]
    by_cases hi : (i : Int) < (reqs.length : Int)
    · obtain ⟨b, i', h1, h2, h3⟩ := nearest_both m reqs a i ha.n1
      obtain ⟨h4, h5⟩ := hr i (by omega)
      rw [decide_eq_true hi, cond_true, cond_true, h2, h3, Int.toNat_natCast, l6Sort_eq]
      simp only [elim_next]
      rw [moved_eq h1]
      exact ih (i + 1) _ _ _ (cf_moved ha h4 h5).1
    · rw [decide_eq_false hi, cond_false, cond_false]
theorem greedy_eq (m : List (List Int)) (start reqs : List Int) : F_impl_GreedyServers m start reqs = F_spec_GreedyServers m start reqs := by
  unfold F_impl_GreedyServers F_spec_GreedyServers
  rw [served_eq]
  cases hb : F_spec_l6Start m start reqs with
  | false => rfl
  | true =>
    have hs := l6Start_t hb
    simp only [Bool.not_true, cond_false]
    exact greedy_L1 hs.el _ 0 start [] 0 hs.cf
theorem greedy_tot {m : List (List Int)} {reqs : List Int} (hr : ∀ i, i < reqs.length → 0 ≤ reqs.getD i 0 ∧ reqs.getD i 0 < m.length) : ∀ fuel i a out sum, Cf m.length a → (∀ r ∈ out, r.length ≤ 3) → out.length ≤ i → reqs.length - i < fuel →
    ∃ s, F_spec_GreedyServers_L1 m reqs fuel (out, sum, a, i) = .next s ∧ (∀ r ∈ s.1, r.length ≤ 3) ∧ s.1.length ≤ max i reqs.length := by
  intro fuel
  induction fuel with
  | zero => intro i a out sum _ _ _ h; omega
  | succ mf ih =>
    intro i a out sum ha ho hl h
    rw [F_spec_GreedyServers_L1_s]
    by_cases hi : (i : Int) < (reqs.length : Int)
    · obtain ⟨b, i', h1, h2, h3⟩ := nearest_both m reqs a i ha.n1
      obtain ⟨h4, h5⟩ := hr i (by omega)
      have hc := cf_moved ha (k := b) h4 h5
      rw [decide_eq_true hi, cond_true, h2, Int.toNat_natCast, l6Sort_eq]
      obtain ⟨s, g1, g2, g3⟩ := ih (i + 1) (sortI (a.set b (reqs.getD i 0))) (out ++ [sortI (a.set b (reqs.getD i 0))]) (sum + ((m.getD (a.getD b 0).toNat []).getD (reqs.getD i 0).toNat 0)) hc.1 (push_all ho hc.1.n3) (by simp; omega) (by omega)
      exact ⟨s, g1, g2, by omega⟩
    · rw [decide_eq_false hi, cond_false]
      exact ⟨_, rfl, ho, by show out.length ≤ _; omega⟩
theorem greedy_total (m : List (List Int)) (start reqs : List Int) : total (F_impl_GreedyServers m start reqs).1 ≤ 180 := by
  rw [greedy_eq]
  unfold F_spec_GreedyServers
  cases hb : F_spec_l6Start m start reqs with
  | false => simp [total]
  | true =>
    have hs := l6Start_t hb
    simp only [Bool.not_true, cond_false]
    obtain ⟨⟨s1, s2, s3, s4⟩, h1, h2, h3⟩ := greedy_tot hs.el (reqs.length - 0 + 1) 0 start [] 0 hs.cf (fun r hr => by cases hr) (by simp) (by omega)
    rw [h1]
    have := total_le 3 s1 h2
    have := hs.r60
    simp only [elim_next] at h3 ⊢
    omega
theorem law_GreedyServers (m : List (List Int)) (start reqs : List Int) : F_laws_FnExactGreedyServers m start reqs = true := by
  unfold F_laws_FnExactGreedyServers
  simp only [toMetric_eq, toIntS_eq, greedy_eq, eqMetric_refl, eqIntS_refl, eqIntSS_refl, markIntS_eq, markMetric_eq, heldIntSS_marked _ 1 (by omega)]
  simp only [markIntSS_eq]
  have h1 : ¬ ((1 : Int) + (total m : Int) + (start.length : Int) + (reqs.length : Int) < 0) := by omega
  have h2 : ¬ ((1 : Int) + (total (F_spec_GreedyServers m start reqs).1 : Int) < 0) := by omega
  simp [h1, h2]
/-! what the walks ask -/
theorem nearest_lt {m : List (List Int)} {reqs a : List Int} {q : Nat} (ha : 1 ≤ a.length) : 0 ≤ F_spec_l6Nearest m a (reqs.getD q 0) ∧ F_spec_l6Nearest m a (reqs.getD q 0) < a.length := by
  obtain ⟨b, i', h1, h2, _⟩ := nearest_both m reqs a q ha
  omega
theorem cf_l6Sort {n : Nat} {a : List Int} (h : Cf n a) {k : Nat} {r : Int} (h0 : 0 ≤ r) (hr : r < n) : Cf n (F_spec_l6Sort (a.set k r)) := by
  rw [l6Sort_eq]; exact (cf_moved h h0 hr).1
theorem cf_impl_moved {n : Nat} {a : List Int} (h : Cf n a) {v r : Int} (hv : ∃ i, i < a.length ∧ a.getD i 0 = v) (h0 : 0 ≤ r) (hr : r < n) : Cf n (F_impl_moved a v r) := by
  obtain ⟨i, hi, rfl⟩ := hv
  rw [moved_eq hi]; exact (cf_moved h h0 hr).1
theorem ord_n {n : Nat} (h : n ≤ 6) : ((n : Int) * n) * n * n = ((n * n * n * n : Nat) : Int) ∧ n * n * n * n ≤ 1296 := by
  refine ⟨by simp, ?_⟩
  have h1 : n * n ≤ 6 * 6 := Nat.mul_le_mul h h
  have h2 : n * n * n ≤ 36 * 6 := Nat.mul_le_mul h1 h
  exact Nat.mul_le_mul h2 h
theorem dig_lt {n k : Nat} (hn : 0 < n) (h : k < n * n * n * n) : k % n < n ∧ k / n % n < n ∧ k / n / n % n < n ∧ k / n / n / n < n := by
  refine ⟨Nat.mod_lt _ hn, Nat.mod_lt _ hn, Nat.mod_lt _ hn, ?_⟩
  rw [Nat.div_div_eq_div_mul, Nat.div_div_eq_div_mul]
  exact Nat.div_lt_of_lt_mul (by rw [Nat.mul_comm n n] at *; simpa [Nat.mul_assoc] using h)
theorem ord_le (n : Nat) (h : n ≤ 6) : (((n : Int) * n ≤ 36 ∧ 0 ≤ (n : Int) * n) ∧ ((n : Int) * n * n ≤ 216 ∧ 0 ≤ (n : Int) * n * n)) ∧ ((n : Int) * n * n * n ≤ 1296 ∧ 0 ≤ (n : Int) * n * n * n) := by
  match n, h with
  | 0, _ => decide
  | 1, _ => decide
  | 2, _ => decide
  | 3, _ => decide
  | 4, _ => decide
  | 5, _ => decide
  | 6, _ => decide
theorem divb (a n : Nat) : 0 ≤ (a : Int) / (n : Int) ∧ (a : Int) / (n : Int) ≤ a := by
  have h := Nat.div_le_self a n
  rw [← Int.natCast_ediv]
  exact ⟨Int.natCast_nonneg _, Int.ofNat_le.2 h⟩
theorem divb2 (a n : Nat) : 0 ≤ (a : Int) / (n : Int) / (n : Int) ∧ (a : Int) / (n : Int) / (n : Int) ≤ a := by
  have h := divb (a / n) n
  have h2 := divb a n
  rw [Int.natCast_ediv] at h
  exact ⟨h.1, Int.le_trans h.2 h2.2⟩
theorem divb3 (a n : Nat) : 0 ≤ (a : Int) / (n : Int) / (n : Int) / (n : Int) ∧ (a : Int) / (n : Int) / (n : Int) / (n : Int) ≤ a := by
  have h := divb2 (a / n) n
  have h2 := divb a n
  rw [Int.natCast_ediv] at h
  exact ⟨h.1, Int.le_trans h.2 h2.2⟩
end Go.Proofs.Ytcfjjnajeccbhaa
