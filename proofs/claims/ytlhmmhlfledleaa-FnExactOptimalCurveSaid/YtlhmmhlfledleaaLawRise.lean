/-
  Plain laws on sorting and on lists without repetitions, for seats without the ways of metrics. No condition.
-/
import Derived.Test.YtlhmmhlfledleaaDefP
import Derived.Test.YtlhmmhlfledleaaLawMatch
namespace Go.Proofs.Ytlhmmhlfledleaa
open Go


/-! sorting -/
def Up (l : List Int) : Prop := l.Pairwise (· ≤ ·)
theorem sortI_perm (l : List Int) : (sortI l).Perm l := List.mergeSort_perm l _
theorem sortI_up (l : List Int) : Up (sortI l) := by
  have := List.pairwise_mergeSort (le := fun (x y : Int) => decide (x ≤ y)) (fun a b c h1 h2 => by simp at *; omega) (fun a b => by simp; omega) l
  exact this.imp (fun h => by simpa using h)
theorem up_unique {a b : List Int} (ha : Up a) (hb : Up b) (h : a.Perm b) : a = b := List.Perm.eq_of_pairwise (fun x y _ _ h1 h2 => by omega) ha hb h
theorem sortI_of {l s : List Int} (hs : Up s) (h : s.Perm l) : sortI l = s := up_unique (sortI_up l) hs ((sortI_perm l).trans h.symm)
theorem sortI_congr {a b : List Int} (h : a.Perm b) : sortI a = sortI b := up_unique (sortI_up a) (sortI_up b) ((sortI_perm a).trans (h.trans (sortI_perm b).symm))
theorem sortI_length (l : List Int) : (sortI l).length = l.length := (sortI_perm l).length_eq
theorem up_getD {l : List Int} : Up l ↔ ∀ i, i + 1 < l.length → l.getD i 0 ≤ l.getD (i + 1) 0 := by
  constructor
  · intro h i hi
    have := List.pairwise_iff_getElem.1 h i (i + 1) (by omega) hi (by omega)
    rw [getD_lt l i 0 (by omega), getD_lt l (i + 1) 0 hi]; exact this
  · intro h
    refine List.pairwise_iff_getElem.2 fun i j hi hj hij => ?_
    have := sorted_le h (j - i) i (by omega)
    rw [show i + (j - i) = j by omega, getD_lt l i 0 hi, getD_lt l j 0 hj] at this
    exact this
theorem mem_getD {l : List Int} {v : Int} : v ∈ l ↔ ∃ i, i < l.length ∧ l.getD i 0 = v := by
  constructor
  · intro h
    obtain ⟨i, hi, rfl⟩ := List.getElem_of_mem h
    exact ⟨i, hi, getD_lt l i 0 hi⟩
  · rintro ⟨i, hi, rfl⟩; exact getD_mem l i 0 hi
def Rise (l : List Int) : Prop := l.Pairwise (· < ·)
theorem rise_nodup {l : List Int} (h : Rise l) : l.Nodup := h.imp (fun h => by omega)
theorem rise_unique {a b : List Int} (ha : Rise a) (hb : Rise b) (h : ∀ v, v ∈ a ↔ v ∈ b) : a = b := by
  refine List.Perm.eq_of_pairwise (le := (· < ·)) (fun x y _ _ h1 h2 => by omega) ha hb ?_
  exact (List.perm_ext_iff_of_nodup (rise_nodup ha) (rise_nodup hb)).2 h
theorem compactUpTo_rise (d : Array Int) (hu : ∀ i, i + 1 < d.size → d[i]! ≤ d[i + 1]!) : ∀ m, m ≤ d.size → Rise (Lib.compactUpTo d m) ∧ ∀ v, v ∈ Lib.compactUpTo d m ↔ ∃ j, j < m ∧ d[j]! = v
  | 0, _ => ⟨by simp [Lib.compactUpTo, Rise], fun v => by simp [Lib.compactUpTo]⟩
  | m + 1, hm => by
    obtain ⟨h1, h2⟩ := compactUpTo_rise d hu m (by omega)
    have hle : ∀ n j, j + n < d.size → d[j]! ≤ d[j + n]! := by
      intro n
      induction n with
      | zero => intro j _; simp
      | succ n ih => intro j hj; have a1 := ih j (by omega); have a2 := hu (j + n) (by omega); rw [show j + (n + 1) = j + n + 1 by omega]; omega
    rw [Lib.compactUpTo_succ]
    cases hk : Lib.keeps d m with
    | true =>
      simp only [if_true]
      simp only [Lib.keeps, decide_eq_true_eq] at hk
      refine ⟨?_, fun v => ?_⟩
      · unfold Rise
        rw [List.pairwise_append]
        refine ⟨h1, by simp, fun a ha b hb => ?_⟩
        rw [List.mem_singleton.1 hb]
        obtain ⟨j, hj, rfl⟩ := (h2 a).1 ha
        rcases hk with hk | hk
        · omega
        · have a1 := hle (m - 1 - j) j (by omega)
          have a2 := hu (m - 1) (by omega)
          rw [show j + (m - 1 - j) = m - 1 by omega] at a1
          rw [show m - 1 + 1 = m by omega] at a2
          omega
      · rw [List.mem_append, h2, List.mem_singleton]
        constructor
        · rintro (⟨j, hj, e⟩ | rfl)
          · exact ⟨j, by omega, e⟩
          · exact ⟨m, by omega, rfl⟩
        · rintro ⟨j, hj, e⟩
          rcases Nat.lt_or_eq_of_le (Nat.le_of_lt_succ hj) with h | h
          · exact .inl ⟨j, h, e⟩
          · subst h; exact .inr e.symm
    | false =>
      simp only [Bool.false_eq_true, if_false, List.append_nil]
      have hk' : ¬ (m = 0 ∨ d[m]! ≠ d[m - 1]!) := by
        intro hh
        rw [show Lib.keeps d m = decide (m = 0 ∨ d[m]! ≠ d[m - 1]!) from rfl, decide_eq_true hh] at hk
        cases hk
      refine ⟨h1, fun v => ?_⟩
      rw [h2]
      constructor
      · rintro ⟨j, hj, e⟩; exact ⟨j, by omega, e⟩
      · rintro ⟨j, hj, e⟩
        rcases Nat.lt_or_eq_of_le (Nat.le_of_lt_succ hj) with h | h
        · exact ⟨j, h, e⟩
        · subst h
          refine ⟨j - 1, by omega, ?_⟩
          rw [← e]
          exact (Classical.byContradiction fun hh => hk' (.inr (fun e2 => hh e2.symm)))
theorem compact_rise {s : List Int} (hu : Up s) : Rise (Lib.compact s) ∧ ∀ v, v ∈ Lib.compact s ↔ v ∈ s := by
  have hg : ∀ i, i < s.length → s.toArray[i]! = s.getD i 0 := fun i hi => by
    rw [getD_lt s i 0 hi]; simp [hi]
  obtain ⟨h1, h2⟩ := compactUpTo_rise s.toArray (fun i hi => by
    have hi' : i + 1 < s.length := by simpa using hi
    rw [hg i (by omega), hg (i + 1) hi']; exact up_getD.1 hu i hi') s.length (by simp)
  refine ⟨h1, fun v => (h2 v).trans ?_⟩
  rw [mem_getD]
  constructor
  · rintro ⟨j, hj, e⟩; exact ⟨j, hj, by rw [← hg j hj]; exact e⟩
  · rintro ⟨j, hj, e⟩; exact ⟨j, hj, by rw [hg j hj]; exact e⟩
theorem rising_spec (l : List Int) : Rise (F_impl_rising l) ∧ ∀ v, v ∈ F_impl_rising l ↔ v ∈ l := by
  unfold F_impl_rising
  obtain ⟨h1, h2⟩ := compact_rise (sortI_up l)
  exact ⟨h1, fun v => (h2 v).trans (sortI_perm l).mem_iff⟩
theorem rising_len (l : List Int) : (F_impl_rising l).length ≤ l.length := by
  have := Lib.compact_length_le (sortI l)
  unfold F_impl_rising
  rw [sortI_length] at this; exact this
theorem index_lt {a : List Int} {v : Int} (h : ∃ i, i < a.length ∧ a.getD i 0 = v) : 0 ≤ F_slices_Index_Sint_int a v ∧ F_slices_Index_Sint_int a v < a.length := by
  rcases index_spec a v with ⟨_, h2⟩ | ⟨i, h1, h2, _⟩
  · obtain ⟨i, hi, he⟩ := h; exact absurd he (h2 i hi)
  · omega
end Go.Proofs.Ytlhmmhlfledleaa
