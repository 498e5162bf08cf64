/-
  Plain laws on marking rows and asking for the marks. No condition.
-/
import Derived.Test.YtlhmmhlfledleaaDefA
import Derived.Test.YtlhmmhlfledleaaPlain
namespace Go.Proofs.Ytlhmmhlfledleaa

/-- k, k + 1, .. -/
def iota (k : Int) : Nat → List Int
  | 0 => []
  | n + 1 => k :: iota (k + 1) n
theorem iota_length (n : Nat) : ∀ k, (iota k n).length = n := by
  induction n with
  | zero => intro k; rfl
  | succ n ih => intro k; simp [iota, ih]
theorem iota_getD (n : Nat) : ∀ (k : Int) (i : Nat), i < n → (iota k n).getD i 0 = k + i := by
  induction n with
  | zero => intro k i h; omega
  | succ n ih =>
    intro k i h
    cases i with
    | zero => simp [iota]
    | succ i =>
      have := ih (k + 1) i (by omega)
      simp only [iota, List.getD_cons_succ, this]; omega
theorem mark_L1 : ∀ (fuel : Nat) (k : Int) (i : Nat) (a : List Int), a.length - i < fuel → i ≤ a.length →
    F_laws_markIntS_L1 fuel (k, i, a) = .next (k + (a.length - i : Nat), a.length, a.take i ++ iota k (a.length - i)) := by
  intro fuel
  induction fuel with
  | zero => intro k i a h; omega
  | succ m ih =>
    intro k i a h hi
    rw [F_laws_markIntS_L1_s]
    by_cases hlt : i < a.length
    · rw [decide_eq_true (by omega), cond_true, ih (k + 1) (i + 1) (a.set i k) (by simp; omega) (by simp; omega)]
      have h1 : a.length - i = (a.length - (i + 1)) + 1 := by omega
      simp only [List.length_set]
      congr 1
      refine Prod.ext (by show k + 1 + _ = k + _; omega) (Prod.ext rfl ?_)
      show (a.set i k).take (i + 1) ++ iota (k + 1) (a.length - (i + 1)) = a.take i ++ iota k (a.length - i)
      rw [h1, iota, List.take_succ_eq_append_getElem (by simpa using hlt), List.take_set_of_le (Nat.le_refl _)]
      simp
    · rw [decide_eq_false (by omega), cond_false]
      have h1 : i = a.length := by omega
      subst h1
      simp [iota]
theorem markIntS_eq (a : List Int) (k : Int) : F_laws_markIntS a k = (k + a.length, iota k a.length) := by
  unfold F_laws_markIntS
  rw [mark_L1 _ k 0 a (by omega) (by omega)]
  simp [Ctl.elim]
theorem markIntS_fst (a : List Int) (k : Int) : (F_laws_markIntS a k).1 = k + a.length := by rw [markIntS_eq]
theorem held_L1 (a : List Int) (k0 : Int) : ∀ (fuel : Nat) (i : Nat), (∀ j, i ≤ j → j < a.length → a.getD j 0 = k0 + j) → a.length - i < fuel → i ≤ a.length →
    F_laws_heldIntS_L1 a fuel (k0 + i, i) = .next (k0 + a.length, a.length) := by
  intro fuel
  induction fuel with
  | zero => intro i _ h; omega
  | succ m ih =>
    intro i hj h hi
    rw [F_laws_heldIntS_L1_s]
    by_cases hlt : i < a.length
    · rw [decide_eq_true (by omega), cond_true, hj i (by omega) hlt]
      simp only [decide_true, Bool.not_true, cond_false]
      have := ih (i + 1) (fun j h1 h2 => hj j (by omega) h2) (by omega) (by omega)
      rw [← this]
      congr 2; omega
    · rw [decide_eq_false (by omega), cond_false]
      have h1 : i = a.length := by omega
      subst h1; rfl
theorem heldIntS_iota (k : Int) (n : Nat) : F_laws_heldIntS (iota k n) k = k + n := by
  unfold F_laws_heldIntS
  have h := held_L1 (iota k n) k ((iota k n).length - 0 + 1) 0 (fun j _ hj => by rw [iota_length] at hj; exact iota_getD n k j hj) (by omega) (by omega)
  rw [show k + ((0 : Nat) : Int) = k by omega] at h
  rw [h]
  simp [Ctl.elim, iota_length]
theorem held_L1_le (a : List Int) : ∀ (fuel : Nat) (k : Int) (i : Nat), a.length - i < fuel →
    (F_laws_heldIntS_L1 a fuel (k, i) = .ret (-1)) ∨ (∃ i', F_laws_heldIntS_L1 a fuel (k, i) = .next (k + (a.length - i : Nat), i')) := by
  intro fuel
  induction fuel with
  | zero => intro k i h; omega
  | succ m ih =>
    intro k i h
    rw [F_laws_heldIntS_L1_s]
    by_cases hlt : i < a.length
    · rw [decide_eq_true (by omega), cond_true]
      by_cases h2 : a.getD i 0 = k
      · simp only [h2, decide_true, Bool.not_true, cond_false]
        rcases ih (k + 1) (i + 1) (by omega) with h3 | ⟨i', h3⟩
        · exact .inl h3
        · refine .inr ⟨i', ?_⟩
          rw [h3]; congr 2; omega
      · rw [decide_eq_false h2]
        exact .inl rfl
    · rw [decide_eq_false (by omega), cond_false]
      refine .inr ⟨i, ?_⟩
      have : a.length - i = 0 := by omega
      rw [this]; simp
theorem heldIntS_le (a : List Int) (k : Int) : F_laws_heldIntS a k = -1 ∨ F_laws_heldIntS a k = k + a.length := by
  unfold F_laws_heldIntS
  rcases held_L1_le a (a.length - 0 + 1) k 0 (by omega) with h | ⟨i, h⟩
  · rw [h]; exact .inl rfl
  · rw [h]; exact .inr (by simp [Ctl.elim])
/-- Rows of marks. -/
def marked (k : Int) : List (List Int) → List (List Int)
  | [] => []
  | r :: rs => iota k r.length :: marked (k + r.length) rs
theorem marked_length : ∀ (a : List (List Int)) (k : Int), (marked k a).length = a.length
  | [], _ => rfl
  | r :: rs, k => by simp [marked, marked_length rs]
theorem total_marked : ∀ (a : List (List Int)) (k : Int), total (marked k a) = total a
  | [], _ => rfl
  | r :: rs, k => by
    have := total_marked rs (k + r.length)
    simp only [total, marked, List.map_cons, List.sum_cons, iota_length] at *
    omega
theorem markSS_L1 : ∀ (fuel : Nat) (k : Int) (i : Nat) (a : List (List Int)), a.length - i < fuel → i ≤ a.length →
    F_laws_markIntSS_L1 fuel (k, i, a) = .next (k + totalFrom a i, a.length, a.take i ++ marked k (a.drop i)) := by
  intro fuel
  induction fuel with
  | zero => intro k i a h; omega
  | succ m ih =>
    intro k i a h hi
    rw [F_laws_markIntSS_L1_s]
    by_cases hlt : i < a.length
    · rw [decide_eq_true (by omega), cond_true, markIntS_eq]
      rw [ih _ (i + 1) _ (by simp; omega) (by simp; omega)]
      have hd : a.drop i = a[i] :: a.drop (i + 1) := List.drop_eq_getElem_cons hlt
      have hg : a.getD i [] = a[i] := getD_lt a i [] hlt
      have ht : (a.set i (iota k (a.getD i []).length)).drop (i + 1) = a.drop (i + 1) := List.drop_set_of_lt (by omega)
      have ht2 : totalFrom (a.set i (iota k (a.getD i []).length)) (i + 1) = totalFrom a (i + 1) := by unfold totalFrom; rw [ht]
      have hs := totalFrom_step a i
      simp only [List.length_set]
      congr 1
      refine Prod.ext (by show k + _ + _ = k + _; rw [ht2]; omega) (Prod.ext rfl ?_)
      show (a.set i (iota k (a.getD i []).length)).take (i + 1) ++ marked (k + (a.getD i []).length) ((a.set i (iota k (a.getD i []).length)).drop (i + 1)) = a.take i ++ marked k (a.drop i)
      rw [ht, hd, marked, hg, List.take_succ_eq_append_getElem (by simpa using hlt), List.take_set_of_le (Nat.le_refl _)]
      simp
    · rw [decide_eq_false (by omega), cond_false]
      have h1 : i = a.length := by omega
      subst h1
      simp [totalFrom, total, marked]
theorem markIntSS_eq (a : List (List Int)) (k : Int) : F_laws_markIntSS a k = (k + total a, marked k a) := by
  unfold F_laws_markIntSS
  rw [markSS_L1 _ k 0 a (by omega) (by omega)]
  simp [Ctl.elim, totalFrom_zero]
theorem markIntSS_total (a : List (List Int)) (k : Int) : total (F_laws_markIntSS a k).2 = total a := by rw [markIntSS_eq, total_marked]
theorem heldSS_L1 (a : List (List Int)) : ∀ (fuel : Nat) (k : Int) (i : Nat), 0 ≤ k → (marked k (a.drop i) = a.drop i) → a.length - i < fuel →
    F_laws_heldIntSS_L1 a fuel (k, i) = .next (k + totalFrom a i, max i a.length) := by
  intro fuel
  induction fuel with
  | zero => intro k i _ _ h; omega
  | succ m ih =>
    intro k i hk hm h
    rw [F_laws_heldIntSS_L1_s]
    by_cases hlt : i < a.length
    · rw [decide_eq_true (by omega), cond_true]
      have hd : a.drop i = a[i] :: a.drop (i + 1) := List.drop_eq_getElem_cons hlt
      have hg : a.getD i [] = a[i] := getD_lt a i [] hlt
      rw [hd, marked] at hm
      have h1 : iota k a[i].length = a[i] := (List.cons.inj hm).1
      have h2 := (List.cons.inj hm).2
      have h3 : F_laws_heldIntS (a.getD i []) k = k + a[i].length := by
        rw [hg]; have := heldIntS_iota k a[i].length; rw [h1] at this; exact this
      rw [h3, decide_eq_false (by omega), cond_false, ih (k + a[i].length) (i + 1) (by omega) h2 (by omega)]
      have hs := totalFrom_step a i
      rw [hg] at hs
      congr 1
      exact Prod.ext (by show k + _ + _ = k + _; omega) (by show max (i + 1) _ = max i _; omega)
    · rw [decide_eq_false (by omega), cond_false]
      congr 1
      refine Prod.ext ?_ (by show i = max i _; omega)
      show k = k + totalFrom a i
      unfold totalFrom; rw [List.drop_eq_nil_of_le (by omega)]; simp [total]
theorem marked_marked : ∀ (a : List (List Int)) (k : Int), marked k (marked k a) = marked k a
  | [], _ => rfl
  | r :: rs, k => by simp only [marked, iota_length, marked_marked rs]
theorem heldIntSS_marked (a : List (List Int)) (k : Int) (hk : 0 ≤ k) : F_laws_heldIntSS (F_laws_markIntSS a k).2 k = (F_laws_markIntSS a k).1 := by
  rw [markIntSS_eq]
  show F_laws_heldIntSS (marked k a) k = k + total a
  unfold F_laws_heldIntSS
  rw [heldSS_L1 _ _ k 0 hk (marked_marked a k) (by omega)]
  simp [Ctl.elim, totalFrom_zero, total_marked]
/-- Two lists are alike. -/
theorem eqS_L1 (a : List Int) : ∀ (fuel i : Nat), F_laws_eqIntS_L1 a a fuel i = .next i ∨ ∃ i', F_laws_eqIntS_L1 a a fuel i = .next i' := by
  intro fuel
  induction fuel with
  | zero => intro i; exact .inl rfl
  | succ m ih =>
    intro i
    right
    rw [F_laws_eqIntS_L1_s]
    by_cases hlt : (i : Int) < (a.length : Int)
    · rw [decide_eq_true hlt, cond_true, decide_eq_true rfl]
      rcases ih (i + 1) with h | ⟨i', h⟩
      · exact ⟨_, h⟩
      · exact ⟨_, h⟩
    · rw [decide_eq_false hlt]; exact ⟨i, rfl⟩
theorem eqIntS_refl (a : List Int) : F_laws_eqIntS a a = true := by
  unfold F_laws_eqIntS
  rw [decide_eq_true rfl]
  rcases eqS_L1 a (a.length - 0 + 1) 0 with h | ⟨i', h⟩ <;> rw [h] <;> rfl
theorem eqSS_L1 (a : List (List Int)) : ∀ (fuel i : Nat), ∃ i', F_laws_eqIntSS_L1 a a fuel i = .next i' := by
  intro fuel
  induction fuel with
  | zero => intro i; exact ⟨i, rfl⟩
  | succ m ih =>
    intro i
    rw [F_laws_eqIntSS_L1_s]
    by_cases hlt : (i : Int) < (a.length : Int)
    · rw [decide_eq_true hlt, cond_true, eqIntS_refl]; exact ih (i + 1)
    · rw [decide_eq_false hlt]; exact ⟨i, rfl⟩
theorem eqIntSS_refl (a : List (List Int)) : F_laws_eqIntSS a a = true := by
  unfold F_laws_eqIntSS
  rw [decide_eq_true rfl]
  obtain ⟨i', h⟩ := eqSS_L1 a (a.length - 0 + 1) 0
  rw [h]; rfl
end Go.Proofs.Ytlhmmhlfledleaa
