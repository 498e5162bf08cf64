/-
  Plain laws on lists and numbers. No condition.
-/
import Derived.Test.YtcmhgkcifejgcaaMore
namespace Go.Proofs.Ytcmhgkcifejgcaa

def total (a : List (List Int)) : Nat := (a.map List.length).sum
def totalFrom (a : List (List Int)) (i : Nat) : Nat := total (a.drop i)
theorem totalFrom_zero (a : List (List Int)) : totalFrom a 0 = total a := rfl
theorem totalFrom_step (a : List (List Int)) (i : Nat) : totalFrom a i = (a.getD i []).length + totalFrom a (i + 1) := by
  unfold totalFrom total
  by_cases h : i < a.length
  · rw [List.drop_eq_getElem_cons h, List.map_cons, List.sum_cons]; simp only [List.getD_eq_getElem?_getD, List.getElem?_eq_getElem h, Option.getD_some]
  · rw [List.drop_eq_nil_of_le (by omega), List.drop_eq_nil_of_le (by omega)]
    simp [show a.length ≤ i by omega]
theorem getD_set_ne {α : Type} (l : List α) (i j : Nat) (x d : α) (h : i ≠ j) : (l.set i x).getD j d = l.getD j d := by
  simp [List.getD, h]
theorem getD_set_eq {α : Type} (l : List α) (i : Nat) (x d : α) (h : i < l.length) : (l.set i x).getD i d = x := by
  simp [List.getD, h]
theorem getD_lt {α : Type} (l : List α) (i : Nat) (d : α) (h : i < l.length) : l.getD i d = l[i] := by simp [List.getD, h]
theorem getD_ge {α : Type} (l : List α) (i : Nat) (d : α) (h : l.length ≤ i) : l.getD i d = d := by simp [List.getD, List.getElem?_eq_none h]
theorem getD_mem {α : Type} (l : List α) (i : Nat) (d : α) (h : i < l.length) : l.getD i d ∈ l := by rw [getD_lt l i d h]; exact List.getElem_mem h

/-- Rows of i numbers of at least 0. -/
def Cfg (i : Nat) (now : List (List Int)) : Prop := ∀ r ∈ now, r.length = i ∧ ∀ q ∈ r, 0 ≤ q
theorem Cfg.len {i : Nat} {now : List (List Int)} (h : Cfg i now) {j : Nat} (hj : j < now.length) : (now.getD j []).length = i := (h _ (getD_mem now j [] hj)).1
theorem Cfg.pos {i : Nat} {now : List (List Int)} (h : Cfg i now) (j t : Nat) : 0 ≤ (now.getD j []).getD t 0 := by
  by_cases hj : j < now.length
  · by_cases ht : t < (now.getD j []).length
    · exact (h _ (getD_mem now j [] hj)).2 _ (getD_mem _ t 0 ht)
    · rw [getD_ge _ _ _ (by omega)]; omega
  · rw [getD_ge now j [] (by omega), getD_ge _ _ _ (by simp)]; omega
theorem Cfg.nil (i : Nat) : Cfg i [] := fun r hr => by simp at hr
theorem Cfg.one : Cfg 0 [[]] := fun r hr => by
  simp only [List.mem_singleton] at hr; subst hr; exact ⟨rfl, fun q hq => by simp at hq⟩
theorem Cfg.push {i : Nat} {now next : List (List Int)} (h : Cfg i now) (h2 : Cfg (i + 1) next) {j : Nat} (hj : j < now.length) {x : Int} (hx : 0 ≤ x) : Cfg (i + 1) (next ++ [([] ++ now.getD j []) ++ [x]]) := by
  intro r hr
  rcases List.mem_append.1 hr with hr | hr
  · exact h2 r hr
  · simp only [List.mem_singleton] at hr
    subst hr
    obtain ⟨h3, h4⟩ := h _ (getD_mem now j [] hj)
    refine ⟨by simp only [List.length_append, List.length_cons, List.length_nil, h3]; omega, fun q hq => ?_⟩
    simp only [List.nil_append, List.mem_append, List.mem_singleton] at hq
    rcases hq with hq | rfl
    · exact h4 q hq
    · exact hx
/-! ### loops of plain functions -/
/-- A loop that looks for a place and returns there. -/
theorem scan {R : Type} (L : Nat → Nat → Ctl Nat R) (n : Nat) (p : Nat → Bool) (r : Nat → R)
    (hs : ∀ m i, L (m + 1) i = bif decide ((i : Int) < (n : Int)) then (bif p i then .ret (r i) else L m (i + 1)) else .next i) :
    ∀ fuel i, n - i < fuel → (L fuel i = .next (max i n) ∧ ∀ j, i ≤ j → j < n → p j = false) ∨ (∃ j, i ≤ j ∧ j < n ∧ L fuel i = .ret (r j) ∧ p j = true ∧ ∀ k, i ≤ k → k < j → p k = false) := by
  intro fuel
  induction fuel with
  | zero => intro i h; omega
  | succ m ih =>
    intro i h
    rw [hs]
    by_cases hlt : (i : Int) < (n : Int)
    · rw [decide_eq_true hlt, cond_true]
      cases hp : p i with
      | true => exact .inr ⟨i, Nat.le_refl _, by omega, rfl, hp, fun k h1 h2 => by omega⟩
      | false =>
        rw [cond_false]
        rcases ih (i + 1) (by omega) with ⟨h1, h2⟩ | ⟨j, h1, h2, h3, h4, h5⟩
        · refine .inl ⟨by rw [h1]; congr 1; omega, fun j hj hn => ?_⟩
          rcases Nat.eq_or_lt_of_le hj with rfl | hj
          · exact hp
          · exact h2 j hj hn
        · refine .inr ⟨j, by omega, h2, h3, h4, fun k hk hkj => ?_⟩
          rcases Nat.eq_or_lt_of_le hk with rfl | hk
          · exact hp
          · exact h5 k hk hkj
    · rw [decide_eq_false hlt, cond_false]
      exact .inl ⟨by congr 1; omega, fun j h1 h2 => by omega⟩
def foldFrom {S : Type} (f : Nat → S → S) : Nat → Nat → S → S
  | _, 0, s => s
  | i, k + 1, s => foldFrom f (i + 1) k (f i s)
/-- A loop that only goes on. The counter last, or first. -/
theorem fold_last {S R : Type} (L : Nat → S × Nat → Ctl (S × Nat) R) (n : Nat) (f : Nat → S → S)
    (hs : ∀ m s i, L (m + 1) (s, i) = bif decide ((i : Int) < (n : Int)) then L m (f i s, i + 1) else .next (s, i)) :
    ∀ fuel s i, n - i < fuel → L fuel (s, i) = .next (foldFrom f i (n - i) s, max i n) := by
  intro fuel
  induction fuel with
  | zero => intro s i h; omega
  | succ m ih =>
    intro s i h
    rw [hs]
    by_cases hlt : (i : Int) < (n : Int)
    · rw [decide_eq_true hlt, cond_true, ih _ _ (by omega)]
      have h1 : n - i = (n - (i + 1)) + 1 := by omega
      rw [h1, foldFrom]
      congr 2; omega
    · rw [decide_eq_false hlt, cond_false]
      have h1 : n - i = 0 := by omega
      rw [h1, foldFrom]
      congr 2; omega
theorem fold_first {S R : Type} (L : Nat → Nat × S → Ctl (Nat × S) R) (n : Nat) (f : Nat → S → S)
    (hs : ∀ m s i, L (m + 1) (i, s) = bif decide ((i : Int) < (n : Int)) then L m (i + 1, f i s) else .next (i, s)) :
    ∀ fuel s i, n - i < fuel → L fuel (i, s) = .next (max i n, foldFrom f i (n - i) s) := by
  intro fuel
  induction fuel with
  | zero => intro s i h; omega
  | succ m ih =>
    intro s i h
    rw [hs]
    by_cases hlt : (i : Int) < (n : Int)
    · rw [decide_eq_true hlt, cond_true, ih _ _ (by omega)]
      have h1 : n - i = (n - (i + 1)) + 1 := by omega
      rw [h1, foldFrom]
      congr 2; omega
    · rw [decide_eq_false hlt, cond_false]
      have h1 : n - i = 0 := by omega
      rw [h1, foldFrom]
      congr 2; omega
theorem foldFrom_congr {S : Type} (f g : Nat → S → S) : ∀ (k i : Nat) (s : S), (∀ j s, i ≤ j → j < i + k → f j s = g j s) → foldFrom f i k s = foldFrom g i k s
  | 0, _, _, _ => rfl
  | k + 1, i, s, h => by
    rw [foldFrom, foldFrom, h i s (Nat.le_refl _) (by omega)]
    exact foldFrom_congr f g k (i + 1) _ fun j s h1 h2 => h j s (by omega) (by omega)
theorem foldFrom_inv {S : Type} (f : Nat → S → S) (J : Nat → S → Prop) : ∀ (k i : Nat) (s : S), J i s → (∀ j s, i ≤ j → j < i + k → J j s → J (j + 1) (f j s)) → J (i + k) (foldFrom f i k s)
  | 0, _, _, h, _ => h
  | k + 1, i, s, h, hs => by
    rw [foldFrom, show i + (k + 1) = (i + 1) + k by omega]
    exact foldFrom_inv f J k (i + 1) _ (hs i s (Nat.le_refl _) (by omega) h) fun j s h1 h2 => hs j s (by omega) (by omega)
/-- A list filled from its places. -/
def tabl {α : Type} (f : Nat → α) (n : Nat) : List α := (List.range n).map f
theorem list_ext_getD {α : Type} (d : α) {a b : List α} (hl : a.length = b.length) (h : ∀ i, i < a.length → a.getD i d = b.getD i d) : a = b := by
  refine List.ext_getElem hl fun i h1 h2 => ?_
  have := h i h1
  rwa [getD_lt a i d h1, getD_lt b i d h2] at this
/-- A row on the line. -/
def Row (a : List Int) : Prop := (1 ≤ a.length ∧ a.length ≤ 3) ∧ (∀ i, i < a.length → 0 ≤ a.getD i 0 ∧ a.getD i 0 ≤ 99) ∧ (∀ i, i + 1 < a.length → a.getD i 0 ≤ a.getD (i + 1) 0)
theorem Row.el {a : List Int} (h : Row a) (i : Nat) : 0 ≤ a.getD i 0 ∧ a.getD i 0 ≤ 99 := by
  by_cases hi : i < a.length
  · exact h.2.1 i hi
  · rw [getD_ge a i 0 (by omega)]; omega
end Go.Proofs.Ytcmhgkcifejgcaa
