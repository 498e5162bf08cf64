/-
  Plain laws on lists and numbers. No condition.
-/
import Derived.Test.YtpfpbgkjgpgceaaMore
namespace Go.Proofs.Ytpfpbgkjgpgceaa

def total (a : List (List Int)) : Nat := (a.map List.length).sum
def totalFrom (a : List (List Int)) (i : Nat) : Nat := total (a.drop i)
theorem totalFrom_zero (a : List (List Int)) : totalFrom a 0 = total a := rfl
theorem totalFrom_step (a : List (List Int)) (i : Nat) : totalFrom a i = (a.getD i []).length + totalFrom a (i + 1) := by
  unfold totalFrom total
  by_cases h : i < a.length
  · rw [List.drop_eq_getElem_cons h, List.map_cons, List.sum_cons]; simp only [List.getD_eq_getElem?_getD, List.getElem?_eq_getElem h, Option.getD_some]
  · rw [List.drop_eq_nil_of_le (by omega), List.drop_eq_nil_of_le (by omega)]
    simp [show a.length ≤ i by omega]
theorem getD_set_ne {α : Type} (l : List α) (i j : Nat) (x d : α) (h : i ≠ j) : (l.set i x).getD j d = l.getD j d := by
  simp [List.getD, h]
theorem getD_set_eq {α : Type} (l : List α) (i : Nat) (x d : α) (h : i < l.length) : (l.set i x).getD i d = x := by
  simp [List.getD, h]
theorem getD_lt {α : Type} (l : List α) (i : Nat) (d : α) (h : i < l.length) : l.getD i d = l[i] := by simp [List.getD, h]
theorem getD_ge {α : Type} (l : List α) (i : Nat) (d : α) (h : l.length ≤ i) : l.getD i d = d := by simp [List.getD, List.getElem?_eq_none h]
theorem getD_mem {α : Type} (l : List α) (i : Nat) (d : α) (h : i < l.length) : l.getD i d ∈ l := by rw [getD_lt l i d h]; exact List.getElem_mem h

/-- Rows of i numbers of at least 0. -/
def Cfg (i : Nat) (now : List (List Int)) : Prop := ∀ r ∈ now, r.length = i ∧ ∀ q ∈ r, 0 ≤ q
theorem Cfg.len {i : Nat} {now : List (List Int)} (h : Cfg i now) {j : Nat} (hj : j < now.length) : (now.getD j []).length = i := (h _ (getD_mem now j [] hj)).1
theorem Cfg.pos {i : Nat} {now : List (List Int)} (h : Cfg i now) (j t : Nat) : 0 ≤ (now.getD j []).getD t 0 := by
  by_cases hj : j < now.length
  · by_cases ht : t < (now.getD j []).length
    · exact (h _ (getD_mem now j [] hj)).2 _ (getD_mem _ t 0 ht)
    · rw [getD_ge _ _ _ (by omega)]; omega
  · rw [getD_ge now j [] (by omega), getD_ge _ _ _ (by simp)]; omega
theorem Cfg.nil (i : Nat) : Cfg i [] := fun r hr => by simp at hr
theorem Cfg.one : Cfg 0 [[]] := fun r hr => by
  simp only [List.mem_singleton] at hr; subst hr; exact ⟨rfl, fun q hq => by simp at hq⟩
theorem Cfg.push {i : Nat} {now next : List (List Int)} (h : Cfg i now) (h2 : Cfg (i + 1) next) {j : Nat} (hj : j < now.length) {x : Int} (hx : 0 ≤ x) : Cfg (i + 1) (next ++ [([] ++ now.getD j []) ++ [x]]) := by
  intro r hr
  rcases List.mem_append.1 hr with hr | hr
  · exact h2 r hr
  · simp only [List.mem_singleton] at hr
    subst hr
    obtain ⟨h3, h4⟩ := h _ (getD_mem now j [] hj)
    refine ⟨by simp only [List.length_append, List.length_cons, List.length_nil, h3]; omega, fun q hq => ?_⟩
    simp only [List.nil_append, List.mem_append, List.mem_singleton] at hq
    rcases hq with hq | rfl
    · exact h4 q hq
    · exact hx
end Go.Proofs.Ytpfpbgkjgpgceaa
