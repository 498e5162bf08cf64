/-
  Plain laws on marking rows and asking for the marks. No condition.
-/
import Derived.Test.YtfhhfhiooehlcaaDefA
import Derived.Test.YtfhhfhiooehlcaaPlain
namespace Go.Proofs.Ytfhhfhiooehlcaa

/-- k, k + 1, .. -/
def iota (k : Int) : Nat → List Int
  | 0 => []
  | n + 1 => k :: iota (k + 1) n
theorem iota_length (n : Nat) : ∀ k, (iota k n).length = n := by
  induction n with
  | zero => intro k; rfl
  | succ n ih => intro k; simp [iota, ih]
theorem iota_getD (n : Nat) : ∀ (k : Int) (i : Nat), i < n → (iota k n).getD i 0 = k + i := by
  induction n with
  | zero => intro k i h; omega
  | succ n ih =>
    intro k i h
    cases i with
    | zero => simp [iota]
    | succ i =>
      have := ih (k + 1) i (by omega)
      simp only [iota, List.getD_cons_succ, this]; omega
/-- Rows of marks. -/
def marked (k : Int) : List (List Int) → List (List Int)
  | [] => []
  | r :: rs => iota k r.length :: marked (k + r.length) rs
theorem marked_length : ∀ (a : List (List Int)) (k : Int), (marked k a).length = a.length
  | [], _ => rfl
  | r :: rs, k => by simp [marked, marked_length rs]
theorem total_marked : ∀ (a : List (List Int)) (k : Int), total (marked k a) = total a
  | [], _ => rfl
  | r :: rs, k => by
    have := total_marked rs (k + r.length)
    simp only [total, marked, List.map_cons, List.sum_cons, iota_length] at *
    omega
theorem marked_marked : ∀ (a : List (List Int)) (k : Int), marked k (marked k a) = marked k a
  | [], _ => rfl
  | r :: rs, k => by simp only [marked, iota_length, marked_marked rs]
end Go.Proofs.Ytfhhfhiooehlcaa
