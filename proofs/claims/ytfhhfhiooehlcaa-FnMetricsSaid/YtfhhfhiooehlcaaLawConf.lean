/-
  Plain laws on the lists of configurations: how long they are. No condition.
-/
import Derived.Test.YtfhhfhiooehlcaaDefA
import Derived.Test.YtfhhfhiooehlcaaPlain
namespace Go.Proofs.Ytfhhfhiooehlcaa

theorem total_le (q : Nat) : ∀ a : List (List Int), (∀ r ∈ a, r.length ≤ q) → total a ≤ a.length * q := by
  intro a
  induction a with
  | nil => intro _; simp [total]
  | cons r a ih =>
    intro h
    have h1 := ih (fun r hr => h r (by simp [hr]))
    have h2 := h r (by simp)
    simp only [total, List.map_cons, List.sum_cons, List.length_cons, Nat.succ_mul] at *
    omega
end Go.Proofs.Ytfhhfhiooehlcaa
