/-
  What functions of the program compute, as plain functions. No condition.
-/
import Derived.Test.YtfhhfhiooehlcaaMore
namespace Go.Proofs.Ytfhhfhiooehlcaa
open Go Go.RowKit

def F_spec_l1In (x : Int) (a : Int) (b : Int) : Bool := ((decide (a ≤ x)) && (decide (x ≤ b)))

def F_impl_within (n : Int) (lo : Int) (hi : Int) : Bool := ((decide (lo ≤ n)) && (decide (n ≤ hi)))

def F_spec_l1Has_L1 (l : List Int) (n : Int) : Nat → Nat → Ctl (Nat) (Bool)
  | 0, s => .next s
  | mf1 + 1, i1 => (bif decide ((i1 : Int) < (l.length : Int)) then (bif decide ((l.getD i1 0) = n) then (.ret true) else F_spec_l1Has_L1 l n mf1 (i1 + 1)) else (.next i1))
theorem F_spec_l1Has_L1_s (l : List Int) (n : Int) (i1 : Nat) (mf1 : Nat) : F_spec_l1Has_L1 l n (mf1 + 1) i1 = (bif decide ((i1 : Int) < (l.length : Int)) then (bif decide ((l.getD i1 0) = n) then (.ret true) else F_spec_l1Has_L1 l n mf1 (i1 + 1)) else (.next i1)) := rfl
def F_spec_l1Has (l : List Int) (n : Int) : Bool := ((F_spec_l1Has_L1 l n ((l.length - 0) + 1) 0).elim (fun _ => false) (fun r => r))


end Go.Proofs.Ytfhhfhiooehlcaa
