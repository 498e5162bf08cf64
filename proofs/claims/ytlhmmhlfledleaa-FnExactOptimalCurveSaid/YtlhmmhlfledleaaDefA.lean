/-
  What functions of the program compute, as plain functions. No condition.
-/
import Derived.Test.YtlhmmhlfledleaaMore
namespace Go.Proofs.Ytlhmmhlfledleaa
open Go Go.RowKit

def F_spec_l1In (x : Int) (a : Int) (b : Int) : Bool := ((decide (a ≤ x)) && (decide (x ≤ b)))

def F_impl_within (n : Int) (lo : Int) (hi : Int) : Bool := ((decide (lo ≤ n)) && (decide (n ≤ hi)))

def F_laws_eqIntS_L1 (a : List Int) (b : List Int) : Nat → Nat → Ctl (Nat) (Bool)
  | 0, s => .next s
  | mf1 + 1, i1 => (bif decide ((i1 : Int) < (a.length : Int)) then (bif !decide ((a.getD i1 0) = (b.getD i1 0)) then (.ret false) else F_laws_eqIntS_L1 a b mf1 (i1 + 1)) else (.next i1))
theorem F_laws_eqIntS_L1_s (a : List Int) (b : List Int) (i1 : Nat) (mf1 : Nat) : F_laws_eqIntS_L1 a b (mf1 + 1) i1 = (bif decide ((i1 : Int) < (a.length : Int)) then (bif !decide ((a.getD i1 0) = (b.getD i1 0)) then (.ret false) else F_laws_eqIntS_L1 a b mf1 (i1 + 1)) else (.next i1)) := rfl
def F_laws_eqIntS (a : List Int) (b : List Int) : Bool := (bif !decide ((a.length : Int) = (b.length : Int)) then false else ((F_laws_eqIntS_L1 a b ((a.length - 0) + 1) 0).elim (fun _ => true) (fun r => r)))

def F_laws_toIntS_L1 (a : List Int) : Nat → Nat × List Int → Ctl (Nat × List Int) (List Int)
  | 0, s => .next s
  | mf1 + 1, (i1, out1) => (bif decide ((i1 : Int) < (a.length : Int)) then F_laws_toIntS_L1 a mf1 ((i1 + 1), (out1.set i1 (a.getD i1 0))) else (.next (i1, out1)))
theorem F_laws_toIntS_L1_s (a : List Int) (i1 : Nat) (out1 : List Int) (mf1 : Nat) : F_laws_toIntS_L1 a (mf1 + 1) (i1, out1) = (bif decide ((i1 : Int) < (a.length : Int)) then F_laws_toIntS_L1 a mf1 ((i1 + 1), (out1.set i1 (a.getD i1 0))) else (.next (i1, out1))) := rfl
def F_laws_toIntS (a : List Int) : List Int := ((F_laws_toIntS_L1 a ((a.length - 0) + 1) (0, (List.replicate a.length (0 : Int)))).elim (fun (_, out1) => out1) (fun r => r))

def F_spec_l1Has_L1 (l : List Int) (n : Int) : Nat → Nat → Ctl (Nat) (Bool)
  | 0, s => .next s
  | mf1 + 1, i1 => (bif decide ((i1 : Int) < (l.length : Int)) then (bif decide ((l.getD i1 0) = n) then (.ret true) else F_spec_l1Has_L1 l n mf1 (i1 + 1)) else (.next i1))
theorem F_spec_l1Has_L1_s (l : List Int) (n : Int) (i1 : Nat) (mf1 : Nat) : F_spec_l1Has_L1 l n (mf1 + 1) i1 = (bif decide ((i1 : Int) < (l.length : Int)) then (bif decide ((l.getD i1 0) = n) then (.ret true) else F_spec_l1Has_L1 l n mf1 (i1 + 1)) else (.next i1)) := rfl
def F_spec_l1Has (l : List Int) (n : Int) : Bool := ((F_spec_l1Has_L1 l n ((l.length - 0) + 1) 0).elim (fun _ => false) (fun r => r))

def F_laws_eqIntSS_L1 (a : List (List Int)) (b : List (List Int)) : Nat → Nat → Ctl (Nat) (Bool)
  | 0, s => .next s
  | mf1 + 1, i1 => (bif decide ((i1 : Int) < (a.length : Int)) then (bif !(F_laws_eqIntS (a.getD i1 []) (b.getD i1 [])) then (.ret false) else F_laws_eqIntSS_L1 a b mf1 (i1 + 1)) else (.next i1))
theorem F_laws_eqIntSS_L1_s (a : List (List Int)) (b : List (List Int)) (i1 : Nat) (mf1 : Nat) : F_laws_eqIntSS_L1 a b (mf1 + 1) i1 = (bif decide ((i1 : Int) < (a.length : Int)) then (bif !(F_laws_eqIntS (a.getD i1 []) (b.getD i1 [])) then (.ret false) else F_laws_eqIntSS_L1 a b mf1 (i1 + 1)) else (.next i1)) := rfl
def F_laws_eqIntSS (a : List (List Int)) (b : List (List Int)) : Bool := (bif !decide ((a.length : Int) = (b.length : Int)) then false else ((F_laws_eqIntSS_L1 a b ((a.length - 0) + 1) 0).elim (fun _ => true) (fun r => r)))

def F_laws_markIntS_L1  : Nat → Int × Nat × List Int → Ctl (Int × Nat × List Int) (Int × List Int)
  | 0, s => .next s
  | mf1 + 1, (k1, i1, a1) => (bif decide ((i1 : Int) < (a1.length : Int)) then F_laws_markIntS_L1 mf1 ((k1 + 1), (i1 + 1), (a1.set i1 k1)) else (.next (k1, i1, a1)))
theorem F_laws_markIntS_L1_s (k1 : Int) (i1 : Nat) (a1 : List Int) (mf1 : Nat) : F_laws_markIntS_L1  (mf1 + 1) (k1, i1, a1) = (bif decide ((i1 : Int) < (a1.length : Int)) then F_laws_markIntS_L1 mf1 ((k1 + 1), (i1 + 1), (a1.set i1 k1)) else (.next (k1, i1, a1))) := rfl
def F_laws_markIntS (a : List Int) (k : Int) : Int × List Int := ((F_laws_markIntS_L1  ((a.length - 0) + 1) (k, 0, a)).elim (fun (k1, _, a1) => (k1, a1)) (fun r => r))

def F_laws_heldIntS_L1 (a : List Int) : Nat → Int × Nat → Ctl (Int × Nat) (Int)
  | 0, s => .next s
  | mf1 + 1, (k1, i1) => (bif decide ((i1 : Int) < (a.length : Int)) then (bif !decide ((a.getD i1 0) = k1) then (.ret (-1)) else F_laws_heldIntS_L1 a mf1 ((k1 + 1), (i1 + 1))) else (.next (k1, i1)))
theorem F_laws_heldIntS_L1_s (a : List Int) (k1 : Int) (i1 : Nat) (mf1 : Nat) : F_laws_heldIntS_L1 a (mf1 + 1) (k1, i1) = (bif decide ((i1 : Int) < (a.length : Int)) then (bif !decide ((a.getD i1 0) = k1) then (.ret (-1)) else F_laws_heldIntS_L1 a mf1 ((k1 + 1), (i1 + 1))) else (.next (k1, i1))) := rfl
def F_laws_heldIntS (a : List Int) (k : Int) : Int := ((F_laws_heldIntS_L1 a ((a.length - 0) + 1) (k, 0)).elim (fun (k1, _) => k1) (fun r => r))

def F_laws_markIntSS_L1  : Nat → Int × Nat × List (List Int) → Ctl (Int × Nat × List (List Int)) (Int × List (List Int))
  | 0, s => .next s
  | mf1 + 1, (k1, i1, a1) => (bif decide ((i1 : Int) < (a1.length : Int)) then F_laws_markIntSS_L1 mf1 (((F_laws_markIntS (a1.getD i1 []) k1).1), (i1 + 1), (a1.set i1 ((F_laws_markIntS (a1.getD i1 []) k1).2))) else (.next (k1, i1, a1)))
theorem F_laws_markIntSS_L1_s (k1 : Int) (i1 : Nat) (a1 : List (List Int)) (mf1 : Nat) : F_laws_markIntSS_L1  (mf1 + 1) (k1, i1, a1) = (bif decide ((i1 : Int) < (a1.length : Int)) then F_laws_markIntSS_L1 mf1 (((F_laws_markIntS (a1.getD i1 []) k1).1), (i1 + 1), (a1.set i1 ((F_laws_markIntS (a1.getD i1 []) k1).2))) else (.next (k1, i1, a1))) := rfl
def F_laws_markIntSS (a : List (List Int)) (k : Int) : Int × List (List Int) := ((F_laws_markIntSS_L1  ((a.length - 0) + 1) (k, 0, a)).elim (fun (k1, _, a1) => (k1, a1)) (fun r => r))

def F_laws_heldIntSS_L1 (a : List (List Int)) : Nat → Int × Nat → Ctl (Int × Nat) (Int)
  | 0, s => .next s
  | mf1 + 1, (k1, i1) => (bif decide ((i1 : Int) < (a.length : Int)) then (bif decide ((F_laws_heldIntS (a.getD i1 []) k1) < 0) then (.ret (-1)) else F_laws_heldIntSS_L1 a mf1 ((F_laws_heldIntS (a.getD i1 []) k1), (i1 + 1))) else (.next (k1, i1)))
theorem F_laws_heldIntSS_L1_s (a : List (List Int)) (k1 : Int) (i1 : Nat) (mf1 : Nat) : F_laws_heldIntSS_L1 a (mf1 + 1) (k1, i1) = (bif decide ((i1 : Int) < (a.length : Int)) then (bif decide ((F_laws_heldIntS (a.getD i1 []) k1) < 0) then (.ret (-1)) else F_laws_heldIntSS_L1 a mf1 ((F_laws_heldIntS (a.getD i1 []) k1), (i1 + 1))) else (.next (k1, i1))) := rfl
def F_laws_heldIntSS (a : List (List Int)) (k : Int) : Int := ((F_laws_heldIntSS_L1 a ((a.length - 0) + 1) (k, 0)).elim (fun (k1, _) => k1) (fun r => r))


end Go.Proofs.Ytlhmmhlfledleaa
