/-
  What functions of the program compute, as plain functions. No condition.
-/
import Derived.Test.YtilmadapmcnlgaaMore
namespace Go.Proofs.Ytilmadapmcnlgaa
open Go Go.RowKit

def F_spec_l1In (x : Int) (a : Int) (b : Int) : Bool := ((decide (a ≤ x)) && (decide (x ≤ b)))

def F_impl_within (n : Int) (lo : Int) (hi : Int) : Bool := ((decide (lo ≤ n)) && (decide (n ≤ hi)))

def F_laws_eqIntS_L1 (a : List Int) (b : List Int) : Nat → Nat → Ctl (Nat) (Bool)
  | 0, s => .next s
  | mf1 + 1, i1 => (bif decide ((i1 : Int) < (a.length : Int)) then (bif !decide ((a.getD i1 0) = (b.getD i1 0)) then (.ret false) else F_laws_eqIntS_L1 a b mf1 (i1 + 1)) else (.next i1))
theorem F_laws_eqIntS_L1_s (a : List Int) (b : List Int) (i1 : Nat) (mf1 : Nat) : F_laws_eqIntS_L1 a b (mf1 + 1) i1 = (bif decide ((i1 : Int) < (a.length : Int)) then (bif !decide ((a.getD i1 0) = (b.getD i1 0)) then (.ret false) else F_laws_eqIntS_L1 a b mf1 (i1 + 1)) else (.next i1)) := rfl
def F_laws_eqIntS (a : List Int) (b : List Int) : Bool := (bif !decide ((a.length : Int) = (b.length : Int)) then false else ((F_laws_eqIntS_L1 a b ((a.length - 0) + 1) 0).elim (fun _ => true) (fun r => r)))

def F_laws_toIntS_L1 (a : List Int) : Nat → Nat × List Int → Ctl (Nat × List Int) (List Int)
  | 0, s => .next s
  | mf1 + 1, (i1, out1) => (bif decide ((i1 : Int) < (a.length : Int)) then F_laws_toIntS_L1 a mf1 ((i1 + 1), (out1.set i1 (a.getD i1 0))) else (.next (i1, out1)))
theorem F_laws_toIntS_L1_s (a : List Int) (i1 : Nat) (out1 : List Int) (mf1 : Nat) : F_laws_toIntS_L1 a (mf1 + 1) (i1, out1) = (bif decide ((i1 : Int) < (a.length : Int)) then F_laws_toIntS_L1 a mf1 ((i1 + 1), (out1.set i1 (a.getD i1 0))) else (.next (i1, out1))) := rfl
def F_laws_toIntS (a : List Int) : List Int := ((F_laws_toIntS_L1 a ((a.length - 0) + 1) (0, (List.replicate a.length (0 : Int)))).elim (fun (_, out1) => out1) (fun r => r))

def F_spec_l1Has_L1 (l : List Int) (n : Int) : Nat → Nat → Ctl (Nat) (Bool)
  | 0, s => .next s
  | mf1 + 1, i1 => (bif decide ((i1 : Int) < (l.length : Int)) then (bif decide ((l.getD i1 0) = n) then (.ret true) else F_spec_l1Has_L1 l n mf1 (i1 + 1)) else (.next i1))
theorem F_spec_l1Has_L1_s (l : List Int) (n : Int) (i1 : Nat) (mf1 : Nat) : F_spec_l1Has_L1 l n (mf1 + 1) i1 = (bif decide ((i1 : Int) < (l.length : Int)) then (bif decide ((l.getD i1 0) = n) then (.ret true) else F_spec_l1Has_L1 l n mf1 (i1 + 1)) else (.next i1)) := rfl
def F_spec_l1Has (l : List Int) (n : Int) : Bool := ((F_spec_l1Has_L1 l n ((l.length - 0) + 1) 0).elim (fun _ => false) (fun r => r))

def F_laws_eqIntSS_L1 (a : List (List Int)) (b : List (List Int)) : Nat → Nat → Ctl (Nat) (Bool)
  | 0, s => .next s
  | mf1 + 1, i1 => (bif decide ((i1 : Int) < (a.length : Int)) then (bif !(F_laws_eqIntS (a.getD i1 []) (b.getD i1 [])) then (.ret false) else F_laws_eqIntSS_L1 a b mf1 (i1 + 1)) else (.next i1))
theorem F_laws_eqIntSS_L1_s (a : List (List Int)) (b : List (List Int)) (i1 : Nat) (mf1 : Nat) : F_laws_eqIntSS_L1 a b (mf1 + 1) i1 = (bif decide ((i1 : Int) < (a.length : Int)) then (bif !(F_laws_eqIntS (a.getD i1 []) (b.getD i1 [])) then (.ret false) else F_laws_eqIntSS_L1 a b mf1 (i1 + 1)) else (.next i1)) := rfl
def F_laws_eqIntSS (a : List (List Int)) (b : List (List Int)) : Bool := (bif !decide ((a.length : Int) = (b.length : Int)) then false else ((F_laws_eqIntSS_L1 a b ((a.length - 0) + 1) 0).elim (fun _ => true) (fun r => r)))

def F_laws_markIntS_L1  : Nat → Int × Nat × List Int → Ctl (Int × Nat × List Int) (Int × List Int)
  | 0, s => .next s
  | mf1 + 1, (k1, i1, a1) => (bif decide ((i1 : Int) < (a1.length : Int)) then F_laws_markIntS_L1 mf1 ((k1 + 1), (i1 + 1), (a1.set i1 k1)) else (.next (k1, i1, a1)))
theorem F_laws_markIntS_L1_s (k1 : Int) (i1 : Nat) (a1 : List Int) (mf1 : Nat) : F_laws_markIntS_L1  (mf1 + 1) (k1, i1, a1) = (bif decide ((i1 : Int) < (a1.length : Int)) then F_laws_markIntS_L1 mf1 ((k1 + 1), (i1 + 1), (a1.set i1 k1)) else (.next (k1, i1, a1))) := rfl
def F_laws_markIntS (a : List Int) (k : Int) : Int × List Int := ((F_laws_markIntS_L1  ((a.length - 0) + 1) (k, 0, a)).elim (fun (k1, _, a1) => (k1, a1)) (fun r => r))

def F_laws_heldIntS_L1 (a : List Int) : Nat → Int × Nat → Ctl (Int × Nat) (Int)
  | 0, s => .next s
  | mf1 + 1, (k1, i1) => (bif decide ((i1 : Int) < (a.length : Int)) then (bif !decide ((a.getD i1 0) = k1) then (.ret (-1)) else F_laws_heldIntS_L1 a mf1 ((k1 + 1), (i1 + 1))) else (.next (k1, i1)))
theorem F_laws_heldIntS_L1_s (a : List Int) (k1 : Int) (i1 : Nat) (mf1 : Nat) : F_laws_heldIntS_L1 a (mf1 + 1) (k1, i1) = (bif decide ((i1 : Int) < (a.length : Int)) then (bif !decide ((a.getD i1 0) = k1) then (.ret (-1)) else F_laws_heldIntS_L1 a mf1 ((k1 + 1), (i1 + 1))) else (.next (k1, i1))) := rfl
def F_laws_heldIntS (a : List Int) (k : Int) : Int := ((F_laws_heldIntS_L1 a ((a.length - 0) + 1) (k, 0)).elim (fun (k1, _) => k1) (fun r => r))

def F_impl_isServers (k : Int) : Bool := ((decide (1 ≤ k)) && (decide (k ≤ 3)))

def F_impl_configsOf_L2 (n : Int) (k : Int) (rec : Int → Int → Int → List (List Int)) (x1 : Int) : Nat → List (List Int) × Nat → Ctl (List (List Int) × Nat) (List (List Int))
  | 0, s => .next s
  | mf2 + 1, (out2, k28_2) => (bif decide ((k28_2 : Int) < ((rec n (k - 1) x1).length : Int)) then F_impl_configsOf_L2 n k rec x1 mf2 ((out2 ++ [([x1] ++ ((rec n (k - 1) x1).getD k28_2 []))]), (k28_2 + 1)) else (.next (out2, k28_2)))
theorem F_impl_configsOf_L2_s (n : Int) (k : Int) (rec : Int → Int → Int → List (List Int)) (x1 : Int) (out2 : List (List Int)) (k28_2 : Nat) (mf2 : Nat) : F_impl_configsOf_L2 n k rec x1 (mf2 + 1) (out2, k28_2) = (bif decide ((k28_2 : Int) < ((rec n (k - 1) x1).length : Int)) then F_impl_configsOf_L2 n k rec x1 mf2 ((out2 ++ [([x1] ++ ((rec n (k - 1) x1).getD k28_2 []))]), (k28_2 + 1)) else (.next (out2, k28_2))) := rfl
def F_impl_configsOf_L1 (n : Int) (k : Int) (rec : Int → Int → Int → List (List Int)) : Nat → List (List Int) × Int → Ctl (List (List Int) × Int) (List (List Int))
  | 0, s => .next s
  | mf1 + 1, (out1, x1) => (bif decide (x1 < n) then ((F_impl_configsOf_L2 n k rec x1 ((((rec n (k - 1) x1).length) - 0) + 1) (out1, 0)).elim (fun (out2, _) => F_impl_configsOf_L1 n k rec mf1 (out2, (x1 + 1))) (fun r => .ret r)) else (.next (out1, x1)))
theorem F_impl_configsOf_L1_s (n : Int) (k : Int) (rec : Int → Int → Int → List (List Int)) (out1 : List (List Int)) (x1 : Int) (mf1 : Nat) : F_impl_configsOf_L1 n k rec (mf1 + 1) (out1, x1) = (bif decide (x1 < n) then ((F_impl_configsOf_L2 n k rec x1 ((((rec n (k - 1) x1).length) - 0) + 1) (out1, 0)).elim (fun (out2, _) => F_impl_configsOf_L1 n k rec mf1 (out2, (x1 + 1))) (fun r => .ret r)) else (.next (out1, x1))) := rfl
def F_impl_configsOf_R : Nat → Int → Int → Int → List (List Int)
  | 0, _, _, _ => default
  | mr + 1, n, k, src => (bif decide (k = 0) then [([] : List Int)] else ((F_impl_configsOf_L1 n k (F_impl_configsOf_R mr) (((n - src).toNat) + 1) (([]), src)).elim (fun (out1, _) => out1) (fun r => r)))
theorem F_impl_configsOf_R_s (mr : Nat) (n : Int) (k : Int) (src : Int) : F_impl_configsOf_R (mr + 1) n k src = (bif decide (k = 0) then [([] : List Int)] else ((F_impl_configsOf_L1 n k (F_impl_configsOf_R mr) (((n - src).toNat) + 1) (([]), src)).elim (fun (out1, _) => out1) (fun r => r))) := rfl
def F_impl_configsOf (n : Int) (k : Int) (src : Int) : List (List Int) := F_impl_configsOf_R (k.toNat + 1) n k src

def F_laws_markIntSS_L1  : Nat → Int × Nat × List (List Int) → Ctl (Int × Nat × List (List Int)) (Int × List (List Int))
  | 0, s => .next s
  | mf1 + 1, (k1, i1, a1) => (bif decide ((i1 : Int) < (a1.length : Int)) then F_laws_markIntSS_L1 mf1 (((F_laws_markIntS (a1.getD i1 []) k1).1), (i1 + 1), (a1.set i1 ((F_laws_markIntS (a1.getD i1 []) k1).2))) else (.next (k1, i1, a1)))
theorem F_laws_markIntSS_L1_s (k1 : Int) (i1 : Nat) (a1 : List (List Int)) (mf1 : Nat) : F_laws_markIntSS_L1  (mf1 + 1) (k1, i1, a1) = (bif decide ((i1 : Int) < (a1.length : Int)) then F_laws_markIntSS_L1 mf1 (((F_laws_markIntS (a1.getD i1 []) k1).1), (i1 + 1), (a1.set i1 ((F_laws_markIntS (a1.getD i1 []) k1).2))) else (.next (k1, i1, a1))) := rfl
def F_laws_markIntSS (a : List (List Int)) (k : Int) : Int × List (List Int) := ((F_laws_markIntSS_L1  ((a.length - 0) + 1) (k, 0, a)).elim (fun (k1, _, a1) => (k1, a1)) (fun r => r))

def F_laws_heldIntSS_L1 (a : List (List Int)) : Nat → Int × Nat → Ctl (Int × Nat) (Int)
  | 0, s => .next s
  | mf1 + 1, (k1, i1) => (bif decide ((i1 : Int) < (a.length : Int)) then (bif decide ((F_laws_heldIntS (a.getD i1 []) k1) < 0) then (.ret (-1)) else F_laws_heldIntSS_L1 a mf1 ((F_laws_heldIntS (a.getD i1 []) k1), (i1 + 1))) else (.next (k1, i1)))
theorem F_laws_heldIntSS_L1_s (a : List (List Int)) (k1 : Int) (i1 : Nat) (mf1 : Nat) : F_laws_heldIntSS_L1 a (mf1 + 1) (k1, i1) = (bif decide ((i1 : Int) < (a.length : Int)) then (bif decide ((F_laws_heldIntS (a.getD i1 []) k1) < 0) then (.ret (-1)) else F_laws_heldIntSS_L1 a mf1 ((F_laws_heldIntS (a.getD i1 []) k1), (i1 + 1))) else (.next (k1, i1))) := rfl
def F_laws_heldIntSS (a : List (List Int)) (k : Int) : Int := ((F_laws_heldIntSS_L1 a ((a.length - 0) + 1) (k, 0)).elim (fun (k1, _) => k1) (fun r => r))

def F_spec_l6Configs_L3 (n : Int) (now1 : List (List Int)) (j2 : Nat) : Nat → List (List Int) × Int → Ctl (List (List Int) × Int) (List (List Int))
  | 0, s => .next s
  | mf3 + 1, (next3, x3) => (bif decide (x3 < n) then F_spec_l6Configs_L3 n now1 j2 mf3 ((next3 ++ [((([] : List Int) ++ (now1.getD j2 [])) ++ ([x3]))]), (x3 + 1)) else (.next (next3, x3)))
theorem F_spec_l6Configs_L3_s (n : Int) (now1 : List (List Int)) (j2 : Nat) (next3 : List (List Int)) (x3 : Int) (mf3 : Nat) : F_spec_l6Configs_L3 n now1 j2 (mf3 + 1) (next3, x3) = (bif decide (x3 < n) then F_spec_l6Configs_L3 n now1 j2 mf3 ((next3 ++ [((([] : List Int) ++ (now1.getD j2 [])) ++ ([x3]))]), (x3 + 1)) else (.next (next3, x3))) := rfl
def F_spec_l6Configs_L2 (n : Int) (now1 : List (List Int)) (i1 : Nat) : Nat → List (List Int) × Nat → Ctl (List (List Int) × Nat) (List (List Int))
  | 0, s => .next s
  | mf2 + 1, (next2, j2) => (bif decide ((j2 : Int) < (now1.length : Int)) then ((((bif decide (0 < (i1 : Int)) then (Ctl.next ((now1.getD j2 []).getD (((i1 : Int) - 1).toNat) 0)) else (Ctl.next 0)) : Ctl (Int) (List (List Int)))).elim (fun fromj10 => ((F_spec_l6Configs_L3 n now1 j2 (((n - fromj10).toNat) + 1) (next2, fromj10)).elim (fun (next3, _) => F_spec_l6Configs_L2 n now1 i1 mf2 (next3, (j2 + 1))) (fun r => .ret r))) (fun r => .ret r)) else (.next (next2, j2)))
theorem F_spec_l6Configs_L2_s (n : Int) (now1 : List (List Int)) (i1 : Nat) (next2 : List (List Int)) (j2 : Nat) (mf2 : Nat) : F_spec_l6Configs_L2 n now1 i1 (mf2 + 1) (next2, j2) = (bif decide ((j2 : Int) < (now1.length : Int)) then ((((bif decide (0 < (i1 : Int)) then (Ctl.next ((now1.getD j2 []).getD (((i1 : Int) - 1).toNat) 0)) else (Ctl.next 0)) : Ctl (Int) (List (List Int)))).elim (fun fromj10 => ((F_spec_l6Configs_L3 n now1 j2 (((n - fromj10).toNat) + 1) (next2, fromj10)).elim (fun (next3, _) => F_spec_l6Configs_L2 n now1 i1 mf2 (next3, (j2 + 1))) (fun r => .ret r))) (fun r => .ret r)) else (.next (next2, j2))) := rfl
def F_spec_l6Configs_L1 (n : Int) (k : Int) : Nat → List (List Int) × Nat → Ctl (List (List Int) × Nat) (List (List Int))
  | 0, s => .next s
  | mf1 + 1, (now1, i1) => (bif decide ((i1 : Int) < k) then ((F_spec_l6Configs_L2 n now1 i1 ((now1.length - 0) + 1) (([]), 0)).elim (fun (next2, _) => F_spec_l6Configs_L1 n k mf1 (next2, (i1 + 1))) (fun r => .ret r)) else (.next (now1, i1)))
theorem F_spec_l6Configs_L1_s (n : Int) (k : Int) (now1 : List (List Int)) (i1 : Nat) (mf1 : Nat) : F_spec_l6Configs_L1 n k (mf1 + 1) (now1, i1) = (bif decide ((i1 : Int) < k) then ((F_spec_l6Configs_L2 n now1 i1 ((now1.length - 0) + 1) (([]), 0)).elim (fun (next2, _) => F_spec_l6Configs_L1 n k mf1 (next2, (i1 + 1))) (fun r => .ret r)) else (.next (now1, i1))) := rfl
def F_spec_l6Configs (n : Int) (k : Int) : List (List Int) := ((F_spec_l6Configs_L1 n k ((((k).toNat) - 0) + 1) (([([] : List Int)]), 0)).elim (fun (now1, _) => now1) (fun r => r))


end Go.Proofs.Ytilmadapmcnlgaa
