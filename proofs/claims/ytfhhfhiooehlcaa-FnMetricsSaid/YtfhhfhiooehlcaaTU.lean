/-
  Walks of functions of the program: each computes its plain function. No condition but the bounds that are typed.
-/
import Derived.Test.YtfhhfhiooehlcaaHeld
import Derived.Test.YtfhhfhiooehlcaaFacts
import Derived.Test.YtfhhfhiooehlcaaLawSo
import Derived.Test.YtfhhfhiooehlcaaLawCur
import Derived.Test.YtfhhfhiooehlcaaLawDbl
import Derived.Test.YtfhhfhiooehlcaaDefV
import Derived.Test.YtfhhfhiooehlcaaLawMtr
import Derived.Test.YtfhhfhiooehlcaaCtt
import Derived.Test.YtfhhfhiooehlcaaLawAm
import Derived.Test.YtfhhfhiooehlcaaCopy
import Derived.Test.YtfhhfhiooehlcaaBit
namespace Go.Proofs.Ytfhhfhiooehlcaa
open Go Go.RowKit
set_option linter.unusedVariables false

set_option maxRecDepth 4000 in
set_option maxHeartbeats 1000000 in
theorem laws_rBig_ok (w : World) (vcode : Value) (code : List Int) (hcode : RB w vcode code)  :
    Calls Try.prog 16 ([vcode] : List Value).toArray w (Ret (.bool (F_laws_rBig code)) (Hp w [])) := by
  obtain ⟨rz, hF⟩ : ∃ rz, (F_laws_rBig code) = rz := ⟨_, rfl⟩
  rw [hF]
  unfold F_laws_rBig at hF
  have hlen_code := argB_len hcode
  refine calls_tc Try.func16 rfl rfl rfl ?_
  change TC _ _ _ _ (Hp w []) [(0, vcode)]
  refine TC.seq ?_
  refine TC.region ?_
  refine TL.op (yq (y_assign ev_c)) rfl rfl rfl ?_
  refine TL.nil ?_
  refine TN.seq ?_
  refine TC.seq ?_
  refine TC.region ?_
  refine TL.op (yq (y_move (ev_t rfl))) rfl rfl rfl ?_
  refine TL.op (yq (y_len (ev_t rfl) Try.underlying22 (fun w hw => ((rd_arg hcode.1) w hw).ln))) rfl rfl rfl ?_
  refine TL.op (yq (y_gtr (ev_t rfl) ev_c)) rfl rfl rfl ?_
  refine TL.op (yq (y_assign (ev_t rfl))) rfl rfl rfl ?_
  refine TL.nil ?_
  refine TN.seq ?_
  refine TC.ret ?_
  subst hF
  exact TN.ret1 rfl (ev_t rfl) (fun w' hw => ⟨rfl, hw⟩)

set_option maxRecDepth 4000 in
set_option maxHeartbeats 1000000 in
theorem laws_rInts_ok (w : World) (va : Value) (a : List Int) (ha : RI w va a) (vb : Value) (b : List Int) (hb : RI w vb b)  :
    Calls Try.prog 22 ([va, vb] : List Value).toArray w (Ret (.bool (F_laws_rInts a b)) (Hp w [])) := by
  obtain ⟨rz, hF⟩ : ∃ rz, (F_laws_rInts a b) = rz := ⟨_, rfl⟩
  rw [hF]
  unfold F_laws_rInts at hF
  have hlen_a := arg_len ha
  have hlen_b := arg_len hb
  refine calls_tc Try.func22 rfl rfl rfl ?_
  change TC _ _ _ _ (Hp w []) [(0, va), (1, vb)]
  refine TC.seq ?_
  refine TC.region ?_
  refine TL.op (yq (y_assign ev_c)) rfl rfl rfl ?_
  refine TL.nil ?_
  refine TN.seq ?_
  refine TC.seq ?_
  refine TC.seq ?_
  refine TC.region ?_
  refine TL.op (yq (y_move (ev_t rfl))) rfl rfl rfl ?_
  refine TL.op (yq (y_len (ev_t rfl) Try.underlying34 (fun w hw => ((ri_arg ha) w hw).ln))) rfl rfl rfl ?_
  refine TL.op (yq (y_move (ev_t rfl))) rfl rfl rfl ?_
  refine TL.op (yq (y_len (ev_t rfl) Try.underlying34 (fun w hw => ((ri_arg hb) w hw).ln))) rfl rfl rfl ?_
  refine TL.op (yq (y_neq (ev_t rfl) (ev_t rfl))) rfl rfl rfl ?_
  refine TL.nil ?_
  refine TN.seq ?_
  refine TC.cond (b := !decide ((a.length : Int) = (b.length : Int))) (ev_t rfl) (fun h15 => ?_) (fun h15 => ?_)
  · rw [bif_pos h15] at hF
    have q16 := (of_decide_eq_false (not_t h15))
    refine TC.seq ?_
    refine TC.region ?_
    refine TL.op (yq (y_assign ev_c)) rfl rfl rfl ?_
    refine TL.nil ?_
    refine TN.seq ?_
    refine TC.ret ?_
    refine TN.thenR ?_
    subst hF
    exact TN.ret1 rfl (ev_t rfl) (fun w' hw => ⟨rfl, hw⟩)
  · rw [bif_neg h15] at hF
    have q16 := (of_decide_eq_true (not_f h15))
    refine TC.skip ?_
    refine TN.seq ?_
    refine TC.seq ?_
    refine TC.seq ?_
    refine TC.region ?_
    refine TL.op (yq (y_assign ev_c)) rfl rfl rfl ?_
    refine TL.nil ?_
    refine TN.seq ?_
    refine TC.block ?_
    obtain ⟨c17, hc18⟩ : ∃ c, F_laws_rInts_L1 a b ((a.length - 0) + 1) 0 = c := ⟨_, rfl⟩
    rw [hc18] at hF
    refine TC.loop (ι := Nat × Nat) (fun (fu1, i1) => [(0, va), (1, vb), (5, (.int .i64 (i1 : Int)))]) (fun (fu1, i1) => Hp w []) (fun (fu1, i1) => (i1 ≤ a.length) ∧ a.length - i1 < fu1 ∧ F_laws_rInts_L1 a b fu1 i1 = c17) (fun (fu1, i1) => fu1) ((a.length - 0) + 1, 0) ⟨(by first | omega | (simp [-List.getD_eq_getElem?_getD] <;> omega)), (by omega), hc18⟩ ⟨rfl, rfl, rfl, trivial⟩ (fun w hw => hw) ?_
    rintro ⟨fu1, i1⟩ hJ1
    obtain ⟨hi1_0, hmu1, hL1⟩ : (i1 ≤ a.length) ∧ a.length - i1 < fu1 ∧ F_laws_rInts_L1 a b fu1 i1 = c17 := hJ1
    change TC _ _ _ _ (Hp w []) [(0, va), (1, vb), (5, (.int .i64 (i1 : Int)))]
    obtain ⟨mf1, rfl⟩ : ∃ m, fu1 = m + 1 := ⟨fu1 - 1, by omega⟩
    rw [F_laws_rInts_L1_s] at hL1
    refine TC.seq ?_
    refine TC.seq ?_
    refine TC.region ?_
    refine TL.op (yq (y_move (ev_t rfl))) rfl rfl rfl ?_
    refine TL.op (yq (y_move (ev_t rfl))) rfl rfl rfl ?_
    refine TL.op (yq (y_len (ev_t rfl) Try.underlying34 (fun w hw => ((ri_arg ha) w hw).ln))) rfl rfl rfl ?_
    refine TL.op (yq (y_lss (ev_t rfl) (ev_t rfl))) rfl rfl rfl ?_
    refine TL.nil ?_
    refine TN.seq ?_
    refine TC.cond (b := decide ((i1 : Int) < (a.length : Int))) (ev_t rfl) (fun h19 => ?_) (fun h19 => ?_)
    · rw [bif_pos h19] at hL1
      have q20 := (of_decide_eq_true h19)
      refine TC.skip ?_
      refine TN.seq ?_
      refine TC.seq ?_
      refine TC.block ?_
      refine TC.seq ?_
      refine TC.regionQ (by kernel_rfl) (by kernel_rfl) dr_hp ?_
      refine TQ.op (yq (y_move (ev_t rfl))) rfl rfl rfl ?_
      refine TQ.op (yq (y_move (ev_t rfl))) rfl rfl rfl ?_
      have hb21 : i1 < a.length := (by first | omega | (simp only [List.length_set, List.length_append, List.length_cons, List.length_nil, List.length_replicate]; omega) | (rw [sortI_length]; simp only [List.length_cons, List.length_nil]; omega))
      refine TQ.op (yq (y_idx (k := i1) (ev_t rfl) (ev_t rfl) (by first | omega | simp) slT_34 (ri_arg ha) hb21)) rfl rfl rfl ?_
      refine TQ.op (yq (y_ldi (ev_t rfl) one_3 (ri_arg ha) hb21)) rfl rfl rfl ?_
      refine TQ.op (yq (y_move (ev_t rfl))) rfl rfl rfl ?_
      refine TQ.op (yq (y_move (ev_t rfl))) rfl rfl rfl ?_
      have hb22 : i1 < b.length := (by first | omega | (simp only [List.length_set, List.length_append, List.length_cons, List.length_nil, List.length_replicate]; omega) | (rw [sortI_length]; simp only [List.length_cons, List.length_nil]; omega))
      refine TQ.op (yq (y_idx (k := i1) (ev_t rfl) (ev_t rfl) (by first | omega | simp) slT_34 (ri_arg hb) hb22)) rfl rfl rfl ?_
      refine TQ.op (yq (y_ldi (ev_t rfl) one_3 (ri_arg hb) hb22)) rfl rfl rfl ?_
      refine TQ.op (yq (y_neq (ev_t rfl) (ev_t rfl))) rfl rfl rfl ?_
      refine TQ.nil ?_
      refine TN.seq ?_
      refine TC.cond (b := !decide ((a.getD i1 0) = (b.getD i1 0))) (ev_t rfl) (fun h23 => ?_) (fun h23 => ?_)
      · rw [bif_pos h23] at hL1
        have q24 := (of_decide_eq_false (not_t h23))
        refine TC.seq ?_
        refine TC.region ?_
        refine TL.op (yq (y_assign ev_c)) rfl rfl rfl ?_
        refine TL.nil ?_
        refine TN.seq ?_
        refine TC.ret ?_
        refine TN.blockR ?_
        refine TN.thenR ?_
        refine TN.thenR ?_
        rw [← hL1, elim_ret] at hF
        refine TN.blockR ?_
        refine TN.thenR ?_
        subst hF
        exact TN.ret1 rfl (ev_t rfl) (fun w' hw => ⟨rfl, hw⟩)
      · rw [bif_neg h23] at hL1
        have q24 := (of_decide_eq_true (not_f h23))
        refine TC.skip ?_
        refine TN.blockN ?_
        refine TN.seq ?_
        refine TC.region ?_
        refine TL.op (yq (y_move (ev_t rfl))) rfl rfl rfl ?_
        refine TL.op (yq (y_add (ev_t rfl) ev_c (by unfold In64; omega))) rfl rfl rfl ?_
        refine TL.op (yq (y_assign (ev_t rfl))) rfl rfl rfl ?_
        refine TL.nil ?_
        exact TN.hand (mf1, (i1 + 1)) ⟨(by first | omega | (simp [-List.getD_eq_getElem?_getD] <;> omega)), (by omega), hL1⟩ (Nat.lt_succ_self _) ⟨rfl, rfl, rfl, trivial⟩ (fun w hw => hw)
    · rw [bif_neg h19] at hL1
      have q20 := (of_decide_eq_false h19)
      refine TC.exit ?_
      refine TN.thenE ?_
      refine TN.thenE ?_
      rw [← hL1, elim_next] at hF
      try dsimp only at hF
      refine TN.blockH ?_
      refine TN.seq ?_
      refine TC.seq ?_
      refine TC.region ?_
      refine TL.op (yq (y_assign ev_c)) rfl rfl rfl ?_
      refine TL.nil ?_
      refine TN.seq ?_
      refine TC.ret ?_
      subst hF
      exact TN.ret1 rfl (ev_t rfl) (fun w' hw => ⟨rfl, hw⟩)

set_option maxRecDepth 4000 in
set_option maxHeartbeats 1000000 in
theorem laws_rTable_ok (w : World) (va : Value) (ua : List Value) (a : List (List Int)) (ha : RII w va ua a) (vb : Value) (ub : List Value) (b : List (List Int)) (hb : RII w vb ub b)  :
    Calls Try.prog 65 ([va, vb] : List Value).toArray w (Ret (.bool (F_laws_rTable a b)) (Hp w [])) := by
  obtain ⟨rz, hF⟩ : ∃ rz, (F_laws_rTable a b) = rz := ⟨_, rfl⟩
  rw [hF]
  unfold F_laws_rTable at hF
  have hlen_a := argT_len ha
  have hlen_b := argT_len hb
  refine calls_tc Try.func65 rfl rfl rfl ?_
  change TC _ _ _ _ (Hp w []) [(0, va), (1, vb)]
  refine TC.seq ?_
  refine TC.region ?_
  refine TL.op (yq (y_assign ev_c)) rfl rfl rfl ?_
  refine TL.nil ?_
  refine TN.seq ?_
  refine TC.seq ?_
  refine TC.seq ?_
  refine TC.region ?_
  refine TL.op (yq (y_move (ev_t rfl))) rfl rfl rfl ?_
  refine TL.op (yq (y_len (ev_t rfl) Try.underlying43 (fun w hw => ((fun w hw => ((rii_arg ha) w hw).1) w hw).ln))) rfl rfl rfl ?_
  refine TL.op (yq (y_move (ev_t rfl))) rfl rfl rfl ?_
  refine TL.op (yq (y_len (ev_t rfl) Try.underlying43 (fun w hw => ((fun w hw => ((rii_arg hb) w hw).1) w hw).ln))) rfl rfl rfl ?_
  refine TL.op (yq (y_neq (ev_t rfl) (ev_t rfl))) rfl rfl rfl ?_
  refine TL.nil ?_
  refine TN.seq ?_
  refine TC.cond (b := !decide ((a.length : Int) = (b.length : Int))) (ev_t rfl) (fun h19 => ?_) (fun h19 => ?_)
  · rw [bif_pos h19] at hF
    have q20 := (of_decide_eq_false (not_t h19))
    refine TC.seq ?_
    refine TC.region ?_
    refine TL.op (yq (y_assign ev_c)) rfl rfl rfl ?_
    refine TL.nil ?_
    refine TN.seq ?_
    refine TC.ret ?_
    refine TN.thenR ?_
    subst hF
    exact TN.ret1 rfl (ev_t rfl) (fun w' hw => ⟨rfl, hw⟩)
  · rw [bif_neg h19] at hF
    have q20 := (of_decide_eq_true (not_f h19))
    refine TC.skip ?_
    refine TN.seq ?_
    refine TC.seq ?_
    refine TC.seq ?_
    refine TC.region ?_
    refine TL.op (yq (y_assign ev_c)) rfl rfl rfl ?_
    refine TL.nil ?_
    refine TN.seq ?_
    refine TC.block ?_
    obtain ⟨c21, hc22⟩ : ∃ c, F_laws_rTable_L1 a b ((a.length - 0) + 1) 0 = c := ⟨_, rfl⟩
    rw [hc22] at hF
    refine TC.loop (ι := Nat × Nat) (fun (fu1, i1) => [(0, va), (1, vb), (5, (.int .i64 (i1 : Int)))]) (fun (fu1, i1) => Hp w []) (fun (fu1, i1) => (i1 ≤ a.length) ∧ a.length - i1 < fu1 ∧ F_laws_rTable_L1 a b fu1 i1 = c21) (fun (fu1, i1) => fu1) ((a.length - 0) + 1, 0) ⟨(by first | omega | (simp [-List.getD_eq_getElem?_getD] <;> omega)), (by omega), hc22⟩ ⟨rfl, rfl, rfl, trivial⟩ (fun w hw => hw) ?_
    rintro ⟨fu1, i1⟩ hJ1
    obtain ⟨hi1_0, hmu1, hL1⟩ : (i1 ≤ a.length) ∧ a.length - i1 < fu1 ∧ F_laws_rTable_L1 a b fu1 i1 = c21 := hJ1
    change TC _ _ _ _ (Hp w []) [(0, va), (1, vb), (5, (.int .i64 (i1 : Int)))]
    obtain ⟨mf1, rfl⟩ : ∃ m, fu1 = m + 1 := ⟨fu1 - 1, by omega⟩
    rw [F_laws_rTable_L1_s] at hL1
    refine TC.seq ?_
    refine TC.seq ?_
    refine TC.region ?_
    refine TL.op (yq (y_move (ev_t rfl))) rfl rfl rfl ?_
    refine TL.op (yq (y_move (ev_t rfl))) rfl rfl rfl ?_
    refine TL.op (yq (y_len (ev_t rfl) Try.underlying43 (fun w hw => ((fun w hw => ((rii_arg ha) w hw).1) w hw).ln))) rfl rfl rfl ?_
    refine TL.op (yq (y_lss (ev_t rfl) (ev_t rfl))) rfl rfl rfl ?_
    refine TL.nil ?_
    refine TN.seq ?_
    refine TC.cond (b := decide ((i1 : Int) < (a.length : Int))) (ev_t rfl) (fun h23 => ?_) (fun h23 => ?_)
    · rw [bif_pos h23] at hL1
      have q24 := (of_decide_eq_true h23)
      refine TC.skip ?_
      refine TN.seq ?_
      refine TC.seq ?_
      refine TC.block ?_
      refine TC.seq ?_
      refine TC.regionQ (by kernel_rfl) (by kernel_rfl) dr_hp ?_
      refine TQ.op (yq (y_move (ev_t rfl))) rfl rfl rfl ?_
      refine TQ.op (yq (y_move (ev_t rfl))) rfl rfl rfl ?_
      have hb25 : i1 < a.length := (by first | omega | (simp only [List.length_set, List.length_append, List.length_cons, List.length_nil, List.length_replicate]; omega) | (rw [sortI_length]; simp only [List.length_cons, List.length_nil]; omega))
      refine TQ.op (yq (y_idx (k := i1) (ev_t rfl) (ev_t rfl) (by first | omega | simp) slT_43 (fun w hw => ((rii_arg ha) w hw).1) hb25)) rfl rfl rfl ?_
      have ha26 := ha.row (i := i1) hb25
      refine TQ.op (yq (y_ldA (ev_t rfl) one_34 (rii_arg ha) hb25)) rfl rfl rfl ?_
      refine TQ.op (yq (y_move (ev_t rfl))) rfl rfl rfl ?_
      refine TQ.op (yq (y_move (ev_t rfl))) rfl rfl rfl ?_
      have hb27 : i1 < b.length := (by first | omega | (simp only [List.length_set, List.length_append, List.length_cons, List.length_nil, List.length_replicate]; omega) | (rw [sortI_length]; simp only [List.length_cons, List.length_nil]; omega))
      refine TQ.op (yq (y_idx (k := i1) (ev_t rfl) (ev_t rfl) (by first | omega | simp) slT_43 (fun w hw => ((rii_arg hb) w hw).1) hb27)) rfl rfl rfl ?_
      have ha28 := hb.row (i := i1) hb27
      refine TQ.op (yq (y_ldA (ev_t rfl) one_34 (rii_arg hb) hb27)) rfl rfl rfl ?_
      refine TQ.op (y_call (vs := [(ua.getD i1 undef), (ub.getD i1 undef)]) (v := (.bool (F_laws_rInts (a.getD i1 []) (b.getD i1 [])))) en_22 ⟨(ev_t rfl), (ev_t rfl), trivial⟩ (fun w hw => laws_rInts_ok w (ua.getD i1 undef) (a.getD i1 []) ((ri_arg ha26) w hw) (ub.getD i1 undef) (b.getD i1 []) ((ri_arg ha28) w hw))) rfl rfl rfl ?_
      refine TQ.op (yq (y_not (ev_t rfl))) rfl rfl rfl ?_
      refine TQ.nil ?_
      refine TN.seq ?_
      refine TC.cond (b := !(F_laws_rInts (a.getD i1 []) (b.getD i1 []))) (ev_t rfl) (fun h29 => ?_) (fun h29 => ?_)
      · rw [bif_pos h29] at hL1
        have q30 := (not_t h29)
        refine TC.seq ?_
        refine TC.region ?_
        refine TL.op (yq (y_assign ev_c)) rfl rfl rfl ?_
        refine TL.nil ?_
        refine TN.seq ?_
        refine TC.ret ?_
        refine TN.blockR ?_
        refine TN.thenR ?_
        refine TN.thenR ?_
        rw [← hL1, elim_ret] at hF
        refine TN.blockR ?_
        refine TN.thenR ?_
        subst hF
        exact TN.ret1 rfl (ev_t rfl) (fun w' hw => ⟨rfl, hw⟩)
      · rw [bif_neg h29] at hL1
        have q30 := (not_f h29)
        refine TC.skip ?_
        refine TN.blockN ?_
        refine TN.seq ?_
        refine TC.region ?_
        refine TL.op (yq (y_move (ev_t rfl))) rfl rfl rfl ?_
        refine TL.op (yq (y_add (ev_t rfl) ev_c (by unfold In64; omega))) rfl rfl rfl ?_
        refine TL.op (yq (y_assign (ev_t rfl))) rfl rfl rfl ?_
        refine TL.nil ?_
        exact TN.hand (mf1, (i1 + 1)) ⟨(by first | omega | (simp [-List.getD_eq_getElem?_getD] <;> omega)), (by omega), hL1⟩ (Nat.lt_succ_self _) ⟨rfl, rfl, rfl, trivial⟩ (fun w hw => hw)
    · rw [bif_neg h23] at hL1
      have q24 := (of_decide_eq_false h23)
      refine TC.exit ?_
      refine TN.thenE ?_
      refine TN.thenE ?_
      rw [← hL1, elim_next] at hF
      try dsimp only at hF
      refine TN.blockH ?_
      refine TN.seq ?_
      refine TC.seq ?_
      refine TC.region ?_
      refine TL.op (yq (y_assign ev_c)) rfl rfl rfl ?_
      refine TL.nil ?_
      refine TN.seq ?_
      refine TC.ret ?_
      subst hF
      exact TN.ret1 rfl (ev_t rfl) (fun w' hw => ⟨rfl, hw⟩)

set_option maxRecDepth 4000 in
set_option maxHeartbeats 1000000 in
theorem laws_rMetric_ok (w : World) (va : Value) (ua : List Value) (a : List (List Int)) (ha : RII w va ua a) (vb : Value) (ub : List Value) (b : List (List Int)) (hb : RII w vb ub b)  :
    Calls Try.prog 28 ([(.agg #[va]), (.agg #[vb])] : List Value).toArray w (Ret (.bool (F_laws_rMetric a b)) (Hp w [])) := by
  obtain ⟨rz, hF⟩ : ∃ rz, (F_laws_rMetric a b) = rz := ⟨_, rfl⟩
  rw [hF]
  unfold F_laws_rMetric at hF
  have hlen_a := argT_len ha
  have hlen_b := argT_len hb
  refine calls_tc Try.func28 rfl rfl rfl ?_
  change TC _ _ _ _ (Hp w []) [(0, (.agg #[va])), (1, (.agg #[vb]))]
  refine TC.seq ?_
  refine TC.region ?_
  refine TL.box (ev_t rfl) rfl (fun g0_0 => ?_)
  refine TL.box (ev_t rfl) rfl (fun g0_1 => ?_)
  refine TL.op (yq (y_assign ev_c)) rfl rfl rfl ?_
  refine TL.nil ?_
  refine TN.seq ?_
  refine TC.seq ?_
  refine TC.region ?_
  refine TL.op (yq (y_fa (fa_45_0 g0_0) (ev_t rfl))) rfl rfl rfl ?_
  refine TL.op (yq (y_ldb 1 (ev_t rfl) one_43 rfl rfl)) rfl rfl rfl ?_
  refine TL.op (yq (y_fa (fa_45_0 g0_1) (ev_t rfl))) rfl rfl rfl ?_
  refine TL.op (yq (y_ldb 0 (ev_t rfl) one_43 rfl rfl)) rfl rfl rfl ?_
  refine TL.op (y_call (vs := [va, vb]) (v := (.bool (F_laws_rTable a b))) en_65 ⟨(ev_t rfl), (ev_t rfl), trivial⟩ (fun w hw => laws_rTable_ok w va ua a ((rii_arg ha) w hw) vb ub b ((rii_arg hb) w hw))) rfl rfl rfl ?_
  refine TL.op (yq (y_assign (ev_t rfl))) rfl rfl rfl ?_
  refine TL.nil ?_
  refine TN.seq ?_
  refine TC.ret ?_
  subst hF
  exact TN.ret1 rfl (ev_t rfl) (fun w' hw => ⟨rfl, Hp.sublist hw (List.nil_sublist _)⟩)

end Go.Proofs.Ytfhhfhiooehlcaa
