/-
  Part of a proof: rules of the walk, plain functions and their laws, walks. No condition.
-/
import Derived.Test.YtcmhgkcifejgcaaKLeastPrices9
namespace Go.Proofs.Ytcmhgkcifejgcaa
open Go Go.RowKit
set_option linter.unusedVariables false

set_option maxRecDepth 4000 in
set_option maxHeartbeats 1000000 in
theorem impl_FlowCost_ok (w : World) (vm : Value) (um : List Value) (m : List (List Int)) (hm : RII w vm um m) (va : Value) (a : List Int) (ha : RI w va a) (vreqs : Value) (reqs : List Int) (hreqs : RI w vreqs reqs)  :
    Calls Try.prog 52 ([(.agg #[vm]), va, vreqs] : List Value).toArray w (Ret (.tuple #[(.int .i64 ((F_impl_FlowCost m a reqs).1)), (.bool ((F_impl_FlowCost m a reqs).2))]) (Hp w [])) := by
  obtain ⟨rz, hF⟩ : ∃ rz, (F_impl_FlowCost m a reqs) = rz := ⟨_, rfl⟩
  rw [hF]
  unfold F_impl_FlowCost at hF
  have hlen_m := argT_len hm
  have hlen_a := arg_len ha
  have hlen_reqs := arg_len hreqs
  refine calls_tc Try.func52 rfl rfl rfl ?_
  change TC _ _ _ _ (Hp w []) [(0, (.agg #[vm])), (1, va), (2, vreqs)]
  refine TC.seq ?_
  refine TC.region ?_
  refine TL.box (ev_t rfl) rfl (fun g0_0 => ?_)
  refine TL.op (yq (y_assign ev_c)) rfl rfl rfl ?_
  refine TL.op (yq (y_assign ev_c)) rfl rfl rfl ?_
  refine TL.nil ?_
  refine TN.seq ?_
  refine TC.seq ?_
  refine TC.seq ?_
  refine TC.region ?_
  refine TL.op (yq (y_ldagg (cs := [vm]) 0 (ev_t rfl) agg_55 rfl)) rfl rfl rfl ?_
  refine TL.op (yq (y_move (ev_t rfl))) rfl rfl rfl ?_
  refine TL.op (yq (y_move (ev_t rfl))) rfl rfl rfl ?_
  refine TL.op (y_call (vs := [(.agg #[vm]), va, vreqs]) (v := (.bool (F_impl_isServed m a reqs))) en_100 ⟨(ev_t rfl), (ev_t rfl), (ev_t rfl), trivial⟩ (fun w hw => impl_isServed_ok w vm um m ((rii_arg hm) w hw) va a ((ri_arg ha) w hw) vreqs reqs ((ri_arg hreqs) w hw))) rfl rfl rfl ?_
  refine TL.op (yq (y_not (ev_t rfl))) rfl rfl rfl ?_
  refine TL.nil ?_
  refine TN.seq ?_
  refine TC.cond (b := !(F_impl_isServed m a reqs)) (ev_t rfl) (fun h3 => ?_) (fun h3 => ?_)
  · rw [bif_pos h3] at hF
    have q4 := (not_t h3)
    refine TC.seq ?_
    refine TC.region ?_
    refine TL.op (yq (y_assign ev_c)) rfl rfl rfl ?_
    refine TL.op (yq (y_assign ev_c)) rfl rfl rfl ?_
    refine TL.nil ?_
    refine TN.seq ?_
    refine TC.ret ?_
    refine TN.thenR ?_
    subst hF
    exact TN.ret2 rfl (ev_t rfl) (ev_t rfl) (fun w' hw => ⟨rfl, Hp.sublist hw (List.nil_sublist _)⟩)
  · rw [bif_neg h3] at hF
    have q4 := (isServed_t (not_f h3))
    have hcs := cs_flow q4
    refine TC.skip ?_
    refine TN.seq ?_
    refine TC.seq ?_
    refine TC.region ?_
    refine TL.op (yq (y_ldagg (cs := [vm]) 0 (ev_t rfl) agg_55 rfl)) rfl rfl rfl ?_
    refine TL.op (yq (y_move (ev_t rfl))) rfl rfl rfl ?_
    refine TL.op (yq (y_move (ev_t rfl))) rfl rfl rfl ?_
    refine TL.callr (ι := Nat × Value × List Value) (vs := [(.agg #[vm]), va, vreqs]) (fun i => (.pointer (some ⟨i.1, 0, none⟩))) (fun i => [.blk i.1 106 [.int .i64 ((F_impl_flowOf m a reqs).1), i.2.1], tabI 34 3 i.2.1 i.2.2 ((F_impl_flowOf m a reqs).2)]) en_102 ⟨(ev_t rfl), (ev_t rfl), (ev_t rfl), trivial⟩ rfl (fun w hw => impl_flowOf_ok w vm um m ((rii_arg hm) w hw) va a ((ri_arg ha) w hw) vreqs reqs ((ri_arg hreqs) w hw) (by first | assumption | omega | grind)) (fun r3_3 => ?_)
    refine TL.op (yq (y_nilp (ev_t rfl))) rfl rfl rfl ?_
    refine TL.op (yq (y_fa (fa_106_1 r3_3.1) (ev_t rfl))) rfl rfl rfl ?_
    refine TL.op (yq (y_ldb 0 (ev_t rfl) one_49 rfl rfl)) rfl rfl rfl ?_
    refine TL.callr (ι := Value) (vs := [r3_3.2.1]) (fun i => (.tuple #[i, (.int .i64 ((F_impl_assigned ((F_impl_flowOf m a reqs).2)).2))])) (fun i => [rowI 3 i ((F_impl_assigned ((F_impl_flowOf m a reqs).2)).1)]) en_101 ⟨(ev_t rfl), trivial⟩ rfl (fun w hw => impl_assigned_ok w r3_3.2.1 r3_3.2.2 ((F_impl_flowOf m a reqs).2) ((rii_tab 1 rfl) w hw) (by first | assumption | omega | grind)) (fun r3_7 => ?_)
    refine TL.op (yq (y_move (ev_t rfl))) rfl rfl rfl ?_
    refine TL.op (yq (y_extract (ev_t rfl) rfl)) rfl rfl rfl ?_
    refine TL.op (yq (y_extract (ev_t rfl) rfl)) rfl rfl rfl ?_
    refine TL.op (yq (y_assign (ev_t rfl))) rfl rfl rfl ?_
    refine TL.op (yq (y_assign (ev_t rfl))) rfl rfl rfl ?_
    refine TL.nil ?_
    refine TN.seq ?_
    refine TC.seq ?_
    refine TC.region ?_
    refine TL.op (yq (y_move (ev_t rfl))) rfl rfl rfl ?_
    refine TL.op (yq (y_assign (ev_t rfl))) rfl rfl rfl ?_
    refine TL.op (yq (y_assign ev_c)) rfl rfl rfl ?_
    refine TL.nil ?_
    refine TN.seq ?_
    refine TC.ret ?_
    subst hF
    exact TN.ret2 rfl (ev_t rfl) (ev_t rfl) (fun w' hw => ⟨rfl, Hp.sublist hw (List.nil_sublist _)⟩)

end Go.Proofs.Ytcmhgkcifejgcaa
namespace Go.Proofs.Ytcmhgkcifejgcaa
open Go Go.RowKit
set_option linter.unusedVariables false

set_option maxRecDepth 4000 in
set_option maxHeartbeats 1000000 in
theorem laws_eqIntS_ok (w : World) (va : Value) (a : List Int) (ha : RI w va a) (vb : Value) (b : List Int) (hb : RI w vb b)  :
    Calls Try.prog 53 ([va, vb] : List Value).toArray w (Ret (.bool (F_laws_eqIntS a b)) (Hp w [])) := by
  obtain ⟨rz, hF⟩ : ∃ rz, (F_laws_eqIntS a b) = rz := ⟨_, rfl⟩
  rw [hF]
  unfold F_laws_eqIntS at hF
  have hlen_a := arg_len ha
  have hlen_b := arg_len hb
  refine calls_tc Try.func53 rfl rfl rfl ?_
  change TC _ _ _ _ (Hp w []) [(0, va), (1, vb)]
  refine TC.seq ?_
  refine TC.region ?_
  refine TL.op (yq (y_assign ev_c)) rfl rfl rfl ?_
  refine TL.nil ?_
  refine TN.seq ?_
  refine TC.seq ?_
  refine TC.seq ?_
  refine TC.region ?_
  refine TL.op (yq (y_move (ev_t rfl))) rfl rfl rfl ?_
  refine TL.op (yq (y_len (ev_t rfl) Try.underlying34 (fun w hw => ((ri_arg ha) w hw).ln))) rfl rfl rfl ?_
  refine TL.op (yq (y_move (ev_t rfl))) rfl rfl rfl ?_
  refine TL.op (yq (y_len (ev_t rfl) Try.underlying34 (fun w hw => ((ri_arg hb) w hw).ln))) rfl rfl rfl ?_
  refine TL.op (yq (y_neq (ev_t rfl) (ev_t rfl))) rfl rfl rfl ?_
  refine TL.nil ?_
  refine TN.seq ?_
  refine TC.cond (b := !decide ((a.length : Int) = (b.length : Int))) (ev_t rfl) (fun h15 => ?_) (fun h15 => ?_)
  · rw [bif_pos h15] at hF
    have q16 := (of_decide_eq_false (not_t h15))
    refine TC.seq ?_
    refine TC.region ?_
    refine TL.op (yq (y_assign ev_c)) rfl rfl rfl ?_
    refine TL.nil ?_
    refine TN.seq ?_
    refine TC.ret ?_
    refine TN.thenR ?_
    subst hF
    exact TN.ret1 rfl (ev_t rfl) (fun w' hw => ⟨rfl, hw⟩)
  · rw [bif_neg h15] at hF
    have q16 := (of_decide_eq_true (not_f h15))
    refine TC.skip ?_
    refine TN.seq ?_
    refine TC.seq ?_
    refine TC.seq ?_
    refine TC.region ?_
    refine TL.op (yq (y_assign ev_c)) rfl rfl rfl ?_
    refine TL.nil ?_
    refine TN.seq ?_
    refine TC.block ?_
    obtain ⟨c17, hc18⟩ : ∃ c, F_laws_eqIntS_L1 a b ((a.length - 0) + 1) 0 = c := ⟨_, rfl⟩
    rw [hc18] at hF
    refine TC.loop (ι := Nat × Nat) (fun (fu1, i1) => [(0, va), (1, vb), (5, (.int .i64 (i1 : Int)))]) (fun (fu1, i1) => Hp w []) (fun (fu1, i1) => (i1 ≤ a.length) ∧ a.length - i1 < fu1 ∧ F_laws_eqIntS_L1 a b fu1 i1 = c17) (fun (fu1, i1) => fu1) ((a.length - 0) + 1, 0) ⟨(by first | omega | (simp [-List.getD_eq_getElem?_getD] <;> omega)), (by omega), hc18⟩ ⟨rfl, rfl, rfl, trivial⟩ (fun w hw => hw) ?_
    rintro ⟨fu1, i1⟩ hJ1
    obtain ⟨hi1_0, hmu1, hL1⟩ : (i1 ≤ a.length) ∧ a.length - i1 < fu1 ∧ F_laws_eqIntS_L1 a b fu1 i1 = c17 := hJ1
    change TC _ _ _ _ (Hp w []) [(0, va), (1, vb), (5, (.int .i64 (i1 : Int)))]
    obtain ⟨mf1, rfl⟩ : ∃ m, fu1 = m + 1 := ⟨fu1 - 1, by omega⟩
    rw [F_laws_eqIntS_L1_s] at hL1
    refine TC.seq ?_
    refine TC.seq ?_
    refine TC.region ?_
    refine TL.op (yq (y_move (ev_t rfl))) rfl rfl rfl ?_
    refine TL.op (yq (y_move (ev_t rfl))) rfl rfl rfl ?_
    refine TL.op (yq (y_len (ev_t rfl) Try.underlying34 (fun w hw => ((ri_arg ha) w hw).ln))) rfl rfl rfl ?_
    refine TL.op (yq (y_lss (ev_t rfl) (ev_t rfl))) rfl rfl rfl ?_
    refine TL.nil ?_
    refine TN.seq ?_
    refine TC.cond (b := decide ((i1 : Int) < (a.length : Int))) (ev_t rfl) (fun h19 => ?_) (fun h19 => ?_)
    · rw [bif_pos h19] at hL1
      have q20 := (of_decide_eq_true h19)
      refine TC.skip ?_
      refine TN.seq ?_
      refine TC.seq ?_
      refine TC.block ?_
      refine TC.seq ?_
      refine TC.regionQ (by kernel_rfl) (by kernel_rfl) dr_hp ?_
      refine TQ.op (yq (y_move (ev_t rfl))) rfl rfl rfl ?_
      refine TQ.op (yq (y_move (ev_t rfl))) rfl rfl rfl ?_
      have hb21 : i1 < a.length := (by first | omega | (simp only [List.length_set, List.length_append, List.length_cons, List.length_nil, List.length_replicate]; omega) | (rw [sortI_length]; simp only [List.length_cons, List.length_nil]; omega))
      refine TQ.op (yq (y_idx (k := i1) (ev_t rfl) (ev_t rfl) (by first | omega | simp) slT_34 (ri_arg ha) hb21)) rfl rfl rfl ?_
      refine TQ.op (yq (y_ldi (ev_t rfl) one_3 (ri_arg ha) hb21)) rfl rfl rfl ?_
      refine TQ.op (yq (y_move (ev_t rfl))) rfl rfl rfl ?_
      refine TQ.op (yq (y_move (ev_t rfl))) rfl rfl rfl ?_
      have hb22 : i1 < b.length := (by first | omega | (simp only [List.length_set, List.length_append, List.length_cons, List.length_nil, List.length_replicate]; omega) | (rw [sortI_length]; simp only [List.length_cons, List.length_nil]; omega))
      refine TQ.op (yq (y_idx (k := i1) (ev_t rfl) (ev_t rfl) (by first | omega | simp) slT_34 (ri_arg hb) hb22)) rfl rfl rfl ?_
      refine TQ.op (yq (y_ldi (ev_t rfl) one_3 (ri_arg hb) hb22)) rfl rfl rfl ?_
      refine TQ.op (yq (y_neq (ev_t rfl) (ev_t rfl))) rfl rfl rfl ?_
      refine TQ.nil ?_
      refine TN.seq ?_
      refine TC.cond (b := !decide ((a.getD i1 0) = (b.getD i1 0))) (ev_t rfl) (fun h23 => ?_) (fun h23 => ?_)
      · rw [bif_pos h23] at hL1
        have q24 := (of_decide_eq_false (not_t h23))
        refine TC.seq ?_
        refine TC.region ?_
        refine TL.op (yq (y_assign ev_c)) rfl rfl rfl ?_
        refine TL.nil ?_
        refine TN.seq ?_
        refine TC.ret ?_
        refine TN.blockR ?_
        refine TN.thenR ?_
        refine TN.thenR ?_
        rw [← hL1, elim_ret] at hF
        refine TN.blockR ?_
        refine TN.thenR ?_
        subst hF
        exact TN.ret1 rfl (ev_t rfl) (fun w' hw => ⟨rfl, hw⟩)
      · rw [bif_neg h23] at hL1
        have q24 := (of_decide_eq_true (not_f h23))
        refine TC.skip ?_
        refine TN.blockN ?_
        refine TN.seq ?_
        refine TC.region ?_
        refine TL.op (yq (y_move (ev_t rfl))) rfl rfl rfl ?_
        refine TL.op (yq (y_add (ev_t rfl) ev_c (by unfold In64; constructor <;> omega))) rfl rfl rfl ?_
        refine TL.op (yq (y_assign (ev_t rfl))) rfl rfl rfl ?_
        refine TL.nil ?_
        exact TN.hand (mf1, (i1 + 1)) ⟨(by first | omega | (simp [-List.getD_eq_getElem?_getD] <;> omega)), (by omega), hL1⟩ (Nat.lt_succ_self _) ⟨rfl, rfl, rfl, trivial⟩ (fun w hw => hw)
    · rw [bif_neg h19] at hL1
      have q20 := (of_decide_eq_false h19)
      refine TC.exit ?_
      refine TN.thenE ?_
      refine TN.thenE ?_
      rw [← hL1, elim_next] at hF
      try dsimp only at hF
      refine TN.blockH ?_
      refine TN.seq ?_
      refine TC.seq ?_
      refine TC.region ?_
      refine TL.op (yq (y_assign ev_c)) rfl rfl rfl ?_
      refine TL.nil ?_
      refine TN.seq ?_
      refine TC.ret ?_
      subst hF
      exact TN.ret1 rfl (ev_t rfl) (fun w' hw => ⟨rfl, hw⟩)

set_option maxRecDepth 4000 in
set_option maxHeartbeats 1000000 in
theorem laws_toIntS_ok (w : World) (va : Value) (a : List Int) (ha : RI w va a) (hp0 : a.length ≤ 1048576) :
    Calls Try.prog 51 ([va] : List Value).toArray w (fun e w' => ∃ i : Value, e = .returned i ∧ Hp w [rowI 3 i (F_laws_toIntS a)] w') := by
  obtain ⟨rz, hF⟩ : ∃ rz, (F_laws_toIntS a) = rz := ⟨_, rfl⟩
  rw [hF]
  unfold F_laws_toIntS at hF
  have hlen_a := arg_len ha
  refine calls_tc Try.func51 rfl rfl rfl ?_
  change TC _ _ _ _ (Hp w []) [(0, va)]
  refine TC.seq ?_
  refine TC.region ?_
  refine TL.op (yq (y_assign ev_c)) rfl rfl rfl ?_
  refine TL.nil ?_
  refine TN.seq ?_
  refine TC.seq ?_
  refine TC.region ?_
  refine TL.op (yq (y_move (ev_t rfl))) rfl rfl rfl ?_
  refine TL.op (yq (y_len (ev_t rfl) Try.underlying34 (fun w hw => ((ri_arg ha) w hw).ln))) rfl rfl rfl ?_
  refine TL.makeSlice (n := a.length) (ev_t rfl) (ev_t rfl) (by omega) slT_34 rfl (by omega) (by unfold maxLen; omega) rfl (fun v1_2 => ?_)
  refine TL.cls (fun w hw => hw.zeros) ?_
  refine TL.op (yq (y_assign (ev_t rfl))) rfl rfl rfl ?_
  refine TL.nil ?_
  refine TN.seq ?_
  refine TC.seq ?_
  refine TC.seq ?_
  refine TC.region ?_
  refine TL.op (yq (y_assign ev_c)) rfl rfl rfl ?_
  refine TL.nil ?_
  refine TN.seq ?_
  refine TC.block ?_
  obtain ⟨c13, hc14⟩ : ∃ c, F_laws_toIntS_L1 a ((a.length - 0) + 1) (0, (List.replicate a.length (0 : Int))) = c := ⟨_, rfl⟩
  rw [hc14] at hF
  refine TC.loop (ι := Nat × Nat × List Int) (fun (fu1, i1, out1) => [(0, va), (3, v1_2), (4, (.int .i64 (i1 : Int)))]) (fun (fu1, i1, out1) => Hp w [rowI 3 v1_2 out1]) (fun (fu1, i1, out1) => (i1 ≤ a.length) ∧ (out1.length = a.length) ∧ a.length - i1 < fu1 ∧ F_laws_toIntS_L1 a fu1 (i1, out1) = c13) (fun (fu1, i1, out1) => fu1) ((a.length - 0) + 1, 0, (List.replicate a.length (0 : Int))) ⟨(by first | omega | (simp [-List.getD_eq_getElem?_getD] <;> omega)), (by first | omega | (simp [-List.getD_eq_getElem?_getD] <;> omega)), (by omega), hc14⟩ ⟨rfl, rfl, rfl, trivial⟩ (fun w hw => hw) ?_
  rintro ⟨fu1, i1, out1⟩ hJ1
  obtain ⟨hi1_0, hi1_1, hmu1, hL1⟩ : (i1 ≤ a.length) ∧ (out1.length = a.length) ∧ a.length - i1 < fu1 ∧ F_laws_toIntS_L1 a fu1 (i1, out1) = c13 := hJ1
  change TC _ _ _ _ (Hp w [rowI 3 v1_2 out1]) [(0, va), (3, v1_2), (4, (.int .i64 (i1 : Int)))]
  obtain ⟨mf1, rfl⟩ : ∃ m, fu1 = m + 1 := ⟨fu1 - 1, by omega⟩
  rw [F_laws_toIntS_L1_s] at hL1
  refine TC.seq ?_
  refine TC.seq ?_
  refine TC.region ?_
  refine TL.op (yq (y_move (ev_t rfl))) rfl rfl rfl ?_
  refine TL.op (yq (y_move (ev_t rfl))) rfl rfl rfl ?_
  refine TL.op (yq (y_len (ev_t rfl) Try.underlying34 (fun w hw => ((ri_arg ha) w hw).ln))) rfl rfl rfl ?_
  refine TL.op (yq (y_lss (ev_t rfl) (ev_t rfl))) rfl rfl rfl ?_
  refine TL.nil ?_
  refine TN.seq ?_
  refine TC.cond (b := decide ((i1 : Int) < (a.length : Int))) (ev_t rfl) (fun h15 => ?_) (fun h15 => ?_)
  · rw [bif_pos h15] at hL1
    have q16 := (of_decide_eq_true h15)
    refine TC.skip ?_
    refine TN.seq ?_
    refine TC.seq ?_
    refine TC.block ?_
    refine TC.region ?_
    refine TL.op (yq (y_move (ev_t rfl))) rfl rfl rfl ?_
    refine TL.op (yq (y_move (ev_t rfl))) rfl rfl rfl ?_
    refine TL.op (yq (y_move (ev_t rfl))) rfl rfl rfl ?_
    refine TL.op (yq (y_move (ev_t rfl))) rfl rfl rfl ?_
    have hb17 : i1 < a.length := (by first | omega | (simp only [List.length_set, List.length_append, List.length_cons, List.length_nil, List.length_replicate]; omega) | (rw [sortI_length]; simp only [List.length_cons, List.length_nil]; omega))
    refine TL.op (yq (y_idx (k := i1) (ev_t rfl) (ev_t rfl) (by first | omega | simp) slT_34 (ri_arg ha) hb17)) rfl rfl rfl ?_
    refine TL.op (yq (y_ldi (ev_t rfl) one_3 (ri_arg ha) hb17)) rfl rfl rfl ?_
    have hb18 : i1 < out1.length := (by first | omega | (simp only [List.length_set, List.length_append, List.length_cons, List.length_nil, List.length_replicate]; omega) | (rw [sortI_length]; simp only [List.length_cons, List.length_nil]; omega))
    refine TL.op (yq (y_idx (k := i1) (ev_t rfl) (ev_t rfl) (by first | omega | simp) slT_34 (ri_row 0 rfl) hb18)) rfl rfl rfl ?_
    refine TL.storeI 0 (ev_t rfl) (ev_t rfl) one_3 rfl hb18 ?_
    refine TL.nil ?_
    refine TN.blockN ?_
    refine TN.seq ?_
    refine TC.region ?_
    refine TL.op (yq (y_move (ev_t rfl))) rfl rfl rfl ?_
    refine TL.op (yq (y_add (ev_t rfl) ev_c (by unfold In64; constructor <;> omega))) rfl rfl rfl ?_
    refine TL.op (yq (y_assign (ev_t rfl))) rfl rfl rfl ?_
    refine TL.nil ?_
    exact TN.hand (mf1, (i1 + 1), (out1.set i1 (a.getD i1 0))) ⟨(by first | omega | (simp [-List.getD_eq_getElem?_getD] <;> omega)), (by first | omega | (simp [-List.getD_eq_getElem?_getD] <;> omega)), (by omega), hL1⟩ (Nat.lt_succ_self _) ⟨rfl, rfl, rfl, trivial⟩ (fun w hw => hw)
  · rw [bif_neg h15] at hL1
    have q16 := (of_decide_eq_false h15)
    refine TC.exit ?_
    refine TN.thenE ?_
    refine TN.thenE ?_
    rw [← hL1, elim_next] at hF
    try dsimp only at hF
    refine TN.blockH ?_
    refine TN.seq ?_
    refine TC.seq ?_
    refine TC.region ?_
    refine TL.op (yq (y_move (ev_t rfl))) rfl rfl rfl ?_
    refine TL.op (yq (y_assign (ev_t rfl))) rfl rfl rfl ?_
    refine TL.nil ?_
    refine TN.seq ?_
    refine TC.ret ?_
    subst hF
    exact TN.ret1 rfl (ev_t rfl) (fun w' hw => ⟨v1_2, rfl, hw⟩)

set_option maxRecDepth 4000 in
set_option maxHeartbeats 1000000 in
theorem laws_eqIntSS_ok (w : World) (va : Value) (ua : List Value) (a : List (List Int)) (ha : RII w va ua a) (vb : Value) (ub : List Value) (b : List (List Int)) (hb : RII w vb ub b)  :
    Calls Try.prog 47 ([va, vb] : List Value).toArray w (Ret (.bool (F_laws_eqIntSS a b)) (Hp w [])) := by
  obtain ⟨rz, hF⟩ : ∃ rz, (F_laws_eqIntSS a b) = rz := ⟨_, rfl⟩
  rw [hF]
  unfold F_laws_eqIntSS at hF
  have hlen_a := argT_len ha
  have hlen_b := argT_len hb
  refine calls_tc Try.func47 rfl rfl rfl ?_
  change TC _ _ _ _ (Hp w []) [(0, va), (1, vb)]
  refine TC.seq ?_
  refine TC.region ?_
  refine TL.op (yq (y_assign ev_c)) rfl rfl rfl ?_
  refine TL.nil ?_
  refine TN.seq ?_
  refine TC.seq ?_
  refine TC.seq ?_
  refine TC.region ?_
  refine TL.op (yq (y_move (ev_t rfl))) rfl rfl rfl ?_
  refine TL.op (yq (y_len (ev_t rfl) Try.underlying49 (fun w hw => ((fun w hw => ((rii_arg ha) w hw).1) w hw).ln))) rfl rfl rfl ?_
  refine TL.op (yq (y_move (ev_t rfl))) rfl rfl rfl ?_
  refine TL.op (yq (y_len (ev_t rfl) Try.underlying49 (fun w hw => ((fun w hw => ((rii_arg hb) w hw).1) w hw).ln))) rfl rfl rfl ?_
  refine TL.op (yq (y_neq (ev_t rfl) (ev_t rfl))) rfl rfl rfl ?_
  refine TL.nil ?_
  refine TN.seq ?_
  refine TC.cond (b := !decide ((a.length : Int) = (b.length : Int))) (ev_t rfl) (fun h19 => ?_) (fun h19 => ?_)
  · rw [bif_pos h19] at hF
    have q20 := (of_decide_eq_false (not_t h19))
    refine TC.seq ?_
    refine TC.region ?_
    refine TL.op (yq (y_assign ev_c)) rfl rfl rfl ?_
    refine TL.nil ?_
    refine TN.seq ?_
    refine TC.ret ?_
    refine TN.thenR ?_
    subst hF
    exact TN.ret1 rfl (ev_t rfl) (fun w' hw => ⟨rfl, hw⟩)
  · rw [bif_neg h19] at hF
    have q20 := (of_decide_eq_true (not_f h19))
    refine TC.skip ?_
    refine TN.seq ?_
    refine TC.seq ?_
    refine TC.seq ?_
    refine TC.region ?_
    refine TL.op (yq (y_assign ev_c)) rfl rfl rfl ?_
    refine TL.nil ?_
    refine TN.seq ?_
    refine TC.block ?_
    obtain ⟨c21, hc22⟩ : ∃ c, F_laws_eqIntSS_L1 a b ((a.length - 0) + 1) 0 = c := ⟨_, rfl⟩
    rw [hc22] at hF
    refine TC.loop (ι := Nat × Nat) (fun (fu1, i1) => [(0, va), (1, vb), (5, (.int .i64 (i1 : Int)))]) (fun (fu1, i1) => Hp w []) (fun (fu1, i1) => (i1 ≤ a.length) ∧ a.length - i1 < fu1 ∧ F_laws_eqIntSS_L1 a b fu1 i1 = c21) (fun (fu1, i1) => fu1) ((a.length - 0) + 1, 0) ⟨(by first | omega | (simp [-List.getD_eq_getElem?_getD] <;> omega)), (by omega), hc22⟩ ⟨rfl, rfl, rfl, trivial⟩ (fun w hw => hw) ?_
    rintro ⟨fu1, i1⟩ hJ1
    obtain ⟨hi1_0, hmu1, hL1⟩ : (i1 ≤ a.length) ∧ a.length - i1 < fu1 ∧ F_laws_eqIntSS_L1 a b fu1 i1 = c21 := hJ1
    change TC _ _ _ _ (Hp w []) [(0, va), (1, vb), (5, (.int .i64 (i1 : Int)))]
    obtain ⟨mf1, rfl⟩ : ∃ m, fu1 = m + 1 := ⟨fu1 - 1, by omega⟩
    rw [F_laws_eqIntSS_L1_s] at hL1
    refine TC.seq ?_
    refine TC.seq ?_
    refine TC.region ?_
    refine TL.op (yq (y_move (ev_t rfl))) rfl rfl rfl ?_
    refine TL.op (yq (y_move (ev_t rfl))) rfl rfl rfl ?_
    refine TL.op (yq (y_len (ev_t rfl) Try.underlying49 (fun w hw => ((fun w hw => ((rii_arg ha) w hw).1) w hw).ln))) rfl rfl rfl ?_
    refine TL.op (yq (y_lss (ev_t rfl) (ev_t rfl))) rfl rfl rfl ?_
    refine TL.nil ?_
    refine TN.seq ?_
    refine TC.cond (b := decide ((i1 : Int) < (a.length : Int))) (ev_t rfl) (fun h23 => ?_) (fun h23 => ?_)
    · rw [bif_pos h23] at hL1
      have q24 := (of_decide_eq_true h23)
      refine TC.skip ?_
      refine TN.seq ?_
      refine TC.seq ?_
      refine TC.block ?_
      refine TC.seq ?_
      refine TC.regionQ (by kernel_rfl) (by kernel_rfl) dr_hp ?_
      refine TQ.op (yq (y_move (ev_t rfl))) rfl rfl rfl ?_
      refine TQ.op (yq (y_move (ev_t rfl))) rfl rfl rfl ?_
      have hb25 : i1 < a.length := (by first | omega | (simp only [List.length_set, List.length_append, List.length_cons, List.length_nil, List.length_replicate]; omega) | (rw [sortI_length]; simp only [List.length_cons, List.length_nil]; omega))
      refine TQ.op (yq (y_idx (k := i1) (ev_t rfl) (ev_t rfl) (by first | omega | simp) slT_49 (fun w hw => ((rii_arg ha) w hw).1) hb25)) rfl rfl rfl ?_
      have ha26 := ha.row (i := i1) hb25
      refine TQ.op (yq (y_ldA (ev_t rfl) one_34 (rii_arg ha) hb25)) rfl rfl rfl ?_
      refine TQ.op (yq (y_move (ev_t rfl))) rfl rfl rfl ?_
      refine TQ.op (yq (y_move (ev_t rfl))) rfl rfl rfl ?_
      have hb27 : i1 < b.length := (by first | omega | (simp only [List.length_set, List.length_append, List.length_cons, List.length_nil, List.length_replicate]; omega) | (rw [sortI_length]; simp only [List.length_cons, List.length_nil]; omega))
      refine TQ.op (yq (y_idx (k := i1) (ev_t rfl) (ev_t rfl) (by first | omega | simp) slT_49 (fun w hw => ((rii_arg hb) w hw).1) hb27)) rfl rfl rfl ?_
      have ha28 := hb.row (i := i1) hb27
      refine TQ.op (yq (y_ldA (ev_t rfl) one_34 (rii_arg hb) hb27)) rfl rfl rfl ?_
      refine TQ.op (y_call (vs := [(ua.getD i1 undef), (ub.getD i1 undef)]) (v := (.bool (F_laws_eqIntS (a.getD i1 []) (b.getD i1 [])))) en_53 ⟨(ev_t rfl), (ev_t rfl), trivial⟩ (fun w hw => laws_eqIntS_ok w (ua.getD i1 undef) (a.getD i1 []) ((ri_arg ha26) w hw) (ub.getD i1 undef) (b.getD i1 []) ((ri_arg ha28) w hw))) rfl rfl rfl ?_
      refine TQ.op (yq (y_not (ev_t rfl))) rfl rfl rfl ?_
      refine TQ.nil ?_
      refine TN.seq ?_
      refine TC.cond (b := !(F_laws_eqIntS (a.getD i1 []) (b.getD i1 []))) (ev_t rfl) (fun h29 => ?_) (fun h29 => ?_)
      · rw [bif_pos h29] at hL1
        have q30 := (not_t h29)
        refine TC.seq ?_
        refine TC.region ?_
        refine TL.op (yq (y_assign ev_c)) rfl rfl rfl ?_
        refine TL.nil ?_
        refine TN.seq ?_
        refine TC.ret ?_
        refine TN.blockR ?_
        refine TN.thenR ?_
        refine TN.thenR ?_
        rw [← hL1, elim_ret] at hF
        refine TN.blockR ?_
        refine TN.thenR ?_
        subst hF
        exact TN.ret1 rfl (ev_t rfl) (fun w' hw => ⟨rfl, hw⟩)
      · rw [bif_neg h29] at hL1
        have q30 := (not_f h29)
        refine TC.skip ?_
        refine TN.blockN ?_
        refine TN.seq ?_
        refine TC.region ?_
        refine TL.op (yq (y_move (ev_t rfl))) rfl rfl rfl ?_
        refine TL.op (yq (y_add (ev_t rfl) ev_c (by unfold In64; constructor <;> omega))) rfl rfl rfl ?_
        refine TL.op (yq (y_assign (ev_t rfl))) rfl rfl rfl ?_
        refine TL.nil ?_
        exact TN.hand (mf1, (i1 + 1)) ⟨(by first | omega | (simp [-List.getD_eq_getElem?_getD] <;> omega)), (by omega), hL1⟩ (Nat.lt_succ_self _) ⟨rfl, rfl, rfl, trivial⟩ (fun w hw => hw)
    · rw [bif_neg h23] at hL1
      have q24 := (of_decide_eq_false h23)
      refine TC.exit ?_
      refine TN.thenE ?_
      refine TN.thenE ?_
      rw [← hL1, elim_next] at hF
      try dsimp only at hF
      refine TN.blockH ?_
      refine TN.seq ?_
      refine TC.seq ?_
      refine TC.region ?_
      refine TL.op (yq (y_assign ev_c)) rfl rfl rfl ?_
      refine TL.nil ?_
      refine TN.seq ?_
      refine TC.ret ?_
      subst hF
      exact TN.ret1 rfl (ev_t rfl) (fun w' hw => ⟨rfl, hw⟩)

set_option maxRecDepth 4000 in
set_option maxHeartbeats 1000000 in
theorem laws_szIntS_ok (w : World) (va : Value) (a : List Int) (ha : RI w va a) (left : Int) (hp0 : 0 ≤ left) (hp1 : left ≤ 1048576) :
    Calls Try.prog 125 ([va, (.int .i64 left)] : List Value).toArray w (Ret (.int .i64 (F_laws_szIntS a left)) (Hp w [])) := by
  obtain ⟨rz, hF⟩ : ∃ rz, (F_laws_szIntS a left) = rz := ⟨_, rfl⟩
  rw [hF]
  unfold F_laws_szIntS at hF
  have hlen_a := arg_len ha
  refine calls_tc Try.func125 rfl rfl rfl ?_
  change TC _ _ _ _ (Hp w []) [(0, va), (1, (.int .i64 left))]
  refine TC.seq ?_
  refine TC.region ?_
  refine TL.op (yq (y_assign ev_c)) rfl rfl rfl ?_
  refine TL.nil ?_
  refine TN.seq ?_
  refine TC.seq ?_
  refine TC.region ?_
  refine TL.op (yq (y_move (ev_t rfl))) rfl rfl rfl ?_
  refine TL.op (yq (y_move (ev_t rfl))) rfl rfl rfl ?_
  refine TL.op (yq (y_len (ev_t rfl) Try.underlying34 (fun w hw => ((ri_arg ha) w hw).ln))) rfl rfl rfl ?_
  refine TL.op (yq (y_sub (ev_t rfl) (ev_t rfl) (by unfold In64; constructor <;> omega))) rfl rfl rfl ?_
  refine TL.op (yq (y_assign (ev_t rfl))) rfl rfl rfl ?_
  refine TL.nil ?_
  refine TN.seq ?_
  refine TC.seq ?_
  refine TC.seq ?_
  refine TC.region ?_
  refine TL.op (yq (y_move (ev_t rfl))) rfl rfl rfl ?_
  refine TL.op (yq (y_lss (ev_t rfl) ev_c)) rfl rfl rfl ?_
  refine TL.nil ?_
  refine TN.seq ?_
  refine TC.cond (b := decide (left - (a.length : Int) < 0)) (ev_t rfl) (fun h3 => ?_) (fun h3 => ?_)
  · rw [bif_pos h3] at hF
    have q4 := (of_decide_eq_true h3)
    refine TC.seq ?_
    refine TC.region ?_
    refine TL.op (yq (y_assign ev_c)) rfl rfl rfl ?_
    refine TL.nil ?_
    refine TN.seq ?_
    refine TC.ret ?_
    refine TN.thenR ?_
    subst hF
    exact TN.ret1 rfl (ev_t rfl) (fun w' hw => ⟨rfl, hw⟩)
  · rw [bif_neg h3] at hF
    have q4 := (of_decide_eq_false h3)
    refine TC.skip ?_
    refine TN.seq ?_
    refine TC.seq ?_
    refine TC.region ?_
    refine TL.op (yq (y_move (ev_t rfl))) rfl rfl rfl ?_
    refine TL.op (yq (y_assign (ev_t rfl))) rfl rfl rfl ?_
    refine TL.nil ?_
    refine TN.seq ?_
    refine TC.ret ?_
    subst hF
    exact TN.ret1 rfl (ev_t rfl) (fun w' hw => ⟨rfl, hw⟩)

set_option maxRecDepth 4000 in
set_option maxHeartbeats 1000000 in
theorem laws_szIntSS_ok (w : World) (va : Value) (ua : List Value) (a : List (List Int)) (ha : RII w va ua a) (left : Int) (hp0 : 0 ≤ left) (hp1 : left ≤ 1048576) :
    Calls Try.prog 87 ([va, (.int .i64 left)] : List Value).toArray w (Ret (.int .i64 (F_laws_szIntSS a left)) (Hp w [])) := by
  obtain ⟨rz, hF⟩ : ∃ rz, (F_laws_szIntSS a left) = rz := ⟨_, rfl⟩
  rw [hF]
  unfold F_laws_szIntSS at hF
  have hlen_a := argT_len ha
  refine calls_tc Try.func87 rfl rfl rfl ?_
  change TC _ _ _ _ (Hp w []) [(0, va), (1, (.int .i64 left))]
  refine TC.seq ?_
  refine TC.region ?_
  refine TL.op (yq (y_assign ev_c)) rfl rfl rfl ?_
  refine TL.nil ?_
  refine TN.seq ?_
  refine TC.seq ?_
  refine TC.region ?_
  refine TL.op (yq (y_move (ev_t rfl))) rfl rfl rfl ?_
  refine TL.op (yq (y_move (ev_t rfl))) rfl rfl rfl ?_
  refine TL.op (yq (y_len (ev_t rfl) Try.underlying49 (fun w hw => ((fun w hw => ((rii_arg ha) w hw).1) w hw).ln))) rfl rfl rfl ?_
  refine TL.op (yq (y_sub (ev_t rfl) (ev_t rfl) (by unfold In64; constructor <;> omega))) rfl rfl rfl ?_
  refine TL.op (yq (y_assign (ev_t rfl))) rfl rfl rfl ?_
  refine TL.nil ?_
  refine TN.seq ?_
  refine TC.seq ?_
  refine TC.seq ?_
  refine TC.region ?_
  refine TL.op (yq (y_move (ev_t rfl))) rfl rfl rfl ?_
  refine TL.op (yq (y_lss (ev_t rfl) ev_c)) rfl rfl rfl ?_
  refine TL.nil ?_
  refine TN.seq ?_
  refine TC.cond (b := decide (left - (a.length : Int) < 0)) (ev_t rfl) (fun h15 => ?_) (fun h15 => ?_)
  · rw [bif_pos h15] at hF
    have q16 := (of_decide_eq_true h15)
    refine TC.seq ?_
    refine TC.region ?_
    refine TL.op (yq (y_assign ev_c)) rfl rfl rfl ?_
    refine TL.nil ?_
    refine TN.seq ?_
    refine TC.ret ?_
    refine TN.thenR ?_
    subst hF
    exact TN.ret1 rfl (ev_t rfl) (fun w' hw => ⟨rfl, hw⟩)
  · rw [bif_neg h15] at hF
    have q16 := (of_decide_eq_false h15)
    refine TC.skip ?_
    refine TN.seq ?_
    refine TC.seq ?_
    refine TC.seq ?_
    refine TC.region ?_
    refine TL.op (yq (y_assign ev_c)) rfl rfl rfl ?_
    refine TL.nil ?_
    refine TN.seq ?_
    refine TC.block ?_
    obtain ⟨c17, hc18⟩ : ∃ c, F_laws_szIntSS_L1 a ((a.length - 0) + 1) ((left - (a.length : Int)), 0) = c := ⟨_, rfl⟩
    rw [hc18] at hF
    refine TC.loop (ι := Nat × Int × Nat) (fun (fu1, left1, i1) => [(0, va), (1, (.int .i64 left1)), (5, (.int .i64 (i1 : Int)))]) (fun (fu1, left1, i1) => Hp w []) (fun (fu1, left1, i1) => (i1 ≤ a.length) ∧ (0 ≤ left1) ∧ (left1 ≤ 1048576) ∧ a.length - i1 < fu1 ∧ F_laws_szIntSS_L1 a fu1 (left1, i1) = c17) (fun (fu1, left1, i1) => fu1) ((a.length - 0) + 1, left - (a.length : Int), 0) ⟨(by first | omega | (simp [-List.getD_eq_getElem?_getD] <;> omega)), (by first | omega | (simp [-List.getD_eq_getElem?_getD] <;> omega)), (by first | omega | (simp [-List.getD_eq_getElem?_getD] <;> omega)), (by omega), hc18⟩ ⟨rfl, rfl, rfl, trivial⟩ (fun w hw => hw) ?_
    rintro ⟨fu1, left1, i1⟩ hJ1
    obtain ⟨hi1_0, hi1_1, hi1_2, hmu1, hL1⟩ : (i1 ≤ a.length) ∧ (0 ≤ left1) ∧ (left1 ≤ 1048576) ∧ a.length - i1 < fu1 ∧ F_laws_szIntSS_L1 a fu1 (left1, i1) = c17 := hJ1
    change TC _ _ _ _ (Hp w []) [(0, va), (1, (.int .i64 left1)), (5, (.int .i64 (i1 : Int)))]
    obtain ⟨mf1, rfl⟩ : ∃ m, fu1 = m + 1 := ⟨fu1 - 1, by omega⟩
    rw [F_laws_szIntSS_L1_s] at hL1
    have hsz := szIntS_le (a.getD i1 []) left1 (by omega)
    refine TC.seq ?_
    refine TC.seq ?_
    refine TC.region ?_
    refine TL.op (yq (y_move (ev_t rfl))) rfl rfl rfl ?_
    refine TL.op (yq (y_move (ev_t rfl))) rfl rfl rfl ?_
    refine TL.op (yq (y_len (ev_t rfl) Try.underlying49 (fun w hw => ((fun w hw => ((rii_arg ha) w hw).1) w hw).ln))) rfl rfl rfl ?_
    refine TL.op (yq (y_lss (ev_t rfl) (ev_t rfl))) rfl rfl rfl ?_
    refine TL.nil ?_
    refine TN.seq ?_
    refine TC.cond (b := decide ((i1 : Int) < (a.length : Int))) (ev_t rfl) (fun h19 => ?_) (fun h19 => ?_)
    · rw [bif_pos h19] at hL1
      have q20 := (of_decide_eq_true h19)
      refine TC.skip ?_
      refine TN.seq ?_
      refine TC.seq ?_
      refine TC.block ?_
      refine TC.seq ?_
      refine TC.region ?_
      refine TL.op (yq (y_move (ev_t rfl))) rfl rfl rfl ?_
      refine TL.op (yq (y_move (ev_t rfl))) rfl rfl rfl ?_
      have hb21 : i1 < a.length := (by first | omega | (simp only [List.length_set, List.length_append, List.length_cons, List.length_nil, List.length_replicate]; omega) | (rw [sortI_length]; simp only [List.length_cons, List.length_nil]; omega))
      refine TL.op (yq (y_idx (k := i1) (ev_t rfl) (ev_t rfl) (by first | omega | simp) slT_49 (fun w hw => ((rii_arg ha) w hw).1) hb21)) rfl rfl rfl ?_
      have ha22 := ha.row (i := i1) hb21
      refine TL.op (yq (y_ldA (ev_t rfl) one_34 (rii_arg ha) hb21)) rfl rfl rfl ?_
      refine TL.op (yq (y_move (ev_t rfl))) rfl rfl rfl ?_
      refine TL.op (y_call (vs := [(ua.getD i1 undef), (.int .i64 left1)]) (v := (.int .i64 (F_laws_szIntS (a.getD i1 []) left1))) en_125 ⟨(ev_t rfl), (ev_t rfl), trivial⟩ (fun w hw => laws_szIntS_ok w (ua.getD i1 undef) (a.getD i1 []) ((ri_arg ha22) w hw) left1 (by first | assumption | omega | grind) (by first | assumption | omega | grind))) rfl rfl rfl ?_
      refine TL.op (yq (y_assign (ev_t rfl))) rfl rfl rfl ?_
      refine TL.nil ?_
      refine TN.seq ?_
      refine TC.seq ?_
      refine TC.region ?_
      refine TL.op (yq (y_move (ev_t rfl))) rfl rfl rfl ?_
      refine TL.op (yq (y_lss (ev_t rfl) ev_c)) rfl rfl rfl ?_
      refine TL.nil ?_
      refine TN.seq ?_
      refine TC.cond (b := decide ((F_laws_szIntS (a.getD i1 []) left1) < 0)) (ev_t rfl) (fun h23 => ?_) (fun h23 => ?_)
      · rw [bif_pos h23] at hL1
        have q24 := (of_decide_eq_true h23)
        refine TC.seq ?_
        refine TC.region ?_
        refine TL.op (yq (y_assign ev_c)) rfl rfl rfl ?_
        refine TL.nil ?_
        refine TN.seq ?_
        refine TC.ret ?_
        refine TN.blockR ?_
        refine TN.thenR ?_
        refine TN.thenR ?_
        rw [← hL1, elim_ret] at hF
        refine TN.blockR ?_
        refine TN.thenR ?_
        subst hF
        exact TN.ret1 rfl (ev_t rfl) (fun w' hw => ⟨rfl, hw⟩)
      · rw [bif_neg h23] at hL1
        have q24 := (of_decide_eq_false h23)
        refine TC.skip ?_
        refine TN.blockN ?_
        refine TN.seq ?_
        refine TC.region ?_
        refine TL.op (yq (y_move (ev_t rfl))) rfl rfl rfl ?_
        refine TL.op (yq (y_add (ev_t rfl) ev_c (by unfold In64; constructor <;> omega))) rfl rfl rfl ?_
        refine TL.op (yq (y_assign (ev_t rfl))) rfl rfl rfl ?_
        refine TL.nil ?_
        exact TN.hand (mf1, (F_laws_szIntS (a.getD i1 []) left1), (i1 + 1)) ⟨(by first | omega | (simp [-List.getD_eq_getElem?_getD] <;> omega)), (by first | omega | (simp [-List.getD_eq_getElem?_getD] <;> omega)), (by first | omega | (simp [-List.getD_eq_getElem?_getD] <;> omega)), (by omega), hL1⟩ (Nat.lt_succ_self _) ⟨rfl, rfl, rfl, trivial⟩ (fun w hw => hw)
    · rw [bif_neg h19] at hL1
      have q20 := (of_decide_eq_false h19)
      refine TC.exit ?_
      refine TN.thenE ?_
      refine TN.thenE ?_
      rw [← hL1, elim_next] at hF
      try dsimp only at hF
      refine TN.blockH ?_
      refine TN.seq ?_
      refine TC.seq ?_
      refine TC.region ?_
      refine TL.op (yq (y_move (ev_t rfl))) rfl rfl rfl ?_
      refine TL.op (yq (y_assign (ev_t rfl))) rfl rfl rfl ?_
      refine TL.nil ?_
      refine TN.seq ?_
      refine TC.ret ?_
      subst hF
      exact TN.ret1 rfl (ev_t rfl) (fun w' hw => ⟨rfl, hw⟩)

set_option maxRecDepth 4000 in
set_option maxHeartbeats 1000000 in
theorem laws_szMetric_ok (w : World) (vm : Value) (um : List Value) (m : List (List Int)) (hm : RII w vm um m) (left : Int) (hp0 : 0 ≤ left) (hp1 : left ≤ 1048576) :
    Calls Try.prog 36 ([(.agg #[vm]), (.int .i64 left)] : List Value).toArray w (Ret (.int .i64 (F_laws_szMetric m left)) (Hp w [])) := by
  obtain ⟨rz, hF⟩ : ∃ rz, (F_laws_szMetric m left) = rz := ⟨_, rfl⟩
  rw [hF]
  unfold F_laws_szMetric at hF
  have hlen_m := argT_len hm
  refine calls_tc Try.func36 rfl rfl rfl ?_
  change TC _ _ _ _ (Hp w []) [(0, (.agg #[vm])), (1, (.int .i64 left))]
  refine TC.seq ?_
  refine TC.region ?_
  refine TL.box (ev_t rfl) rfl (fun g0_0 => ?_)
  refine TL.op (yq (y_assign ev_c)) rfl rfl rfl ?_
  refine TL.nil ?_
  refine TN.seq ?_
  refine TC.seq ?_
  refine TC.region ?_
  refine TL.op (yq (y_fa (fa_51_0 g0_0) (ev_t rfl))) rfl rfl rfl ?_
  refine TL.op (yq (y_ldb 0 (ev_t rfl) one_49 rfl rfl)) rfl rfl rfl ?_
  refine TL.op (yq (y_move (ev_t rfl))) rfl rfl rfl ?_
  refine TL.op (y_call (vs := [vm, (.int .i64 left)]) (v := (.int .i64 (F_laws_szIntSS m left))) en_87 ⟨(ev_t rfl), (ev_t rfl), trivial⟩ (fun w hw => laws_szIntSS_ok w vm um m ((rii_arg hm) w hw) left (by first | assumption | omega | grind) (by first | assumption | omega | grind))) rfl rfl rfl ?_
  refine TL.op (yq (y_assign (ev_t rfl))) rfl rfl rfl ?_
  refine TL.nil ?_
  refine TN.seq ?_
  refine TC.seq ?_
  refine TC.seq ?_
  refine TC.region ?_
  refine TL.op (yq (y_move (ev_t rfl))) rfl rfl rfl ?_
  refine TL.op (yq (y_lss (ev_t rfl) ev_c)) rfl rfl rfl ?_
  refine TL.nil ?_
  refine TN.seq ?_
  refine TC.cond (b := decide ((F_laws_szIntSS m left) < 0)) (ev_t rfl) (fun h3 => ?_) (fun h3 => ?_)
  · rw [bif_pos h3] at hF
    have q4 := (of_decide_eq_true h3)
    refine TC.seq ?_
    refine TC.region ?_
    refine TL.op (yq (y_assign ev_c)) rfl rfl rfl ?_
    refine TL.nil ?_
    refine TN.seq ?_
    refine TC.ret ?_
    refine TN.thenR ?_
    subst hF
    exact TN.ret1 rfl (ev_t rfl) (fun w' hw => ⟨rfl, Hp.sublist hw (List.nil_sublist _)⟩)
  · rw [bif_neg h3] at hF
    have q4 := (of_decide_eq_false h3)
    have hss := szIntSS_t m left (by omega)
    have hss1 : ∀ i, (m.getD i []).length ≤ 1048576 := fun i => by have := row_le_total m i; omega
    refine TC.skip ?_
    refine TN.seq ?_
    refine TC.seq ?_
    refine TC.region ?_
    refine TL.op (yq (y_move (ev_t rfl))) rfl rfl rfl ?_
    refine TL.op (yq (y_assign (ev_t rfl))) rfl rfl rfl ?_
    refine TL.nil ?_
    refine TN.seq ?_
    refine TC.ret ?_
    subst hF
    exact TN.ret1 rfl (ev_t rfl) (fun w' hw => ⟨rfl, Hp.sublist hw (List.nil_sublist _)⟩)

set_option maxRecDepth 4000 in
set_option maxHeartbeats 1000000 in
theorem laws_toIntSS_ok (w : World) (va : Value) (ua : List Value) (a : List (List Int)) (ha : RII w va ua a) (hp0 : a.length ≤ 1048576) (hp1 : ∀ i, (a.getD i []).length ≤ 1048576) :
    Calls Try.prog 90 ([va] : List Value).toArray w (fun e w' => ∃ i : Value × List Value, e = .returned i.1 ∧ Hp w [tabI 34 3 i.1 i.2 (F_laws_toIntSS a)] w') := by
  obtain ⟨rz, hF⟩ : ∃ rz, (F_laws_toIntSS a) = rz := ⟨_, rfl⟩
  rw [hF]
  unfold F_laws_toIntSS at hF
  have hlen_a := argT_len ha
  refine calls_tc Try.func90 rfl rfl rfl ?_
  change TC _ _ _ _ (Hp w []) [(0, va)]
  refine TC.seq ?_
  refine TC.region ?_
  refine TL.op (yq (y_assign ev_c)) rfl rfl rfl ?_
  refine TL.nil ?_
  refine TN.seq ?_
  refine TC.seq ?_
  refine TC.region ?_
  refine TL.op (yq (y_move (ev_t rfl))) rfl rfl rfl ?_
  refine TL.op (yq (y_len (ev_t rfl) Try.underlying49 (fun w hw => ((fun w hw => ((rii_arg ha) w hw).1) w hw).ln))) rfl rfl rfl ?_
  refine TL.makeSlice (n := a.length) (ev_t rfl) (ev_t rfl) (by omega) slT_49 rfl (by omega) (by unfold maxLen; omega) rfl (fun v1_2 => ?_)
  refine TL.cls (fun w hw => hw.madeTab 3) ?_
  refine TL.op (yq (y_assign (ev_t rfl))) rfl rfl rfl ?_
  refine TL.nil ?_
  refine TN.seq ?_
  refine TC.seq ?_
  refine TC.seq ?_
  refine TC.region ?_
  refine TL.op (yq (y_assign ev_c)) rfl rfl rfl ?_
  refine TL.nil ?_
  refine TN.seq ?_
  refine TC.block ?_
  obtain ⟨c16, hc17⟩ : ∃ c, F_laws_toIntSS_L1 a ((a.length - 0) + 1) (0, (List.replicate a.length ([] : List Int))) = c := ⟨_, rfl⟩
  rw [hc17] at hF
  refine TC.loop (ι := Nat × Nat × List (List Int) × List Value) (fun (fu1, i1, out1, uout1) => [(0, va), (3, v1_2), (4, (.int .i64 (i1 : Int)))]) (fun (fu1, i1, out1, uout1) => Hp w [tabI 34 3 v1_2 uout1 out1]) (fun (fu1, i1, out1, uout1) => (i1 ≤ a.length) ∧ (out1.length = a.length) ∧ a.length - i1 < fu1 ∧ F_laws_toIntSS_L1 a fu1 (i1, out1) = c16) (fun (fu1, i1, out1, uout1) => fu1) ((a.length - 0) + 1, 0, (List.replicate a.length ([] : List Int)), (List.replicate a.length (.slice none 0 0))) ⟨(by first | omega | (simp [-List.getD_eq_getElem?_getD] <;> omega)), (by first | omega | (simp [-List.getD_eq_getElem?_getD] <;> omega)), (by omega), hc17⟩ ⟨rfl, rfl, rfl, trivial⟩ (fun w hw => hw) ?_
  rintro ⟨fu1, i1, out1, uout1⟩ hJ1
  obtain ⟨hi1_0, hi1_1, hmu1, hL1⟩ : (i1 ≤ a.length) ∧ (out1.length = a.length) ∧ a.length - i1 < fu1 ∧ F_laws_toIntSS_L1 a fu1 (i1, out1) = c16 := hJ1
  change TC _ _ _ _ (Hp w [tabI 34 3 v1_2 uout1 out1]) [(0, va), (3, v1_2), (4, (.int .i64 (i1 : Int)))]
  obtain ⟨mf1, rfl⟩ : ∃ m, fu1 = m + 1 := ⟨fu1 - 1, by omega⟩
  rw [F_laws_toIntSS_L1_s] at hL1
  have hrow := hp1 i1
  refine TC.seq ?_
  refine TC.seq ?_
  refine TC.region ?_
  refine TL.op (yq (y_move (ev_t rfl))) rfl rfl rfl ?_
  refine TL.op (yq (y_move (ev_t rfl))) rfl rfl rfl ?_
  refine TL.op (yq (y_len (ev_t rfl) Try.underlying49 (fun w hw => ((fun w hw => ((rii_arg ha) w hw).1) w hw).ln))) rfl rfl rfl ?_
  refine TL.op (yq (y_lss (ev_t rfl) (ev_t rfl))) rfl rfl rfl ?_
  refine TL.nil ?_
  refine TN.seq ?_
  refine TC.cond (b := decide ((i1 : Int) < (a.length : Int))) (ev_t rfl) (fun h18 => ?_) (fun h18 => ?_)
  · rw [bif_pos h18] at hL1
    have q19 := (of_decide_eq_true h18)
    refine TC.skip ?_
    refine TN.seq ?_
    refine TC.seq ?_
    refine TC.block ?_
    refine TC.region ?_
    refine TL.op (yq (y_move (ev_t rfl))) rfl rfl rfl ?_
    refine TL.op (yq (y_move (ev_t rfl))) rfl rfl rfl ?_
    refine TL.op (yq (y_move (ev_t rfl))) rfl rfl rfl ?_
    refine TL.op (yq (y_move (ev_t rfl))) rfl rfl rfl ?_
    have hb20 : i1 < a.length := (by first | omega | (simp only [List.length_set, List.length_append, List.length_cons, List.length_nil, List.length_replicate]; omega) | (rw [sortI_length]; simp only [List.length_cons, List.length_nil]; omega))
    refine TL.op (yq (y_idx (k := i1) (ev_t rfl) (ev_t rfl) (by first | omega | simp) slT_49 (fun w hw => ((rii_arg ha) w hw).1) hb20)) rfl rfl rfl ?_
    have ha21 := ha.row (i := i1) hb20
    refine TL.op (yq (y_ldA (ev_t rfl) one_34 (rii_arg ha) hb20)) rfl rfl rfl ?_
    refine TL.callr (ι := Value) (vs := [(ua.getD i1 undef)]) (fun i => i) (fun i => [rowI 3 i (F_laws_toIntS (a.getD i1 []))]) en_51 ⟨(ev_t rfl), trivial⟩ rfl (fun w hw => laws_toIntS_ok w (ua.getD i1 undef) (a.getD i1 []) ((ri_arg ha21) w hw) (by first | assumption | omega | grind)) (fun r5_6 => ?_)
    have hb22 : i1 < out1.length := (by first | omega | (simp only [List.length_set, List.length_append, List.length_cons, List.length_nil, List.length_replicate]; omega) | (rw [sortI_length]; simp only [List.length_cons, List.length_nil]; omega))
    refine TL.op (yq (y_idx (k := i1) (ev_t rfl) (ev_t rfl) (by first | omega | simp) slT_49 (fun w hw => ((rii_tab 1 rfl) w hw).1) hb22)) rfl rfl rfl ?_
    refine TL.storeU 1 0 rfl (ev_t rfl) (ev_t rfl) one_34 rfl rfl hb22 ?_
    refine TL.nil ?_
    refine TN.blockN ?_
    refine TN.seq ?_
    refine TC.region ?_
    refine TL.op (yq (y_move (ev_t rfl))) rfl rfl rfl ?_
    refine TL.op (yq (y_add (ev_t rfl) ev_c (by unfold In64; constructor <;> omega))) rfl rfl rfl ?_
    refine TL.op (yq (y_assign (ev_t rfl))) rfl rfl rfl ?_
    refine TL.nil ?_
    exact TN.hand (mf1, (i1 + 1), (out1.set i1 (F_laws_toIntS (a.getD i1 []))), (uout1.set i1 r5_6)) ⟨(by first | omega | (simp [-List.getD_eq_getElem?_getD] <;> omega)), (by first | omega | (simp [-List.getD_eq_getElem?_getD] <;> omega)), (by omega), hL1⟩ (Nat.lt_succ_self _) ⟨rfl, rfl, rfl, trivial⟩ (fun w hw => Hp.sublist hw (.cons _ (.cons_cons _ .slnil)))
  · rw [bif_neg h18] at hL1
    have q19 := (of_decide_eq_false h18)
    refine TC.exit ?_
    refine TN.thenE ?_
    refine TN.thenE ?_
    rw [← hL1, elim_next] at hF
    try dsimp only at hF
    refine TN.blockH ?_
    refine TN.seq ?_
    refine TC.seq ?_
    refine TC.region ?_
    refine TL.op (yq (y_move (ev_t rfl))) rfl rfl rfl ?_
    refine TL.op (yq (y_assign (ev_t rfl))) rfl rfl rfl ?_
    refine TL.nil ?_
    refine TN.seq ?_
    refine TC.ret ?_
    subst hF
    exact TN.ret1 rfl (ev_t rfl) (fun w' hw => ⟨(v1_2, uout1), rfl, hw⟩)

set_option maxRecDepth 4000 in
set_option maxHeartbeats 1000000 in
theorem laws_toMetric_ok (w : World) (vm : Value) (um : List Value) (m : List (List Int)) (hm : RII w vm um m) (hp0 : m.length ≤ 1048576) (hp1 : ∀ i, (m.getD i []).length ≤ 1048576) :
    Calls Try.prog 38 ([(.agg #[vm])] : List Value).toArray w (fun e w' => ∃ i : Value × List Value, e = .returned (.agg #[i.1]) ∧ Hp w [tabI 34 3 i.1 i.2 (F_laws_toMetric m)] w') := by
  obtain ⟨rz, hF⟩ : ∃ rz, (F_laws_toMetric m) = rz := ⟨_, rfl⟩
  rw [hF]
  unfold F_laws_toMetric at hF
  have hlen_m := argT_len hm
  refine calls_tc Try.func38 rfl rfl rfl ?_
  change TC _ _ _ _ (Hp w []) [(0, (.agg #[vm]))]
  refine TC.seq ?_
  refine TC.region ?_
  refine TL.box (ev_t rfl) rfl (fun g0_0 => ?_)
  refine TL.alloc (u := (.agg #[(.slice none 0 0)])) (by kernel_rfl) rfl (fun g0_1 => ?_)
  refine TL.nil ?_
  refine TN.seq ?_
  refine TC.seq ?_
  refine TC.region ?_
  refine TL.alloc (u := (.agg #[(.slice none 0 0)])) (by kernel_rfl) rfl (fun g1_0 => ?_)
  refine TL.nil ?_
  refine TN.seq ?_
  refine TC.seq ?_
  refine TC.region ?_
  refine TL.op (yq (y_fa (fa_51_0 g0_0) (ev_t rfl))) rfl rfl rfl ?_
  refine TL.op (yq (y_ldb 2 (ev_t rfl) one_49 rfl rfl)) rfl rfl rfl ?_
  refine TL.callr (ι := Value × List Value) (vs := [vm]) (fun i => i.1) (fun i => [tabI 34 3 i.1 i.2 (F_laws_toIntSS m)]) en_90 ⟨(ev_t rfl), trivial⟩ rfl (fun w hw => laws_toIntSS_ok w vm um m ((rii_arg hm) w hw) (by first | assumption | omega | grind) (by first | assumption | omega | grind)) (fun r2_2 => ?_)
  refine TL.op (yq (y_fa (fa_55_0 g1_0) (ev_t rfl))) rfl rfl rfl ?_
  refine TL.storeB 1 (ev_t rfl) (ev_t rfl) one_49 rfl (by first | decide | simp) (fun w hw => (ln_one ((fun w hw => ((rii_tab 0 rfl) w hw).1) w hw).ln)) ?_
  refine TL.nil ?_
  refine TN.seq ?_
  refine TC.seq ?_
  refine TC.region ?_
  refine TL.op (yq (y_ldagg (cs := [r2_2.1]) 1 (ev_t rfl) agg_55 rfl)) rfl rfl rfl ?_
  refine TL.storeAgg (cs := [(.slice none 0 0)]) (us := [r2_2.1]) 2 (ev_t rfl) (ev_t rfl) agg_55 rfl rfl (fun w hw => (ocs_cons (ln_one ((fun w hw => ((rii_tab 0 rfl) w hw).1) w hw).ln) ocs_nil)) ?_
  refine TL.nil ?_
  refine TN.seq ?_
  refine TC.ret ?_
  subst hF
  exact TN.retC (cs := [r2_2.1]) 2 (by simp) rfl (ev_t rfl) agg_55 rfl (fun w' hw => ⟨(r2_2.1, r2_2.2), rfl, Hp.sublist hw (.cons_cons _ (.cons _ (.cons _ (.cons _ .slnil))))⟩)

set_option maxRecDepth 4000 in
set_option maxHeartbeats 1000000 in
theorem laws_eqMetric_ok (w : World) (va : Value) (ua : List Value) (a : List (List Int)) (ha : RII w va ua a) (vb : Value) (ub : List Value) (b : List (List Int)) (hb : RII w vb ub b)  :
    Calls Try.prog 41 ([(.agg #[va]), (.agg #[vb])] : List Value).toArray w (Ret (.bool (F_laws_eqMetric a b)) (Hp w [])) := by
  obtain ⟨rz, hF⟩ : ∃ rz, (F_laws_eqMetric a b) = rz := ⟨_, rfl⟩
  rw [hF]
  unfold F_laws_eqMetric at hF
  have hlen_a := argT_len ha
  have hlen_b := argT_len hb
  refine calls_tc Try.func41 rfl rfl rfl ?_
  change TC _ _ _ _ (Hp w []) [(0, (.agg #[va])), (1, (.agg #[vb]))]
  refine TC.seq ?_
  refine TC.region ?_
  refine TL.box (ev_t rfl) rfl (fun g0_0 => ?_)
  refine TL.box (ev_t rfl) rfl (fun g0_1 => ?_)
  refine TL.op (yq (y_assign ev_c)) rfl rfl rfl ?_
  refine TL.nil ?_
  refine TN.seq ?_
  refine TC.seq ?_
  refine TC.seq ?_
  refine TC.region ?_
  refine TL.op (yq (y_fa (fa_55_0 g0_0) (ev_t rfl))) rfl rfl rfl ?_
  refine TL.op (yq (y_ldb 1 (ev_t rfl) one_49 rfl rfl)) rfl rfl rfl ?_
  refine TL.op (yq (y_fa (fa_55_0 g0_1) (ev_t rfl))) rfl rfl rfl ?_
  refine TL.op (yq (y_ldb 0 (ev_t rfl) one_49 rfl rfl)) rfl rfl rfl ?_
  refine TL.op (y_call (vs := [va, vb]) (v := (.bool (F_laws_eqIntSS a b))) en_47 ⟨(ev_t rfl), (ev_t rfl), trivial⟩ (fun w hw => laws_eqIntSS_ok w va ua a ((rii_arg ha) w hw) vb ub b ((rii_arg hb) w hw))) rfl rfl rfl ?_
  refine TL.op (yq (y_not (ev_t rfl))) rfl rfl rfl ?_
  refine TL.nil ?_
  refine TN.seq ?_
  refine TC.cond (b := !(F_laws_eqIntSS a b)) (ev_t rfl) (fun h3 => ?_) (fun h3 => ?_)
  · rw [bif_pos h3] at hF
    have q4 := (not_t h3)
    refine TC.seq ?_
    refine TC.region ?_
    refine TL.op (yq (y_assign ev_c)) rfl rfl rfl ?_
    refine TL.nil ?_
    refine TN.seq ?_
    refine TC.ret ?_
    refine TN.thenR ?_
    subst hF
    exact TN.ret1 rfl (ev_t rfl) (fun w' hw => ⟨rfl, Hp.sublist hw (List.nil_sublist _)⟩)
  · rw [bif_neg h3] at hF
    have q4 := (not_f h3)
    refine TC.skip ?_
    refine TN.seq ?_
    refine TC.seq ?_
    refine TC.region ?_
    refine TL.op (yq (y_assign ev_c)) rfl rfl rfl ?_
    refine TL.nil ?_
    refine TN.seq ?_
    refine TC.ret ?_
    subst hF
    exact TN.ret1 rfl (ev_t rfl) (fun w' hw => ⟨rfl, Hp.sublist hw (List.nil_sublist _)⟩)

end Go.Proofs.Ytcmhgkcifejgcaa
namespace Go.Proofs.Ytcmhgkcifejgcaa
open Go Go.RowKit
set_option linter.unusedVariables false

def F_spec_l7Rise_L3 (m : List (List Int)) (a : List Int) (reqs : List Int) (before : List Int) (k13_2 : Nat) (m0_2 : List Int) (m1_2 : List Int) : Nat → Bool × Nat × List Int → Ctl (Bool × Nat × List Int) (List Int × List Int)
  | 0, s => .next s
  | mf3 + 1, (k12_3, k14_3, m0_3) => (bif decide ((k14_3 : Int) < (a.length : Int) + (k13_2 : Int)) then (bif decide ((m0_3.getD k14_3 0) < ((m1_2.set k13_2 ((m0_2.getD (((before.getD k13_2 0)).toNat) 0) + (F_spec_l7Gap m a reqs (before.getD k13_2 0) (k13_2 : Int)))).getD k13_2 0) - (F_spec_l7Gap m a reqs (k14_3 : Int) (k13_2 : Int))) then F_spec_l7Rise_L3 m a reqs before k13_2 m0_2 m1_2 mf3 (true, (k14_3 + 1), (m0_3.set k14_3 (((m1_2.set k13_2 ((m0_2.getD (((before.getD k13_2 0)).toNat) 0) + (F_spec_l7Gap m a reqs (before.getD k13_2 0) (k13_2 : Int)))).getD k13_2 0) - (F_spec_l7Gap m a reqs (k14_3 : Int) (k13_2 : Int))))) else F_spec_l7Rise_L3 m a reqs before k13_2 m0_2 m1_2 mf3 (k12_3, (k14_3 + 1), m0_3)) else (.next (k12_3, k14_3, m0_3)))
theorem F_spec_l7Rise_L3_s (m : List (List Int)) (a : List Int) (reqs : List Int) (before : List Int) (k13_2 : Nat) (m0_2 : List Int) (m1_2 : List Int) (k12_3 : Bool) (k14_3 : Nat) (m0_3 : List Int) (mf3 : Nat) : F_spec_l7Rise_L3 m a reqs before k13_2 m0_2 m1_2 (mf3 + 1) (k12_3, k14_3, m0_3) = (bif decide ((k14_3 : Int) < (a.length : Int) + (k13_2 : Int)) then (bif decide ((m0_3.getD k14_3 0) < ((m1_2.set k13_2 ((m0_2.getD (((before.getD k13_2 0)).toNat) 0) + (F_spec_l7Gap m a reqs (before.getD k13_2 0) (k13_2 : Int)))).getD k13_2 0) - (F_spec_l7Gap m a reqs (k14_3 : Int) (k13_2 : Int))) then F_spec_l7Rise_L3 m a reqs before k13_2 m0_2 m1_2 mf3 (true, (k14_3 + 1), (m0_3.set k14_3 (((m1_2.set k13_2 ((m0_2.getD (((before.getD k13_2 0)).toNat) 0) + (F_spec_l7Gap m a reqs (before.getD k13_2 0) (k13_2 : Int)))).getD k13_2 0) - (F_spec_l7Gap m a reqs (k14_3 : Int) (k13_2 : Int))))) else F_spec_l7Rise_L3 m a reqs before k13_2 m0_2 m1_2 mf3 (k12_3, (k14_3 + 1), m0_3)) else (.next (k12_3, k14_3, m0_3))) := rfl
def F_spec_l7Rise_L2 (m : List (List Int)) (a : List Int) (reqs : List Int) (before : List Int) : Nat → Bool × Nat × List Int × List Int → Ctl (Bool × Nat × List Int × List Int) (List Int × List Int)
  | 0, s => .next s
  | mf2 + 1, (k12_2, k13_2, m0_2, m1_2) => (bif decide ((k13_2 : Int) < (reqs.length : Int)) then ((F_spec_l7Rise_L3 m a reqs before k13_2 m0_2 m1_2 ((a.length + k13_2 - 0) + 1) (k12_2, 0, m0_2)).elim (fun (k12_3, _, m0_3) => F_spec_l7Rise_L2 m a reqs before mf2 (k12_3, (k13_2 + 1), m0_3, (m1_2.set k13_2 ((m0_2.getD (((before.getD k13_2 0)).toNat) 0) + (F_spec_l7Gap m a reqs (before.getD k13_2 0) (k13_2 : Int)))))) (fun r => .ret r)) else (.next (k12_2, k13_2, m0_2, m1_2)))
theorem F_spec_l7Rise_L2_s (m : List (List Int)) (a : List Int) (reqs : List Int) (before : List Int) (k12_2 : Bool) (k13_2 : Nat) (m0_2 : List Int) (m1_2 : List Int) (mf2 : Nat) : F_spec_l7Rise_L2 m a reqs before (mf2 + 1) (k12_2, k13_2, m0_2, m1_2) = (bif decide ((k13_2 : Int) < (reqs.length : Int)) then ((F_spec_l7Rise_L3 m a reqs before k13_2 m0_2 m1_2 ((a.length + k13_2 - 0) + 1) (k12_2, 0, m0_2)).elim (fun (k12_3, _, m0_3) => F_spec_l7Rise_L2 m a reqs before mf2 (k12_3, (k13_2 + 1), m0_3, (m1_2.set k13_2 ((m0_2.getD (((before.getD k13_2 0)).toNat) 0) + (F_spec_l7Gap m a reqs (before.getD k13_2 0) (k13_2 : Int)))))) (fun r => .ret r)) else (.next (k12_2, k13_2, m0_2, m1_2))) := rfl
def F_spec_l7Rise_L1 (m : List (List Int)) (a : List Int) (reqs : List Int) (before : List Int) : Nat → Bool × List Int × List Int → Ctl (Bool × List Int × List Int) (List Int × List Int)
  | 0, s => .next s
  | mf1 + 1, (k12_1, m0_1, m1_1) => (bif k12_1 then ((F_spec_l7Rise_L2 m a reqs before ((reqs.length - 0) + 1) (false, 0, m0_1, m1_1)).elim (fun (k12_2, _, m0_2, m1_2) => F_spec_l7Rise_L1 m a reqs before mf1 (k12_2, m0_2, m1_2)) (fun r => .ret r)) else (.next (k12_1, m0_1, m1_1)))
theorem F_spec_l7Rise_L1_s (m : List (List Int)) (a : List Int) (reqs : List Int) (before : List Int) (k12_1 : Bool) (m0_1 : List Int) (m1_1 : List Int) (mf1 : Nat) : F_spec_l7Rise_L1 m a reqs before (mf1 + 1) (k12_1, m0_1, m1_1) = (bif k12_1 then ((F_spec_l7Rise_L2 m a reqs before ((reqs.length - 0) + 1) (false, 0, m0_1, m1_1)).elim (fun (k12_2, _, m0_2, m1_2) => F_spec_l7Rise_L1 m a reqs before mf1 (k12_2, m0_2, m1_2)) (fun r => .ret r)) else (.next (k12_1, m0_1, m1_1))) := rfl
def F_spec_l7Rise (m : List (List Int)) (a : List Int) (reqs : List Int) (before : List Int) : List Int × List Int := ((F_spec_l7Rise_L1 m a reqs before ((2 * (1000000 - Th.lsum (List.replicate (a.length + reqs.length) (0 : Int))).toNat + (bif true then 1 else 0)) + 1) (true, (List.replicate (a.length + reqs.length) (0 : Int)), (List.replicate reqs.length (0 : Int)))).elim (fun (_, m0_1, m1_1) => (m1_1, m0_1)) (fun r => r))

def F_spec_LeastPrices (m : List (List Int)) (a : List Int) (reqs : List Int) : List Int × Bool := (bif ((!(F_spec_l6Good m)) || (!(F_spec_l6Start m a reqs))) then (([] : List Int), false) else ((F_spec_l7Rise m a reqs (F_spec_l7Flow m a reqs)).1, true))

def F_impl_LeastPrices_L1 (m : List (List Int)) (a : List Int) (reqs : List Int) : Nat → List Int × Nat → Ctl (List Int × Nat) (List Int × Bool)
  | 0, s => .next s
  | mf1 + 1, (k11_1, k40_1) => (bif decide ((k40_1 : Int) < ((F_impl_assigned ((F_impl_flowOf m a reqs).2)).1.length : Int)) then F_impl_LeastPrices_L1 m a reqs mf1 ((k11_1 ++ ([(((F_impl_flowOf m a reqs).2.getD k40_1 []).getD ((((F_impl_assigned ((F_impl_flowOf m a reqs).2)).1.getD k40_1 0)).toNat) 0)])), (k40_1 + 1)) else (.next (k11_1, k40_1)))
theorem F_impl_LeastPrices_L1_s (m : List (List Int)) (a : List Int) (reqs : List Int) (k11_1 : List Int) (k40_1 : Nat) (mf1 : Nat) : F_impl_LeastPrices_L1 m a reqs (mf1 + 1) (k11_1, k40_1) = (bif decide ((k40_1 : Int) < ((F_impl_assigned ((F_impl_flowOf m a reqs).2)).1.length : Int)) then F_impl_LeastPrices_L1 m a reqs mf1 ((k11_1 ++ ([(((F_impl_flowOf m a reqs).2.getD k40_1 []).getD ((((F_impl_assigned ((F_impl_flowOf m a reqs).2)).1.getD k40_1 0)).toNat) 0)])), (k40_1 + 1)) else (.next (k11_1, k40_1))) := rfl
def F_impl_LeastPrices_L4 (m : List (List Int)) (a : List Int) (reqs : List Int) (k62_3 : Nat) : Nat → Bool × Nat × List Int → Ctl (Bool × Nat × List Int) (List Int × Bool)
  | 0, s => .next s
  | mf4 + 1, (k14_4, k72_4, m0_4) => (bif decide ((k72_4 : Int) < ((F_impl_flowOf m a reqs).2.length : Int)) then (bif decide ((((F_impl_flowOf m a reqs).2.getD k72_4 []).getD ((((F_impl_assigned ((F_impl_flowOf m a reqs).2)).1.getD k62_3 0)).toNat) 0) = 1073741824) then F_impl_LeastPrices_L4 m a reqs k62_3 mf4 (k14_4, (k72_4 + 1), m0_4) else (bif decide ((m0_4.getD k62_3 0) < ((m0_4.getD k72_4 0) - (((F_impl_flowOf m a reqs).2.getD k72_4 []).getD ((((F_impl_assigned ((F_impl_flowOf m a reqs).2)).1.getD k62_3 0)).toNat) 0)) + (((F_impl_flowOf m a reqs).2.getD k62_3 []).getD ((((F_impl_assigned ((F_impl_flowOf m a reqs).2)).1.getD k62_3 0)).toNat) 0)) then F_impl_LeastPrices_L4 m a reqs k62_3 mf4 (true, (k72_4 + 1), (m0_4.set k62_3 (((m0_4.getD k72_4 0) - (((F_impl_flowOf m a reqs).2.getD k72_4 []).getD ((((F_impl_assigned ((F_impl_flowOf m a reqs).2)).1.getD k62_3 0)).toNat) 0)) + (((F_impl_flowOf m a reqs).2.getD k62_3 []).getD ((((F_impl_assigned ((F_impl_flowOf m a reqs).2)).1.getD k62_3 0)).toNat) 0)))) else F_impl_LeastPrices_L4 m a reqs k62_3 mf4 (k14_4, (k72_4 + 1), m0_4))) else (.next (k14_4, k72_4, m0_4)))
theorem F_impl_LeastPrices_L4_s (m : List (List Int)) (a : List Int) (reqs : List Int) (k62_3 : Nat) (k14_4 : Bool) (k72_4 : Nat) (m0_4 : List Int) (mf4 : Nat) : F_impl_LeastPrices_L4 m a reqs k62_3 (mf4 + 1) (k14_4, k72_4, m0_4) = (bif decide ((k72_4 : Int) < ((F_impl_flowOf m a reqs).2.length : Int)) then (bif decide ((((F_impl_flowOf m a reqs).2.getD k72_4 []).getD ((((F_impl_assigned ((F_impl_flowOf m a reqs).2)).1.getD k62_3 0)).toNat) 0) = 1073741824) then F_impl_LeastPrices_L4 m a reqs k62_3 mf4 (k14_4, (k72_4 + 1), m0_4) else (bif decide ((m0_4.getD k62_3 0) < ((m0_4.getD k72_4 0) - (((F_impl_flowOf m a reqs).2.getD k72_4 []).getD ((((F_impl_assigned ((F_impl_flowOf m a reqs).2)).1.getD k62_3 0)).toNat) 0)) + (((F_impl_flowOf m a reqs).2.getD k62_3 []).getD ((((F_impl_assigned ((F_impl_flowOf m a reqs).2)).1.getD k62_3 0)).toNat) 0)) then F_impl_LeastPrices_L4 m a reqs k62_3 mf4 (true, (k72_4 + 1), (m0_4.set k62_3 (((m0_4.getD k72_4 0) - (((F_impl_flowOf m a reqs).2.getD k72_4 []).getD ((((F_impl_assigned ((F_impl_flowOf m a reqs).2)).1.getD k62_3 0)).toNat) 0)) + (((F_impl_flowOf m a reqs).2.getD k62_3 []).getD ((((F_impl_assigned ((F_impl_flowOf m a reqs).2)).1.getD k62_3 0)).toNat) 0)))) else F_impl_LeastPrices_L4 m a reqs k62_3 mf4 (k14_4, (k72_4 + 1), m0_4))) else (.next (k14_4, k72_4, m0_4))) := rfl
def F_impl_LeastPrices_L3 (m : List (List Int)) (a : List Int) (reqs : List Int) : Nat → Bool × Nat × List Int → Ctl (Bool × Nat × List Int) (List Int × Bool)
  | 0, s => .next s
  | mf3 + 1, (k14_3, k62_3, m0_3) => (bif decide ((k62_3 : Int) < ((F_impl_assigned ((F_impl_flowOf m a reqs).2)).1.length : Int)) then ((F_impl_LeastPrices_L4 m a reqs k62_3 ((((F_impl_flowOf m a reqs).2.length) - 0) + 1) (k14_3, 0, m0_3)).elim (fun (k14_4, _, m0_4) => F_impl_LeastPrices_L3 m a reqs mf3 (k14_4, (k62_3 + 1), m0_4)) (fun r => .ret r)) else (.next (k14_3, k62_3, m0_3)))
theorem F_impl_LeastPrices_L3_s (m : List (List Int)) (a : List Int) (reqs : List Int) (k14_3 : Bool) (k62_3 : Nat) (m0_3 : List Int) (mf3 : Nat) : F_impl_LeastPrices_L3 m a reqs (mf3 + 1) (k14_3, k62_3, m0_3) = (bif decide ((k62_3 : Int) < ((F_impl_assigned ((F_impl_flowOf m a reqs).2)).1.length : Int)) then ((F_impl_LeastPrices_L4 m a reqs k62_3 ((((F_impl_flowOf m a reqs).2.length) - 0) + 1) (k14_3, 0, m0_3)).elim (fun (k14_4, _, m0_4) => F_impl_LeastPrices_L3 m a reqs mf3 (k14_4, (k62_3 + 1), m0_4)) (fun r => .ret r)) else (.next (k14_3, k62_3, m0_3))) := rfl
def F_impl_LeastPrices_L2 (m : List (List Int)) (a : List Int) (reqs : List Int) : Nat → Bool × List Int → Ctl (Bool × List Int) (List Int × Bool)
  | 0, s => .next s
  | mf2 + 1, (k14_2, m0_2) => (bif k14_2 then ((F_impl_LeastPrices_L3 m a reqs ((((F_impl_assigned ((F_impl_flowOf m a reqs).2)).1.length) - 0) + 1) (false, 0, m0_2)).elim (fun (k14_3, _, m0_3) => F_impl_LeastPrices_L2 m a reqs mf2 (k14_3, m0_3)) (fun r => .ret r)) else (.next (k14_2, m0_2)))
theorem F_impl_LeastPrices_L2_s (m : List (List Int)) (a : List Int) (reqs : List Int) (k14_2 : Bool) (m0_2 : List Int) (mf2 : Nat) : F_impl_LeastPrices_L2 m a reqs (mf2 + 1) (k14_2, m0_2) = (bif k14_2 then ((F_impl_LeastPrices_L3 m a reqs ((((F_impl_assigned ((F_impl_flowOf m a reqs).2)).1.length) - 0) + 1) (false, 0, m0_2)).elim (fun (k14_3, _, m0_3) => F_impl_LeastPrices_L2 m a reqs mf2 (k14_3, m0_3)) (fun r => .ret r)) else (.next (k14_2, m0_2))) := rfl
def F_impl_LeastPrices (m : List (List Int)) (a : List Int) (reqs : List Int) : List Int × Bool := (bif !(F_impl_isServed m a reqs) then ([], false) else ((F_impl_LeastPrices_L1 m a reqs ((((F_impl_assigned ((F_impl_flowOf m a reqs).2)).1.length) - 0) + 1) (([] : List Int), 0)).elim (fun (k11_1, _) => ((F_impl_LeastPrices_L2 m a reqs ((2 * (1000000 - Th.lsum k11_1).toNat + (bif true then 1 else 0)) + 1) (true, k11_1)).elim (fun (_, m0_2) => (m0_2, true)) (fun r => r))) (fun r => r)))

def F_laws_FnExactLeastPrices (m : List (List Int)) (a : List Int) (reqs : List Int) : Bool := (bif decide (1048576 < (a.length : Int)) then true else (bif decide (1048576 < (reqs.length : Int)) then true else (bif decide ((F_laws_szMetric m 1048576) < 0) then true else (bif ((!(F_laws_eqIntS ((F_impl_LeastPrices (F_laws_toMetric m) (F_laws_toIntS a) (F_laws_toIntS reqs)).1) ((F_spec_LeastPrices (F_laws_toMetric m) (F_laws_toIntS a) (F_laws_toIntS reqs)).1))) || (((F_impl_LeastPrices (F_laws_toMetric m) (F_laws_toIntS a) (F_laws_toIntS reqs)).2) != ((F_spec_LeastPrices (F_laws_toMetric m) (F_laws_toIntS a) (F_laws_toIntS reqs)).2))) then false else (bif !(F_laws_eqMetric (F_laws_toMetric m) (F_laws_toMetric m)) then false else (bif !(F_laws_eqIntS (F_laws_toIntS a) (F_laws_toIntS a)) then false else (bif !(F_laws_eqIntS (F_laws_toIntS reqs) (F_laws_toIntS reqs)) then false else (bif (((decide ((F_laws_markIntS (F_laws_toIntS reqs) ((F_laws_markIntS (F_laws_toIntS a) ((F_laws_markMetric (F_laws_toMetric m) 1).1)).1)).1 < 0)) || (!(F_laws_eqIntS ((F_impl_LeastPrices (F_laws_toMetric m) (F_laws_toIntS a) (F_laws_toIntS reqs)).1) ((F_spec_LeastPrices (F_laws_toMetric m) (F_laws_toIntS a) (F_laws_toIntS reqs)).1)))) || (((F_impl_LeastPrices (F_laws_toMetric m) (F_laws_toIntS a) (F_laws_toIntS reqs)).2) != ((F_spec_LeastPrices (F_laws_toMetric m) (F_laws_toIntS a) (F_laws_toIntS reqs)).2))) then false else (bif decide ((F_laws_heldIntS ((F_laws_markIntS ((F_impl_LeastPrices (F_laws_toMetric m) (F_laws_toIntS a) (F_laws_toIntS reqs)).1) 1).2) 1) < 0) then false else (bif !decide ((F_laws_heldIntS ((F_laws_markIntS ((F_impl_LeastPrices (F_laws_toMetric m) (F_laws_toIntS a) (F_laws_toIntS reqs)).1) 1).2) 1) = (F_laws_markIntS ((F_impl_LeastPrices (F_laws_toMetric m) (F_laws_toIntS a) (F_laws_toIntS reqs)).1) 1).1) then false else true))))))))))


end Go.Proofs.Ytcmhgkcifejgcaa
namespace Go.Proofs.Ytcmhgkcifejgcaa
open Go Go.RowKit
set_option linter.unusedVariables false

abbrev okF (a : List Int) (l x : Nat) : Prop := l < a.length + x
abbrev RiM (m : List (List Int)) (a reqs before rents : List Int) : Prop := Th.Ri reqs.length (a.length + reqs.length) (fun l x => gap m a reqs l x) (fun l x => l < a.length + x) (Th.colOf before) rents
abbrev PiM (m : List (List Int)) (a reqs ps : List Int) : Prop := Th.Pi reqs.length (fun l x => gap m a reqs l x) (fun l x => l < a.length + x) (Th.colOf (F_impl_assigned (F_impl_flowOf m a reqs).2).1) ps
section
variable {m : List (List Int)} {a reqs before : List Int} {p r : Nat → Int} {rents : List Int}
theorem ri_init (m : List (List Int)) (a reqs before : List Int) : RiM m a reqs before (List.replicate (a.length + reqs.length) 0) := Th.Ri.init
theorem Aq.crt (hA : Aq m a reqs before p r) (hl : before.length = reqs.length) : Th.Cert reqs.length (a.length + reqs.length) (fun l x => gap m a reqs l x) (fun l x => l < a.length + x) (Th.colOf before) p r := by
  have := hA.cert; rwa [hl] at this
theorem Aq.pb2 (hA : Aq m a reqs before p r) (hl : before.length = reqs.length) : ∀ i, i < reqs.length → p i ≤ 5940 := fun i hi => by
  have h1 := (hA.pb i (by omega)).2
  have h2 := hA.sv.r60
  omega
theorem rise_bd (hA : Aq m a reqs before p r) (hl : before.length = reqs.length) (h : RiM m a reqs before rents) (l : Nat) (hl2 : l < a.length + reqs.length) : 0 ≤ rents.getD l 0 ∧ rents.getD l 0 ≤ 5940 :=
  h.bd (hA.crt hl) (by omega) (hA.pb2 hl) (fun l i => (gap_all hA.sv l i).1) l hl2
theorem rise_sum (hA : Aq m a reqs before p r) (hl : before.length = reqs.length) (h : RiM m a reqs before rents) : Th.lsum rents ≤ 1000000 := by
  have h1 := h.len
  have h2 := hA.sv.r60
  have h3 := hA.sv.cf.n3
  have := Th.lsum_high (B := 5940) (by omega) rents fun i hi => (rise_bd hA hl h i (by omega)).2
  omega
theorem rise_low (hA : Aq m a reqs before p r) (hl : before.length = reqs.length) (h : RiM m a reqs before rents) {i : Nat} {ps : List Int} (hi : i < reqs.length) (hps : ps.length = reqs.length) :
    Th.Low reqs.length (a.length + reqs.length) (fun l x => gap m a reqs l x) (fun l x => l < a.length + x) (Th.colOf before) i ((ps.set i (rents.getD ((before.getD i 0)).toNat 0 + F_spec_l7Gap m a reqs (before.getD i 0) (i : Int))).getD i 0) ∧
      (0 ≤ (ps.set i (rents.getD ((before.getD i 0)).toNat 0 + F_spec_l7Gap m a reqs (before.getD i 0) (i : Int))).getD i 0 ∧ (ps.set i (rents.getD ((before.getD i 0)).toNat 0 + F_spec_l7Gap m a reqs (before.getD i 0) (i : Int))).getD i 0 ≤ 6100) := by
  rw [getD_set_eq _ _ _ _ (by omega)]
  have hb := hA.hb i (by omega)
  have e : before.getD i 0 = ((Th.colOf before i : Nat) : Int) := by unfold Th.colOf; omega
  have h1 := rise_bd hA hl h (before.getD i 0).toNat (by omega)
  have h2 := gap_any hA.sv (before.getD i 0) (i : Int)
  have h3 := h.price (hA.crt hl).mt hi
  refine ⟨?_, by omega, by omega⟩
  have e2 : F_spec_l7Gap m a reqs (before.getD i 0) (i : Int) = gap m a reqs (Th.colOf before i) i := by rw [← gap_eq, ← e]
  rw [e2]
  exact h3
theorem rise_step (hA : Aq m a reqs before p r) (hl : before.length = reqs.length) (h : RiM m a reqs before rents) {i l : Nat} {v : Int} (hv : Th.Low reqs.length (a.length + reqs.length) (fun l x => gap m a reqs l x) (fun l x => l < a.length + x) (Th.colOf before) i v)
    (hi : i < reqs.length) (hl2 : l < a.length + i) (hq : rents.getD l 0 < v - F_spec_l7Gap m a reqs (l : Int) (i : Int)) :
    RiM m a reqs before (rents.set l (v - F_spec_l7Gap m a reqs (l : Int) (i : Int))) ∧ Th.lsum rents < Th.lsum (rents.set l (v - F_spec_l7Gap m a reqs (l : Int) (i : Int))) := by
  rw [gap_eq] at hq ⊢
  exact h.step hi (by omega) hl2 hv hq
/-! the reference -/
/-- The first places are paid for, with no rent too small; and the first columns of the next. -/
def Pd (m : List (List Int)) (a reqs before rents ps : List Int) (i0 : Nat) : Prop :=
  ∀ i, i < i0 → i < reqs.length → ps.getD i 0 = rents.getD (Th.colOf before i) 0 + gap m a reqs (Th.colOf before i) i ∧ ∀ l, l < a.length + i → ps.getD i 0 ≤ rents.getD l 0 + gap m a reqs l i
theorem rise_L3 (hA : Aq m a reqs before p r) (hlb : before.length = reqs.length) {i : Nat} (hi : i < reqs.length) {rents0 rents1 ps : List Int} (hps : ps.length = reqs.length) (h1 : RiM m a reqs before rents1) : ∀ (fuel l : Nat) (b : Bool) (rents : List Int), a.length + i - l < fuel → l ≤ a.length + i →
    RiM m a reqs before rents → Th.Rup b rents rents0 → (b = false → rents = rents1 ∧ ∀ l', l' < l → (ps.set i (rents1.getD ((before.getD i 0)).toNat 0 + F_spec_l7Gap m a reqs (before.getD i 0) (i : Int))).getD i 0 ≤ rents.getD l' 0 + gap m a reqs l' i) →
    ∃ b' l' rents', F_spec_l7Rise_L3 m a reqs before i rents1 ps fuel (b, l, rents) = .next (b', l', rents') ∧ RiM m a reqs before rents' ∧ Th.Rup b' rents' rents0 ∧
      (b' = false → rents' = rents1 ∧ b = false ∧ ∀ l', l' < a.length + i → (ps.set i (rents1.getD ((before.getD i 0)).toNat 0 + F_spec_l7Gap m a reqs (before.getD i 0) (i : Int))).getD i 0 ≤ rents'.getD l' 0 + gap m a reqs l' i) := by
  intro fuel
  induction fuel with
  | zero => intro l b rents hf; omega
  | succ mf ih =>
    intro l b rents hf hl hR hU hD
    rw [F_spec_l7Rise_L3_s]
    have hlow := rise_low hA hlb h1 (i := i) (ps := ps) hi hps
    by_cases hc : (l : Int) < (a.length : Int) + (i : Int)
    · rw [decide_eq_true hc, cond_true]
      by_cases hq : rents.getD l 0 < (ps.set i (rents1.getD ((before.getD i 0)).toNat 0 + F_spec_l7Gap m a reqs (before.getD i 0) (i : Int))).getD i 0 - F_spec_l7Gap m a reqs (l : Int) (i : Int)
      · rw [decide_eq_true hq, cond_true]
        have hst := rise_step hA hlb hR hlow.1 (l := l) hi (by omega) hq
        obtain ⟨b', l', rents', g1, g2, g3, g4⟩ := ih (l + 1) true _ (by omega) (by omega) hst.1 (hU.up hst.2) (fun hb => by cases hb)
        exact ⟨b', l', rents', g1, g2, g3, fun hb => by have := (g4 hb).2.1; cases this⟩
      · rw [decide_eq_false hq, cond_false]
        obtain ⟨b', l', rents', g1, g2, g3, g4⟩ := ih (l + 1) b rents (by omega) (by omega) hR hU (fun hb => ⟨(hD hb).1, fun l' hl' => by
          by_cases e : l' = l
          · subst e; rw [gap_eq] at hq; omega
          · exact (hD hb).2 l' (by omega)⟩)
        exact ⟨b', l', rents', g1, g2, g3, g4⟩
    · rw [decide_eq_false hc, cond_false]
      refine ⟨b, l, rents, rfl, hR, hU, fun hb => ⟨(hD hb).1, hb, fun l' hl' => (hD hb).2 l' (by omega)⟩⟩
theorem rise_L2 (hA : Aq m a reqs before p r) (hlb : before.length = reqs.length) {rents0 : List Int} : ∀ (fuel i : Nat) (b : Bool) (rents ps : List Int), reqs.length - i < fuel → i ≤ reqs.length →
    RiM m a reqs before rents → Th.Rup b rents rents0 → ps.length = reqs.length → (b = false → rents = rents0 ∧ Pd m a reqs before rents ps i) →
    ∃ b' i' rents' ps', F_spec_l7Rise_L2 m a reqs before fuel (b, i, rents, ps) = .next (b', i', rents', ps') ∧ RiM m a reqs before rents' ∧ Th.Rup b' rents' rents0 ∧ ps'.length = reqs.length ∧ (b' = false → Pd m a reqs before rents' ps' reqs.length) := by
  intro fuel
  induction fuel with
  | zero => intro i b rents ps hf; omega
  | succ mf ih =>
    intro i b rents ps hf hi hR hU hps hD
    rw [F_spec_l7Rise_L2_s]
    by_cases hc : (i : Int) < (reqs.length : Int)
    · rw [decide_eq_true hc, cond_true]
      obtain ⟨b', l', rents', g1, g2, g3, g4⟩ := rise_L3 hA hlb (i := i) (by omega) (rents0 := rents0) hps hR (a.length + i - 0 + 1) 0 b rents (by omega) (by omega) hR hU (fun hb => ⟨rfl, fun l' hl' => by omega⟩)
      rw [g1, elim_next]
      refine ih (i + 1) b' rents' _ (by omega) (by omega) g2 g3 (by rw [List.length_set]; exact hps) fun hb => ?_
      obtain ⟨e1, e2, e3⟩ := g4 hb
      obtain ⟨d1, d2⟩ := hD e2
      refine ⟨by rw [e1, d1], fun x hx hxr => ?_⟩
      by_cases e : x = i
      · subst e
        refine ⟨?_, fun l hl => e3 l hl⟩
        rw [getD_set_eq _ _ _ _ (by omega), e1]
        have hb := hA.hb x (by omega)
        have e' : before.getD x 0 = ((Th.colOf before x : Nat) : Int) := by unfold Th.colOf; omega
        have e2' : F_spec_l7Gap m a reqs (before.getD x 0) (x : Int) = gap m a reqs (Th.colOf before x) x := by rw [← gap_eq, ← e']
        rw [e2']
      · rw [getD_set_ne _ _ _ _ _ (Ne.symm e), e1]
        exact d2 x (by omega) hxr
    · rw [decide_eq_false hc, cond_false]
      have e : i = reqs.length := by omega
      subst e
      exact ⟨b, _, rents, ps, rfl, hR, hU, hps, fun hb => (hD hb).2⟩
theorem rise_L1 (hA : Aq m a reqs before p r) (hlb : before.length = reqs.length) : ∀ (fuel : Nat) (b : Bool) (rents ps : List Int), 2 * (1000000 - Th.lsum rents).toNat + (bif b then 1 else 0) < fuel →
    RiM m a reqs before rents → ps.length = reqs.length → (b = false → Pd m a reqs before rents ps reqs.length) →
    ∃ b' rents' ps', F_spec_l7Rise_L1 m a reqs before fuel (b, rents, ps) = .next (b', rents', ps') ∧ RiM m a reqs before rents' ∧ ps'.length = reqs.length ∧ Pd m a reqs before rents' ps' reqs.length := by
  intro fuel
  induction fuel with
  | zero => intro b rents ps hf; omega
  | succ mf ih =>
    intro b rents ps hf hR hps hD
    rw [F_spec_l7Rise_L1_s]
    cases b with
    | true =>
      rw [cond_true] at hf ⊢
      obtain ⟨b', i', rents', ps', g1, g2, g3, g4, g5⟩ := rise_L2 hA hlb (rents0 := rents) (reqs.length - 0 + 1) 0 false rents ps (by omega) (Nat.zero_le _) hR (Th.Rup.init _) hps (fun _ => ⟨rfl, fun i hi => by omega⟩)
      rw [g1, elim_next]
      dsimp only
      have hmu := g3.mu (rise_sum hA hlb g2)
      exact ih b' rents' ps' (by omega) g2 g4 g5
    | false =>
      rw [cond_false]
      exact ⟨false, rents, ps, rfl, hR, hps, hD rfl⟩
/-- The reference's prices and rents are the least ones. -/
theorem rise_least (hA : Aq m a reqs before p r) (hlb : before.length = reqs.length) : (F_spec_l7Rise m a reqs before).1.length = reqs.length ∧ (F_spec_l7Rise m a reqs before).2.length = a.length + reqs.length ∧
    Th.LeastFix reqs.length (a.length + reqs.length) (fun l x => gap m a reqs l x) (fun l x => l < a.length + x) (Th.colOf before) (fun i => (F_spec_l7Rise m a reqs before).1.getD i 0) (fun l => (F_spec_l7Rise m a reqs before).2.getD l 0) := by
  unfold F_spec_l7Rise
  obtain ⟨b', rents, ps, g1, g2, g3, g4⟩ := rise_L1 hA hlb (2 * (1000000 - Th.lsum (List.replicate (a.length + reqs.length) 0)).toNat + (bif true then 1 else 0) + 1) true (List.replicate (a.length + reqs.length) 0) (List.replicate reqs.length 0) (by omega) (ri_init m a reqs before) (by simp) (fun hb => by cases hb)
  rw [g1, elim_next]
  dsimp only
  refine ⟨g3, g2.len, ⟨g2.nn, fun i l hi hl hk => (g4 i hi hi).2 l hk, fun i hi => (g4 i hi hi).1⟩, fun p' r' hf => ⟨fun i hi => ?_, fun l hl => g2.le p' r' hf l hl⟩⟩
  have h1 := (g4 i hi hi).1
  have h2 := g2.price (hA.crt hlb).mt hi p' r' hf
  try dsimp only at h1 h2 ⊢
  omega
/-! the program -/
theorem before_bd (h : Sv m a reqs) {i : Nat} (hi : i < reqs.length) : 0 ≤ (F_impl_assigned (F_impl_flowOf m a reqs).2).1.getD i 0 ∧ (F_impl_assigned (F_impl_flowOf m a reqs).2).1.getD i 0 < (a.length : Int) + (i : Int) := by
  obtain ⟨h1, h2, h3, _⟩ := flow_best h
  have h4 := h1.ok i hi
  have h5 := h3 i hi
  unfold Th.colOf at h4
  omega
theorem fc_el (h : Sv m a reqs) {i j : Nat} (hi : i < reqs.length) (hj : j < reqs.length) : ((F_impl_flowOf m a reqs).2.getD j []).getD ((F_impl_assigned (F_impl_flowOf m a reqs).2).1.getD i 0).toNat 0 =
    if Th.colOf (F_impl_assigned (F_impl_flowOf m a reqs).2).1 i < a.length + j then gap m a reqs (Th.colOf (F_impl_assigned (F_impl_flowOf m a reqs).2).1 i) j else 1073741824 := by
  have h1 := before_bd h hi
  exact (fw_cs h).el j _ hj (by omega)
/-- The first prices, as they begin. -/
structure Pt (m : List (List Int)) (a reqs : List Int) (k : Nat) (out : List Int) : Prop where
  len : out.length = k
  el : ∀ i, i < k → out.getD i 0 = gap m a reqs (Th.colOf (F_impl_assigned (F_impl_flowOf m a reqs).2).1 i) i
theorem pt_nil (m : List (List Int)) (a reqs : List Int) : Pt m a reqs 0 [] := ⟨rfl, fun i hi => by omega⟩
theorem getD_snoc (l : List Int) (v : Int) (j : Nat) : (l ++ [v]).getD j 0 = if j < l.length then l.getD j 0 else if j = l.length then v else 0 := by
  by_cases h : j < l.length
  · rw [if_pos h, List.getD_eq_getElem?_getD, List.getElem?_append_left h, ← List.getD_eq_getElem?_getD]
  · rw [if_neg h, List.getD_eq_getElem?_getD, List.getElem?_append_right (by omega)]
    by_cases e : j = l.length
    · rw [if_pos e, e]; simp
    · rw [if_neg e, List.getElem?_eq_none (by simp; omega)]; rfl
theorem pt_push (h : Sv m a reqs) {k : Nat} {out : List Int} (hP : Pt m a reqs k out) (hk : k < reqs.length) : Pt m a reqs (k + 1) (out ++ [((F_impl_flowOf m a reqs).2.getD k []).getD ((F_impl_assigned (F_impl_flowOf m a reqs).2).1.getD k 0).toNat 0]) := by
  have hl := hP.len
  have hb := before_bd h hk
  refine ⟨by simp [hl], fun i hi => ?_⟩
  rw [getD_snoc]
  by_cases e : i < k
  · rw [if_pos (by omega)]; exact hP.el i e
  · have e' : i = k := by omega
    subst e'
    rw [if_neg (by omega), if_pos hl.symm, fc_el h hk hk, if_pos (by unfold Th.colOf; omega)]
theorem pi_of (h : Sv m a reqs) {out : List Int} (hP : Pt m a reqs reqs.length out) : PiM m a reqs out :=
  ⟨hP.len, fun i hi => by rw [hP.el i hi]; exact Int.le_refl _, fun p' hf i hi => by rw [hP.el i hi]; exact hf.own i hi⟩
theorem lp_cert (h : Sv m a reqs) : ∃ p r, Th.Cert reqs.length (a.length + reqs.length) (fun l x => gap m a reqs l x) (fun l x => l < a.length + x) (Th.colOf (F_impl_assigned (F_impl_flowOf m a reqs).2).1) p r ∧ ∀ i, i < reqs.length → p i ≤ 5940 := by
  obtain ⟨hl, p, r, hA⟩ := flow_aq h
  obtain ⟨h1, _, _, h4, h5⟩ := flow_best h
  exact ⟨p, r, (hA.crt hl).other h1 (by omega), hA.pb2 hl⟩
theorem lp_bd (h : Sv m a reqs) {ps : List Int} (hP : PiM m a reqs ps) (i : Nat) (hi : i < reqs.length) : 0 ≤ ps.getD i 0 ∧ ps.getD i 0 ≤ 5940 := by
  obtain ⟨p, r, hc, hb⟩ := lp_cert h
  have h1 := hP.own i hi
  have h2 := (gap_all h (Th.colOf (F_impl_assigned (F_impl_flowOf m a reqs).2).1 i) i).1
  have h3 := hP.le p (hc.fix.pfix hc.mt) i hi
  have h4 := hb i hi
  omega
theorem lp_sum (h : Sv m a reqs) {ps : List Int} (hP : PiM m a reqs ps) : Th.lsum ps ≤ 1000000 := by
  have h1 := hP.len
  have h2 := h.r60
  have := Th.lsum_high (B := 5940) (by omega) ps fun i hi => (lp_bd h hP i (by omega)).2
  omega
theorem lp_step (h : Sv m a reqs) {ps : List Int} (hP : PiM m a reqs ps) {i j : Nat} (hi : i < reqs.length) (hj : j < reqs.length)
    (hnf : ¬ ((F_impl_flowOf m a reqs).2.getD j []).getD (((F_impl_assigned (F_impl_flowOf m a reqs).2).1.getD i 0)).toNat 0 = 1073741824)
    (hq : ps.getD i 0 < (ps.getD j 0 - ((F_impl_flowOf m a reqs).2.getD j []).getD (((F_impl_assigned (F_impl_flowOf m a reqs).2).1.getD i 0)).toNat 0) + ((F_impl_flowOf m a reqs).2.getD i []).getD (((F_impl_assigned (F_impl_flowOf m a reqs).2).1.getD i 0)).toNat 0) :
    PiM m a reqs (ps.set i ((ps.getD j 0 - ((F_impl_flowOf m a reqs).2.getD j []).getD (((F_impl_assigned (F_impl_flowOf m a reqs).2).1.getD i 0)).toNat 0) + ((F_impl_flowOf m a reqs).2.getD i []).getD (((F_impl_assigned (F_impl_flowOf m a reqs).2).1.getD i 0)).toNat 0)) ∧
      Th.lsum ps < Th.lsum (ps.set i ((ps.getD j 0 - ((F_impl_flowOf m a reqs).2.getD j []).getD (((F_impl_assigned (F_impl_flowOf m a reqs).2).1.getD i 0)).toNat 0) + ((F_impl_flowOf m a reqs).2.getD i []).getD (((F_impl_assigned (F_impl_flowOf m a reqs).2).1.getD i 0)).toNat 0)) := by
  have hb := before_bd h hi
  have e1 := fc_el h hi hi
  rw [if_pos (by unfold Th.colOf; omega)] at e1
  rw [fc_el h hi hj] at hnf hq ⊢
  rw [e1] at hq ⊢
  by_cases hk : Th.colOf (F_impl_assigned (F_impl_flowOf m a reqs).2).1 i < a.length + j
  · rw [if_pos hk] at hq ⊢
    exact hP.step hi hj hk hq
  · rw [if_neg hk] at hnf; exact absurd rfl hnf
/-- No price is too small against the first. -/
def Nt (m : List (List Int)) (a reqs ps : List Int) (i0 j0 : Nat) : Prop := ∀ i j, i < reqs.length → j < reqs.length → (i < i0 ∨ (i = i0 ∧ j < j0)) → Th.colOf (F_impl_assigned (F_impl_flowOf m a reqs).2).1 i < a.length + j →
  ps.getD j 0 - gap m a reqs (Th.colOf (F_impl_assigned (F_impl_flowOf m a reqs).2).1 i) j + gap m a reqs (Th.colOf (F_impl_assigned (F_impl_flowOf m a reqs).2).1 i) i ≤ ps.getD i 0
theorem lp_L4 (h : Sv m a reqs) {i : Nat} (hi : i < reqs.length) {ps0 : List Int} : ∀ (fuel j : Nat) (b : Bool) (ps : List Int), reqs.length - j < fuel → j ≤ reqs.length → PiM m a reqs ps → Th.Rup b ps ps0 → (b = false → Nt m a reqs ps i j) →
    ∃ b' j' ps', F_impl_LeastPrices_L4 m a reqs i fuel (b, j, ps) = .next (b', j', ps') ∧ PiM m a reqs ps' ∧ Th.Rup b' ps' ps0 ∧ (b' = false → Nt m a reqs ps' (i + 1) 0) := by
  intro fuel
  induction fuel with
  | zero => intro j b ps hf; omega
  | succ mf ih =>
    intro j b ps hf hj hP hU hD
    rw [F_impl_LeastPrices_L4_s]
    have hlen := (fw_cs h).len
    have hb := before_bd h hi
    by_cases hc : (j : Int) < ((F_impl_flowOf m a reqs).2.length : Int)
    · rw [decide_eq_true hc, cond_true]
      have hjr : j < reqs.length := by omega
      have next : b = false → (Th.colOf (F_impl_assigned (F_impl_flowOf m a reqs).2).1 i < a.length + j → ps.getD j 0 - gap m a reqs (Th.colOf (F_impl_assigned (F_impl_flowOf m a reqs).2).1 i) j + gap m a reqs (Th.colOf (F_impl_assigned (F_impl_flowOf m a reqs).2).1 i) i ≤ ps.getD i 0) → Nt m a reqs ps i (j + 1) := fun hbf hh i' j' h1 h2 h3 h4 => by
        rcases h3 with h3 | ⟨h3, h5⟩
        · exact hD hbf i' j' h1 h2 (.inl h3) h4
        · subst h3
          by_cases e : j' = j
          · subst e; exact hh h4
          · exact hD hbf i' j' h1 h2 (.inr ⟨rfl, by omega⟩) h4
      by_cases hf1 : ((F_impl_flowOf m a reqs).2.getD j []).getD (((F_impl_assigned (F_impl_flowOf m a reqs).2).1.getD i 0)).toNat 0 = 1073741824
      · rw [decide_eq_true hf1, cond_true]
        refine ih (j + 1) b ps (by omega) (by omega) hP hU fun hb' => next hb' fun hk => ?_
        rw [fc_el h hi hjr, if_pos hk] at hf1
        have := gap_all h (Th.colOf (F_impl_assigned (F_impl_flowOf m a reqs).2).1 i) j
        omega
      · rw [decide_eq_false hf1, cond_false]
        by_cases hq : ps.getD i 0 < (ps.getD j 0 - ((F_impl_flowOf m a reqs).2.getD j []).getD (((F_impl_assigned (F_impl_flowOf m a reqs).2).1.getD i 0)).toNat 0) + ((F_impl_flowOf m a reqs).2.getD i []).getD (((F_impl_assigned (F_impl_flowOf m a reqs).2).1.getD i 0)).toNat 0
        · rw [decide_eq_true hq, cond_true]
          have hst := lp_step h hP hi hjr hf1 hq
          exact ih (j + 1) true _ (by omega) (by omega) hst.1 (hU.up hst.2) (fun hb => by cases hb)
        · rw [decide_eq_false hq, cond_false]
          refine ih (j + 1) b ps (by omega) (by omega) hP hU fun hb' => next hb' fun hk => ?_
          have e1 := fc_el h hi hi
          rw [if_pos (by unfold Th.colOf; omega)] at e1
          rw [fc_el h hi hjr, if_pos hk, e1] at hq
          omega
    · rw [decide_eq_false hc, cond_false]
      refine ⟨b, j, ps, rfl, hP, hU, fun hbf i' j' h1 h2 h3 h4 => ?_⟩
      by_cases e : i' = i
      · subst e; exact hD hbf i' j' h1 h2 (.inr ⟨rfl, by omega⟩) h4
      · exact hD hbf i' j' h1 h2 (.inl (by omega)) h4
theorem lp_L3 (h : Sv m a reqs) {ps0 : List Int} : ∀ (fuel i : Nat) (b : Bool) (ps : List Int), reqs.length - i < fuel → i ≤ reqs.length → PiM m a reqs ps → Th.Rup b ps ps0 → (b = false → Nt m a reqs ps i 0) →
    ∃ b' i' ps', F_impl_LeastPrices_L3 m a reqs fuel (b, i, ps) = .next (b', i', ps') ∧ PiM m a reqs ps' ∧ Th.Rup b' ps' ps0 ∧ (b' = false → Nt m a reqs ps' reqs.length 0) := by
  intro fuel
  induction fuel with
  | zero => intro i b ps hf; omega
  | succ mf ih =>
    intro i b ps hf hi hP hU hD
    rw [F_impl_LeastPrices_L3_s]
    have hl := (flow_best h).2.1
    have hlen := (fw_cs h).len
    by_cases hc : (i : Int) < ((F_impl_assigned (F_impl_flowOf m a reqs).2).1.length : Int)
    · rw [decide_eq_true hc, cond_true]
      obtain ⟨b', j', ps', g1, g2, g3, g4⟩ := lp_L4 h (i := i) (by omega) (ps0 := ps0) ((F_impl_flowOf m a reqs).2.length - 0 + 1) 0 b ps (by omega) (Nat.zero_le _) hP hU hD
      rw [g1, elim_next]
      exact ih (i + 1) b' ps' (by omega) (by omega) g2 g3 g4
    · rw [decide_eq_false hc, cond_false]
      have e : i = reqs.length := by omega
      subst e
      exact ⟨b, _, ps, rfl, hP, hU, hD⟩
theorem lp_L2 (h : Sv m a reqs) : ∀ (fuel : Nat) (b : Bool) (ps : List Int), 2 * (1000000 - Th.lsum ps).toNat + (bif b then 1 else 0) < fuel → PiM m a reqs ps → (b = false → Nt m a reqs ps reqs.length 0) →
    ∃ b' ps', F_impl_LeastPrices_L2 m a reqs fuel (b, ps) = .next (b', ps') ∧ PiM m a reqs ps' ∧ Nt m a reqs ps' reqs.length 0 := by
  intro fuel
  induction fuel with
  | zero => intro b ps hf; omega
  | succ mf ih =>
    intro b ps hf hP hD
    rw [F_impl_LeastPrices_L2_s]
    cases b with
    | true =>
      rw [cond_true] at hf ⊢
      have hl := (flow_best h).2.1
      obtain ⟨b', i', ps', g1, g2, g3, g4⟩ := lp_L3 h (ps0 := ps) ((F_impl_assigned (F_impl_flowOf m a reqs).2).1.length - 0 + 1) 0 false ps (by omega) (Nat.zero_le _) hP (Th.Rup.init _) (fun _ i j h1 h2 h3 => by omega)
      rw [g1, elim_next]
      dsimp only
      have hmu := g3.mu (lp_sum h g2)
      exact ih b' ps' (by omega) g2 g4
    | false =>
      rw [cond_false]
      exact ⟨false, ps, rfl, hP, hD rfl⟩
theorem lp_L1 (h : Sv m a reqs) : ∀ (fuel k : Nat) (out : List Int), reqs.length - k < fuel → k ≤ reqs.length → Pt m a reqs k out → ∃ k' out', F_impl_LeastPrices_L1 m a reqs fuel (out, k) = .next (out', k') ∧ Pt m a reqs reqs.length out' := by
  intro fuel
  induction fuel with
  | zero => intro k out hf; omega
  | succ mf ih =>
    intro k out hf hk hP
    rw [F_impl_LeastPrices_L1_s]
    have hl := (flow_best h).2.1
    by_cases hc : (k : Int) < ((F_impl_assigned (F_impl_flowOf m a reqs).2).1.length : Int)
    · rw [decide_eq_true hc, cond_true]
      exact ih (k + 1) _ (by omega) (by omega) (pt_push h hP (by omega))
    · rw [decide_eq_false hc, cond_false]
      have e : k = reqs.length := by omega
      subst e
      exact ⟨_, out, rfl, hP⟩
end
theorem leastPrices_eq (m : List (List Int)) (a reqs : List Int) : F_impl_LeastPrices m a reqs = F_spec_LeastPrices m a reqs := by
  unfold F_impl_LeastPrices F_spec_LeastPrices
  rw [served_or]
  cases hs : F_impl_isServed m a reqs with
  | false => rfl
  | true =>
    have h := isServed_t hs
    rw [Bool.not_true, cond_false, cond_false]
    obtain ⟨hl, p, r, hA⟩ := flow_aq h
    obtain ⟨b1, b2, b3, b4, b5⟩ := flow_best h
    obtain ⟨k', out, g1, g2⟩ := lp_L1 h ((F_impl_assigned (F_impl_flowOf m a reqs).2).1.length - 0 + 1) 0 [] (by omega) (Nat.zero_le _) (pt_nil m a reqs)
    rw [g1, elim_next]
    dsimp only
    obtain ⟨b', ps, g3, g4, g5⟩ := lp_L2 h (2 * (1000000 - Th.lsum out).toNat + (bif true then 1 else 0) + 1) true out (by omega) (pi_of h g2) (fun hb => by cases hb)
    rw [g3, elim_next]
    dsimp only
    obtain ⟨e1, _, e3⟩ := rise_least hA hl
    have hsame := Th.prices_same (M := Th.colOf (F_spec_l7Flow m a reqs)) (p := fun i => ps.getD i 0) e3 (hA.crt hl) b1 (by omega) ⟨g4.own, fun i j hi hj hk => g5 i j hi hj (.inl hi) hk⟩ g4.le
    congr 1
    refine List.ext_getElem (by rw [g4.len, e1]) fun i h1 h2 => ?_
    have := hsame i (by rw [← g4.len]; exact h1)
    try dsimp only at this
    rw [getD_lt _ _ _ h1, getD_lt _ _ _ h2] at this
    exact this
theorem leastPrices_len (m : List (List Int)) (a reqs : List Int) : (F_impl_LeastPrices m a reqs).1.length ≤ 60 := by
  rw [leastPrices_eq]
  unfold F_spec_LeastPrices
  rw [served_or]
  cases hs : F_impl_isServed m a reqs with
  | false => simp
  | true =>
    have h := isServed_t hs
    rw [Bool.not_true, cond_false]
    obtain ⟨hl, p, r, hA⟩ := flow_aq h
    have := (rise_least hA hl).1
    have := h.r60
    dsimp only; omega
theorem law_LeastPrices (m : List (List Int)) (a reqs : List Int) : F_laws_FnExactLeastPrices m a reqs = true := by
  unfold F_laws_FnExactLeastPrices
  simp only [toMetric_eq, toIntS_eq, leastPrices_eq, eqMetric_refl, eqIntS_refl, markIntS_eq, markMetric_eq, heldIntS_iota]
  have h1 : ¬ ((1 : Int) + (total m : Int) + (a.length : Int) + (reqs.length : Int) < 0) := by omega
  have h2 : ¬ ((1 : Int) + ((F_spec_LeastPrices m a reqs).1.length : Int) < 0) := by omega
  simp [h1, h2]
end Go.Proofs.Ytcmhgkcifejgcaa
namespace Go.Proofs.Ytcmhgkcifejgcaa
open Go Go.RowKit
set_option linter.unusedVariables false

set_option maxRecDepth 4000 in
set_option maxHeartbeats 1000000 in
theorem laws_markIntS_ok (w0 w : World) (fr : List Ck) (va : Value) (a : List Int) (hw : Hp w0 (rowI 3 va a :: fr) w) (k : Int) (hp0 : 0 ≤ k) (hp1 : k + a.length ≤ 4611686018427387904) :
    Calls Try.prog 56 ([va, (.int .i64 k)] : List Value).toArray w (fun e w' => ∃ _i : Unit, e = .returned (.int .i64 ((F_laws_markIntS a k).1)) ∧ Hp w0 (rowI 3 va ((F_laws_markIntS a k).2) :: fr) w') := by
  obtain ⟨rz, hF⟩ : ∃ rz, (F_laws_markIntS a k) = rz := ⟨_, rfl⟩
  rw [hF]
  unfold F_laws_markIntS at hF
  have hlen_a : a.length ≤ 9223372036854775807 := (hw.get 0 rfl).maxn
  refine calls_tcm Try.func56 rfl rfl rfl hw ?_
  change TC _ _ _ _ (Hp w0 ([rowI 3 va a] ++ fr)) [(0, va), (1, (.int .i64 k))]
  refine TC.seq ?_
  refine TC.region ?_
  refine TL.op (yq (y_assign ev_c)) rfl rfl rfl ?_
  refine TL.nil ?_
  refine TN.seq ?_
  refine TC.seq ?_
  refine TC.seq ?_
  refine TC.region ?_
  refine TL.op (yq (y_assign ev_c)) rfl rfl rfl ?_
  refine TL.nil ?_
  refine TN.seq ?_
  refine TC.block ?_
  obtain ⟨c10, hc11⟩ : ∃ c, F_laws_markIntS_L1  ((a.length - 0) + 1) (k, 0, a) = c := ⟨_, rfl⟩
  rw [hc11] at hF
  refine TC.loop (ι := Nat × Int × Nat × List Int) (fun (fu1, k1, i1, a1) => [(0, va), (1, (.int .i64 k1)), (5, (.int .i64 (i1 : Int)))]) (fun (fu1, k1, i1, a1) => Hp w0 ([rowI 3 va a1] ++ fr)) (fun (fu1, k1, i1, a1) => (a1.length = a.length) ∧ (i1 ≤ a.length) ∧ (k1 = k + i1) ∧ a.length - i1 < fu1 ∧ F_laws_markIntS_L1  fu1 (k1, i1, a1) = c10) (fun (fu1, k1, i1, a1) => fu1) ((a.length - 0) + 1, k, 0, a) ⟨(by first | omega | (simp [-List.getD_eq_getElem?_getD] <;> omega)), (by first | omega | (simp [-List.getD_eq_getElem?_getD] <;> omega)), (by first | omega | (simp [-List.getD_eq_getElem?_getD] <;> omega)), (by omega), hc11⟩ ⟨rfl, rfl, rfl, trivial⟩ (fun w hw => hw) ?_
  rintro ⟨fu1, k1, i1, a1⟩ hJ1
  obtain ⟨hi1_0, hi1_1, hi1_2, hmu1, hL1⟩ : (a1.length = a.length) ∧ (i1 ≤ a.length) ∧ (k1 = k + i1) ∧ a.length - i1 < fu1 ∧ F_laws_markIntS_L1  fu1 (k1, i1, a1) = c10 := hJ1
  change TC _ _ _ _ (Hp w0 ([rowI 3 va a1] ++ fr)) [(0, va), (1, (.int .i64 k1)), (5, (.int .i64 (i1 : Int)))]
  obtain ⟨mf1, rfl⟩ : ∃ m, fu1 = m + 1 := ⟨fu1 - 1, by omega⟩
  rw [F_laws_markIntS_L1_s] at hL1
  refine TC.seq ?_
  refine TC.seq ?_
  refine TC.region ?_
  refine TL.op (yq (y_move (ev_t rfl))) rfl rfl rfl ?_
  refine TL.op (yq (y_move (ev_t rfl))) rfl rfl rfl ?_
  refine TL.op (yq (y_len (ev_t rfl) Try.underlying34 (fun w hw => ((ri_row 0 rfl) w hw).ln))) rfl rfl rfl ?_
  refine TL.op (yq (y_lss (ev_t rfl) (ev_t rfl))) rfl rfl rfl ?_
  refine TL.nil ?_
  refine TN.seq ?_
  refine TC.cond (b := decide ((i1 : Int) < (a1.length : Int))) (ev_t rfl) (fun h12 => ?_) (fun h12 => ?_)
  · rw [bif_pos h12] at hL1
    have q13 := (of_decide_eq_true h12)
    refine TC.skip ?_
    refine TN.seq ?_
    refine TC.seq ?_
    refine TC.block ?_
    refine TC.seq ?_
    refine TC.region ?_
    refine TL.op (yq (y_move (ev_t rfl))) rfl rfl rfl ?_
    refine TL.op (yq (y_move (ev_t rfl))) rfl rfl rfl ?_
    refine TL.op (yq (y_move (ev_t rfl))) rfl rfl rfl ?_
    have hb14 : i1 < a1.length := (by first | omega | (simp only [List.length_set, List.length_append, List.length_cons, List.length_nil, List.length_replicate]; omega) | (rw [sortI_length]; simp only [List.length_cons, List.length_nil]; omega))
    refine TL.op (yq (y_idx (k := i1) (ev_t rfl) (ev_t rfl) (by first | omega | simp) slT_34 (ri_row 0 rfl) hb14)) rfl rfl rfl ?_
    refine TL.storeI 0 (ev_t rfl) (ev_t rfl) one_3 rfl hb14 ?_
    refine TL.nil ?_
    refine TN.seq ?_
    refine TC.region ?_
    refine TL.op (yq (y_move (ev_t rfl))) rfl rfl rfl ?_
    refine TL.op (yq (y_add (ev_t rfl) ev_c (by unfold In64; constructor <;> omega))) rfl rfl rfl ?_
    refine TL.op (yq (y_assign (ev_t rfl))) rfl rfl rfl ?_
    refine TL.nil ?_
    refine TN.blockN ?_
    refine TN.seq ?_
    refine TC.region ?_
    refine TL.op (yq (y_move (ev_t rfl))) rfl rfl rfl ?_
    refine TL.op (yq (y_add (ev_t rfl) ev_c (by unfold In64; constructor <;> omega))) rfl rfl rfl ?_
    refine TL.op (yq (y_assign (ev_t rfl))) rfl rfl rfl ?_
    refine TL.nil ?_
    exact TN.hand (mf1, k1 + 1, (i1 + 1), (a1.set i1 k1)) ⟨(by first | omega | (simp [-List.getD_eq_getElem?_getD] <;> omega)), (by first | omega | (simp [-List.getD_eq_getElem?_getD] <;> omega)), (by first | omega | (simp [-List.getD_eq_getElem?_getD] <;> omega)), (by omega), hL1⟩ (Nat.lt_succ_self _) ⟨rfl, rfl, rfl, trivial⟩ (fun w hw => hw)
  · rw [bif_neg h12] at hL1
    have q13 := (of_decide_eq_false h12)
    refine TC.exit ?_
    refine TN.thenE ?_
    refine TN.thenE ?_
    rw [← hL1, elim_next] at hF
    try dsimp only at hF
    refine TN.blockH ?_
    refine TN.seq ?_
    refine TC.seq ?_
    refine TC.region ?_
    refine TL.op (yq (y_move (ev_t rfl))) rfl rfl rfl ?_
    refine TL.op (yq (y_assign (ev_t rfl))) rfl rfl rfl ?_
    refine TL.nil ?_
    refine TN.seq ?_
    refine TC.ret ?_
    subst hF
    exact TN.ret1 rfl (ev_t rfl) (fun w' hw => ⟨(), rfl, hw⟩)

set_option maxRecDepth 4000 in
set_option maxHeartbeats 1000000 in
theorem laws_heldIntS_ok (w : World) (va : Value) (a : List Int) (ha : RI w va a) (k : Int) (hp0 : 0 ≤ k) (hp1 : k + a.length ≤ 4611686018427387904) :
    Calls Try.prog 57 ([va, (.int .i64 k)] : List Value).toArray w (Ret (.int .i64 (F_laws_heldIntS a k)) (Hp w [])) := by
  obtain ⟨rz, hF⟩ : ∃ rz, (F_laws_heldIntS a k) = rz := ⟨_, rfl⟩
  rw [hF]
  unfold F_laws_heldIntS at hF
  have hlen_a := arg_len ha
  refine calls_tc Try.func57 rfl rfl rfl ?_
  change TC _ _ _ _ (Hp w []) [(0, va), (1, (.int .i64 k))]
  refine TC.seq ?_
  refine TC.region ?_
  refine TL.op (yq (y_assign ev_c)) rfl rfl rfl ?_
  refine TL.nil ?_
  refine TN.seq ?_
  refine TC.seq ?_
  refine TC.seq ?_
  refine TC.region ?_
  refine TL.op (yq (y_assign ev_c)) rfl rfl rfl ?_
  refine TL.nil ?_
  refine TN.seq ?_
  refine TC.block ?_
  obtain ⟨c11, hc12⟩ : ∃ c, F_laws_heldIntS_L1 a ((a.length - 0) + 1) (k, 0) = c := ⟨_, rfl⟩
  rw [hc12] at hF
  refine TC.loop (ι := Nat × Int × Nat) (fun (fu1, k1, i1) => [(0, va), (1, (.int .i64 k1)), (5, (.int .i64 (i1 : Int)))]) (fun (fu1, k1, i1) => Hp w []) (fun (fu1, k1, i1) => (i1 ≤ a.length) ∧ (k1 = k + i1) ∧ a.length - i1 < fu1 ∧ F_laws_heldIntS_L1 a fu1 (k1, i1) = c11) (fun (fu1, k1, i1) => fu1) ((a.length - 0) + 1, k, 0) ⟨(by first | omega | (simp [-List.getD_eq_getElem?_getD] <;> omega)), (by first | omega | (simp [-List.getD_eq_getElem?_getD] <;> omega)), (by omega), hc12⟩ ⟨rfl, rfl, rfl, trivial⟩ (fun w hw => hw) ?_
  rintro ⟨fu1, k1, i1⟩ hJ1
  obtain ⟨hi1_0, hi1_1, hmu1, hL1⟩ : (i1 ≤ a.length) ∧ (k1 = k + i1) ∧ a.length - i1 < fu1 ∧ F_laws_heldIntS_L1 a fu1 (k1, i1) = c11 := hJ1
  change TC _ _ _ _ (Hp w []) [(0, va), (1, (.int .i64 k1)), (5, (.int .i64 (i1 : Int)))]
  obtain ⟨mf1, rfl⟩ : ∃ m, fu1 = m + 1 := ⟨fu1 - 1, by omega⟩
  rw [F_laws_heldIntS_L1_s] at hL1
  refine TC.seq ?_
  refine TC.seq ?_
  refine TC.region ?_
  refine TL.op (yq (y_move (ev_t rfl))) rfl rfl rfl ?_
  refine TL.op (yq (y_move (ev_t rfl))) rfl rfl rfl ?_
  refine TL.op (yq (y_len (ev_t rfl) Try.underlying34 (fun w hw => ((ri_arg ha) w hw).ln))) rfl rfl rfl ?_
  refine TL.op (yq (y_lss (ev_t rfl) (ev_t rfl))) rfl rfl rfl ?_
  refine TL.nil ?_
  refine TN.seq ?_
  refine TC.cond (b := decide ((i1 : Int) < (a.length : Int))) (ev_t rfl) (fun h13 => ?_) (fun h13 => ?_)
  · rw [bif_pos h13] at hL1
    have q14 := (of_decide_eq_true h13)
    refine TC.skip ?_
    refine TN.seq ?_
    refine TC.seq ?_
    refine TC.block ?_
    refine TC.seq ?_
    refine TC.seq ?_
    refine TC.region ?_
    refine TL.op (yq (y_move (ev_t rfl))) rfl rfl rfl ?_
    refine TL.op (yq (y_move (ev_t rfl))) rfl rfl rfl ?_
    have hb15 : i1 < a.length := (by first | omega | (simp only [List.length_set, List.length_append, List.length_cons, List.length_nil, List.length_replicate]; omega) | (rw [sortI_length]; simp only [List.length_cons, List.length_nil]; omega))
    refine TL.op (yq (y_idx (k := i1) (ev_t rfl) (ev_t rfl) (by first | omega | simp) slT_34 (ri_arg ha) hb15)) rfl rfl rfl ?_
    refine TL.op (yq (y_ldi (ev_t rfl) one_3 (ri_arg ha) hb15)) rfl rfl rfl ?_
    refine TL.op (yq (y_move (ev_t rfl))) rfl rfl rfl ?_
    refine TL.op (yq (y_neq (ev_t rfl) (ev_t rfl))) rfl rfl rfl ?_
    refine TL.nil ?_
    refine TN.seq ?_
    refine TC.cond (b := !decide ((a.getD i1 0) = k1)) (ev_t rfl) (fun h16 => ?_) (fun h16 => ?_)
    · rw [bif_pos h16] at hL1
      have q17 := (of_decide_eq_false (not_t h16))
      refine TC.seq ?_
      refine TC.region ?_
      refine TL.op (yq (y_assign ev_c)) rfl rfl rfl ?_
      refine TL.nil ?_
      refine TN.seq ?_
      refine TC.ret ?_
      refine TN.thenR ?_
      refine TN.blockR ?_
      refine TN.thenR ?_
      refine TN.thenR ?_
      rw [← hL1, elim_ret] at hF
      refine TN.blockR ?_
      refine TN.thenR ?_
      subst hF
      exact TN.ret1 rfl (ev_t rfl) (fun w' hw => ⟨rfl, hw⟩)
    · rw [bif_neg h16] at hL1
      have q17 := (of_decide_eq_true (not_f h16))
      refine TC.skip ?_
      refine TN.seq ?_
      refine TC.region ?_
      refine TL.op (yq (y_move (ev_t rfl))) rfl rfl rfl ?_
      refine TL.op (yq (y_add (ev_t rfl) ev_c (by unfold In64; constructor <;> omega))) rfl rfl rfl ?_
      refine TL.op (yq (y_assign (ev_t rfl))) rfl rfl rfl ?_
      refine TL.nil ?_
      refine TN.blockN ?_
      refine TN.seq ?_
      refine TC.region ?_
      refine TL.op (yq (y_move (ev_t rfl))) rfl rfl rfl ?_
      refine TL.op (yq (y_add (ev_t rfl) ev_c (by unfold In64; constructor <;> omega))) rfl rfl rfl ?_
      refine TL.op (yq (y_assign (ev_t rfl))) rfl rfl rfl ?_
      refine TL.nil ?_
      exact TN.hand (mf1, k1 + 1, (i1 + 1)) ⟨(by first | omega | (simp [-List.getD_eq_getElem?_getD] <;> omega)), (by first | omega | (simp [-List.getD_eq_getElem?_getD] <;> omega)), (by omega), hL1⟩ (Nat.lt_succ_self _) ⟨rfl, rfl, rfl, trivial⟩ (fun w hw => hw)
  · rw [bif_neg h13] at hL1
    have q14 := (of_decide_eq_false h13)
    refine TC.exit ?_
    refine TN.thenE ?_
    refine TN.thenE ?_
    rw [← hL1, elim_next] at hF
    try dsimp only at hF
    refine TN.blockH ?_
    refine TN.seq ?_
    refine TC.seq ?_
    refine TC.region ?_
    refine TL.op (yq (y_move (ev_t rfl))) rfl rfl rfl ?_
    refine TL.op (yq (y_assign (ev_t rfl))) rfl rfl rfl ?_
    refine TL.nil ?_
    refine TN.seq ?_
    refine TC.ret ?_
    subst hF
    exact TN.ret1 rfl (ev_t rfl) (fun w' hw => ⟨rfl, hw⟩)

set_option maxRecDepth 4000 in
set_option maxHeartbeats 1000000 in
theorem laws_markIntSS_ok (w0 w : World) (fr : List Ck) (va : Value) (ua : List Value) (a : List (List Int)) (hw : Hp w0 (tabI 34 3 va ua a :: fr) w) (k : Int) (hp0 : 0 ≤ k) (hp1 : k + total a ≤ 1000000000) :
    Calls Try.prog 48 ([va, (.int .i64 k)] : List Value).toArray w (fun e w' => ∃ _i : Unit, e = .returned (.int .i64 ((F_laws_markIntSS a k).1)) ∧ Hp w0 (tabI 34 3 va ua ((F_laws_markIntSS a k).2) :: fr) w') := by
  obtain ⟨rz, hF⟩ : ∃ rz, (F_laws_markIntSS a k) = rz := ⟨_, rfl⟩
  rw [hF]
  unfold F_laws_markIntSS at hF
  have htot := totalFrom_zero a
  have hlen_a : a.length ≤ 9223372036854775807 := (hw.get 0 rfl).maxn
  refine calls_tcm Try.func48 rfl rfl rfl hw ?_
  change TC _ _ _ _ (Hp w0 ([tabI 34 3 va ua a] ++ fr)) [(0, va), (1, (.int .i64 k))]
  refine TC.seq ?_
  refine TC.region ?_
  refine TL.op (yq (y_assign ev_c)) rfl rfl rfl ?_
  refine TL.nil ?_
  refine TN.seq ?_
  refine TC.seq ?_
  refine TC.seq ?_
  refine TC.region ?_
  refine TL.op (yq (y_assign ev_c)) rfl rfl rfl ?_
  refine TL.nil ?_
  refine TN.seq ?_
  refine TC.block ?_
  obtain ⟨c10, hc11⟩ : ∃ c, F_laws_markIntSS_L1  ((a.length - 0) + 1) (k, 0, a) = c := ⟨_, rfl⟩
  rw [hc11] at hF
  refine TC.loop (ι := Nat × Int × Nat × List (List Int)) (fun (fu1, k1, i1, a1) => [(0, va), (1, (.int .i64 k1)), (5, (.int .i64 (i1 : Int)))]) (fun (fu1, k1, i1, a1) => Hp w0 ([tabI 34 3 va ua a1] ++ fr)) (fun (fu1, k1, i1, a1) => (a1.length = a.length) ∧ (i1 ≤ a.length) ∧ (0 ≤ k1) ∧ (k1 + totalFrom a i1 ≤ 1000000000) ∧ (∀ j, i1 ≤ j → a1.getD j [] = a.getD j []) ∧ a.length - i1 < fu1 ∧ F_laws_markIntSS_L1  fu1 (k1, i1, a1) = c10) (fun (fu1, k1, i1, a1) => fu1) ((a.length - 0) + 1, k, 0, a) ⟨(by first | omega | (simp [-List.getD_eq_getElem?_getD] <;> omega)), (by first | omega | (simp [-List.getD_eq_getElem?_getD] <;> omega)), (by first | omega | (simp [-List.getD_eq_getElem?_getD] <;> omega)), (by first | omega | (simp [-List.getD_eq_getElem?_getD] <;> omega)), (fun _ _ => rfl), (by omega), hc11⟩ ⟨rfl, rfl, rfl, trivial⟩ (fun w hw => hw) ?_
  rintro ⟨fu1, k1, i1, a1⟩ hJ1
  obtain ⟨hi1_0, hi1_1, hi1_2, hi1_3, hi1_4, hmu1, hL1⟩ : (a1.length = a.length) ∧ (i1 ≤ a.length) ∧ (0 ≤ k1) ∧ (k1 + totalFrom a i1 ≤ 1000000000) ∧ (∀ j, i1 ≤ j → a1.getD j [] = a.getD j []) ∧ a.length - i1 < fu1 ∧ F_laws_markIntSS_L1  fu1 (k1, i1, a1) = c10 := hJ1
  change TC _ _ _ _ (Hp w0 ([tabI 34 3 va ua a1] ++ fr)) [(0, va), (1, (.int .i64 k1)), (5, (.int .i64 (i1 : Int)))]
  obtain ⟨mf1, rfl⟩ : ∃ m, fu1 = m + 1 := ⟨fu1 - 1, by omega⟩
  rw [F_laws_markIntSS_L1_s] at hL1
  have hst := totalFrom_step a i1
  have hg := congrArg List.length (hi1_4 i1 (Nat.le_refl _))
  have hmk := markIntS_fst (a1.getD i1 []) k1
  refine TC.seq ?_
  refine TC.seq ?_
  refine TC.region ?_
  refine TL.op (yq (y_move (ev_t rfl))) rfl rfl rfl ?_
  refine TL.op (yq (y_move (ev_t rfl))) rfl rfl rfl ?_
  refine TL.op (yq (y_len (ev_t rfl) Try.underlying49 (fun w hw => ((fun w hw => ((rii_tab 0 rfl) w hw).1) w hw).ln))) rfl rfl rfl ?_
  refine TL.op (yq (y_lss (ev_t rfl) (ev_t rfl))) rfl rfl rfl ?_
  refine TL.nil ?_
  refine TN.seq ?_
  refine TC.cond (b := decide ((i1 : Int) < (a1.length : Int))) (ev_t rfl) (fun h12 => ?_) (fun h12 => ?_)
  · rw [bif_pos h12] at hL1
    have q13 := (of_decide_eq_true h12)
    refine TC.skip ?_
    refine TN.seq ?_
    refine TC.seq ?_
    refine TC.block ?_
    refine TC.region ?_
    refine TL.op (yq (y_move (ev_t rfl))) rfl rfl rfl ?_
    refine TL.op (yq (y_move (ev_t rfl))) rfl rfl rfl ?_
    have hb14 : i1 < a1.length := (by first | omega | (simp only [List.length_set, List.length_append, List.length_cons, List.length_nil, List.length_replicate]; omega) | (rw [sortI_length]; simp only [List.length_cons, List.length_nil]; omega))
    refine TL.op (yq (y_idx (k := i1) (ev_t rfl) (ev_t rfl) (by first | omega | simp) slT_49 (fun w hw => ((rii_tab 0 rfl) w hw).1) hb14)) rfl rfl rfl ?_
    refine TL.op (yq (y_ldT 0 (ev_t rfl) one_34 rfl hb14)) rfl rfl rfl ?_
    refine TL.op (yq (y_move (ev_t rfl))) rfl rfl rfl ?_
    refine TL.callmT 0 i1 (vs := [(ua.getD i1 undef), (.int .i64 k1)]) (.int .i64 ((F_laws_markIntS (a1.getD i1 []) k1).1)) ((F_laws_markIntS (a1.getD i1 []) k1).2) en_56 ⟨(ev_t rfl), (ev_t rfl), trivial⟩ rfl rfl hb14 (fun w1 fr1 hw => laws_markIntS_ok w0 w1 _ (ua.getD i1 undef) (a1.getD i1 []) hw k1 (by first | assumption | omega | grind) (by first | assumption | omega | grind)) ?_
    refine TL.op (yq (y_assign (ev_t rfl))) rfl rfl rfl ?_
    refine TL.nil ?_
    refine TN.blockN ?_
    refine TN.seq ?_
    refine TC.region ?_
    refine TL.op (yq (y_move (ev_t rfl))) rfl rfl rfl ?_
    refine TL.op (yq (y_add (ev_t rfl) ev_c (by unfold In64; constructor <;> omega))) rfl rfl rfl ?_
    refine TL.op (yq (y_assign (ev_t rfl))) rfl rfl rfl ?_
    refine TL.nil ?_
    exact TN.hand (mf1, (F_laws_markIntS (a1.getD i1 []) k1).1, (i1 + 1), (a1.set i1 ((F_laws_markIntS (a1.getD i1 []) k1).2))) ⟨(by first | omega | (simp [-List.getD_eq_getElem?_getD] <;> omega)), (by first | omega | (simp [-List.getD_eq_getElem?_getD] <;> omega)), (by first | omega | (simp [-List.getD_eq_getElem?_getD] <;> omega)), (by first | omega | (simp [-List.getD_eq_getElem?_getD] <;> omega)), (fun j hj => by rw [getD_set_ne _ _ _ _ _ (by omega)]; exact hi1_4 j (by omega)), (by omega), hL1⟩ (Nat.lt_succ_self _) ⟨rfl, rfl, rfl, trivial⟩ (fun w hw => hw)
  · rw [bif_neg h12] at hL1
    have q13 := (of_decide_eq_false h12)
    refine TC.exit ?_
    refine TN.thenE ?_
    refine TN.thenE ?_
    rw [← hL1, elim_next] at hF
    try dsimp only at hF
    refine TN.blockH ?_
    refine TN.seq ?_
    refine TC.seq ?_
    refine TC.region ?_
    refine TL.op (yq (y_move (ev_t rfl))) rfl rfl rfl ?_
    refine TL.op (yq (y_assign (ev_t rfl))) rfl rfl rfl ?_
    refine TL.nil ?_
    refine TN.seq ?_
    refine TC.ret ?_
    subst hF
    exact TN.ret1 rfl (ev_t rfl) (fun w' hw => ⟨(), rfl, hw⟩)

set_option maxRecDepth 4000 in
set_option maxHeartbeats 1000000 in
theorem laws_markMetric_ok (w0 w : World) (fr : List Ck) (va : Value) (ua : List Value) (a : List (List Int)) (hw : Hp w0 (tabI 34 3 va ua a :: fr) w) (k : Int) (hp0 : 0 ≤ k) (hp1 : k + total a ≤ 1000000000) :
    Calls Try.prog 42 ([(.agg #[va]), (.int .i64 k)] : List Value).toArray w (fun e w' => ∃ _i : Unit, e = .returned (.int .i64 ((F_laws_markMetric a k).1)) ∧ Hp w0 (tabI 34 3 va ua ((F_laws_markMetric a k).2) :: fr) w') := by
  obtain ⟨rz, hF⟩ : ∃ rz, (F_laws_markMetric a k) = rz := ⟨_, rfl⟩
  rw [hF]
  unfold F_laws_markMetric at hF
  have hlen_a : a.length ≤ 9223372036854775807 := (hw.get 0 rfl).maxn
  refine calls_tcm Try.func42 rfl rfl rfl hw ?_
  change TC _ _ _ _ (Hp w0 ([tabI 34 3 va ua a] ++ fr)) [(0, (.agg #[va])), (1, (.int .i64 k))]
  refine TC.seq ?_
  refine TC.region ?_
  refine TL.box (ev_t rfl) rfl (fun g0_0 => ?_)
  refine TL.op (yq (y_assign ev_c)) rfl rfl rfl ?_
  refine TL.nil ?_
  refine TN.seq ?_
  refine TC.seq ?_
  refine TC.region ?_
  refine TL.op (yq (y_fa (fa_55_0 g0_0) (ev_t rfl))) rfl rfl rfl ?_
  refine TL.op (yq (y_ldb 0 (ev_t rfl) one_49 rfl rfl)) rfl rfl rfl ?_
  refine TL.op (yq (y_move (ev_t rfl))) rfl rfl rfl ?_
  refine TL.callm (ι := Unit) 1 (vs := [va, (.int .i64 k)]) (fun _ => (.int .i64 ((F_laws_markIntSS a k).1))) (fun _ => tabI 34 3 va ua ((F_laws_markIntSS a k).2)) en_48 ⟨(ev_t rfl), (ev_t rfl), trivial⟩ rfl rfl (fun w1 fr1 hw => laws_markIntSS_ok w0 w1 _ va ua a hw k (by first | assumption | omega | grind) (by first | assumption | omega | grind)) (fun _ => ?_)
  refine TL.op (yq (y_assign (ev_t rfl))) rfl rfl rfl ?_
  refine TL.nil ?_
  refine TN.seq ?_
  refine TC.seq ?_
  refine TC.region ?_
  refine TL.op (yq (y_move (ev_t rfl))) rfl rfl rfl ?_
  refine TL.op (yq (y_assign (ev_t rfl))) rfl rfl rfl ?_
  refine TL.nil ?_
  refine TN.seq ?_
  refine TC.ret ?_
  subst hF
  exact TN.ret1 rfl (ev_t rfl) (fun w' hw => ⟨(), rfl, Hp.sublist hw (.cons _ (.cons_cons _ (List.Sublist.refl _)))⟩)

set_option maxRecDepth 4000 in
set_option maxHeartbeats 1000000 in
theorem spec_l7Rise_ok (w : World) (vm : Value) (um : List Value) (m : List (List Int)) (hm : RII w vm um m) (va : Value) (a : List Int) (ha : RI w va a) (vreqs : Value) (reqs : List Int) (hreqs : RI w vreqs reqs) (vbefore : Value) (before : List Int) (hbefore : RI w vbefore before) (hp0 : ∃ p r, Aq m a reqs before p r) (hp1 : before.length = reqs.length) :
    Calls Try.prog 103 ([(.agg #[vm]), va, vreqs, vbefore] : List Value).toArray w (fun e w' => ∃ i : Value × Value, e = .returned (.tuple #[i.1, i.2]) ∧ Hp w [rowI 3 i.1 ((F_spec_l7Rise m a reqs before).1), rowI 3 i.2 ((F_spec_l7Rise m a reqs before).2)] w') := by
  obtain ⟨rz, hF⟩ : ∃ rz, (F_spec_l7Rise m a reqs before) = rz := ⟨_, rfl⟩
  rw [hF]
  unfold F_spec_l7Rise at hF
  obtain ⟨p, r, hA⟩ := hp0
  have hS := hA.sv
  have hn3 := hS.cf.n3
  have hr60 := hS.r60
  have hga := fun l i : Int => gap_any hS l i
  have hbh := hA.hb
  have hlen_m := argT_len hm
  have hlen_a := arg_len ha
  have hlen_reqs := arg_len hreqs
  have hlen_before := arg_len hbefore
  refine calls_tc Try.func103 rfl rfl rfl ?_
  change TC _ _ _ _ (Hp w []) [(0, (.agg #[vm])), (1, va), (2, vreqs), (3, vbefore)]
  refine TC.seq ?_
  refine TC.region ?_
  refine TL.box (ev_t rfl) rfl (fun g0_0 => ?_)
  refine TL.op (yq (y_assign ev_c)) rfl rfl rfl ?_
  refine TL.op (yq (y_assign ev_c)) rfl rfl rfl ?_
  refine TL.nil ?_
  refine TN.seq ?_
  refine TC.seq ?_
  refine TC.region ?_
  refine TL.op (yq (y_move (ev_t rfl))) rfl rfl rfl ?_
  refine TL.op (yq (y_len (ev_t rfl) Try.underlying34 (fun w hw => ((ri_arg hreqs) w hw).ln))) rfl rfl rfl ?_
  refine TL.makeSlice (n := reqs.length) (ev_t rfl) (ev_t rfl) (by omega) slT_34 rfl (by omega) (by unfold maxLen; omega) rfl (fun v1_2 => ?_)
  refine TL.cls (fun w hw => hw.zeros) ?_
  refine TL.op (yq (y_assign (ev_t rfl))) rfl rfl rfl ?_
  refine TL.nil ?_
  refine TN.seq ?_
  refine TC.seq ?_
  refine TC.region ?_
  refine TL.op (yq (y_move (ev_t rfl))) rfl rfl rfl ?_
  refine TL.op (yq (y_len (ev_t rfl) Try.underlying34 (fun w hw => ((ri_arg ha) w hw).ln))) rfl rfl rfl ?_
  refine TL.op (yq (y_move (ev_t rfl))) rfl rfl rfl ?_
  refine TL.op (yq (y_len (ev_t rfl) Try.underlying34 (fun w hw => ((ri_arg hreqs) w hw).ln))) rfl rfl rfl ?_
  refine TL.op (yq (y_add (ev_t rfl) (ev_t rfl) (by unfold In64; constructor <;> omega))) rfl rfl rfl ?_
  refine TL.makeSlice (n := (a.length + reqs.length)) (ev_t rfl) (ev_t rfl) (by omega) slT_34 rfl (by omega) (by unfold maxLen; omega) rfl (fun v2_5 => ?_)
  refine TL.cls (fun w hw => hw.zeros) ?_
  refine TL.op (yq (y_assign (ev_t rfl))) rfl rfl rfl ?_
  refine TL.nil ?_
  refine TN.seq ?_
  refine TC.seq ?_
  refine TC.seq ?_
  refine TC.region ?_
  refine TL.op (yq (y_assign ev_c)) rfl rfl rfl ?_
  refine TL.nil ?_
  refine TN.seq ?_
  refine TC.block ?_
  obtain ⟨c86, hc87⟩ : ∃ c, F_spec_l7Rise_L1 m a reqs before ((2 * (1000000 - Th.lsum (List.replicate (a.length + reqs.length) (0 : Int))).toNat + (bif true then 1 else 0)) + 1) (true, (List.replicate (a.length + reqs.length) (0 : Int)), (List.replicate reqs.length (0 : Int))) = c := ⟨_, rfl⟩
  rw [hc87] at hF
  refine TC.loop (ι := Nat × Bool × List Int × List Int) (fun (fu1, k12_1, m0_1, m1_1) => [(1, va), (2, vreqs), (3, vbefore), (4, (.pointer (some ⟨g0_0, 0, none⟩))), (10, v1_2), (11, v2_5), (12, (.bool k12_1))]) (fun (fu1, k12_1, m0_1, m1_1) => Hp w [rowI 3 v2_5 m0_1, rowI 3 v1_2 m1_1, .blk g0_0 55 [vm]]) (fun (fu1, k12_1, m0_1, m1_1) => (RiM m a reqs before m0_1) ∧ (m1_1.length = reqs.length) ∧ 2 * (1000000 - Th.lsum m0_1).toNat + (bif k12_1 then 1 else 0) < fu1 ∧ F_spec_l7Rise_L1 m a reqs before fu1 (k12_1, m0_1, m1_1) = c86) (fun (fu1, k12_1, m0_1, m1_1) => fu1) ((2 * (1000000 - Th.lsum (List.replicate (a.length + reqs.length) (0 : Int))).toNat + (bif true then 1 else 0)) + 1, true, (List.replicate (a.length + reqs.length) (0 : Int)), (List.replicate reqs.length (0 : Int))) ⟨(ri_init m a reqs before), (by first | omega | (simp [-List.getD_eq_getElem?_getD] <;> omega)), (by omega), hc87⟩ ⟨rfl, rfl, rfl, rfl, rfl, rfl, rfl, trivial⟩ (fun w hw => hw) ?_
  rintro ⟨fu1, k12_1, m0_1, m1_1⟩ hJ1
  obtain ⟨hi1_0, hi1_1, hmu1, hL1⟩ : (RiM m a reqs before m0_1) ∧ (m1_1.length = reqs.length) ∧ 2 * (1000000 - Th.lsum m0_1).toNat + (bif k12_1 then 1 else 0) < fu1 ∧ F_spec_l7Rise_L1 m a reqs before fu1 (k12_1, m0_1, m1_1) = c86 := hJ1
  change TC _ _ _ _ (Hp w [rowI 3 v2_5 m0_1, rowI 3 v1_2 m1_1, .blk g0_0 55 [vm]]) [(1, va), (2, vreqs), (3, vbefore), (4, (.pointer (some ⟨g0_0, 0, none⟩))), (10, v1_2), (11, v2_5), (12, (.bool k12_1))]
  obtain ⟨mf1, rfl⟩ : ∃ m, fu1 = m + 1 := ⟨fu1 - 1, by omega⟩
  rw [F_spec_l7Rise_L1_s] at hL1
  refine TC.seq ?_
  refine TC.seq ?_
  refine TC.region ?_
  refine TL.op (yq (y_move (ev_t rfl))) rfl rfl rfl ?_
  refine TL.nil ?_
  refine TN.seq ?_
  refine TC.cond (b := k12_1) (ev_t rfl) (fun h88 => ?_) (fun h88 => ?_)
  · rw [bif_pos h88] at hL1
    have q89 := h88
    have hb1 : (bif k12_1 then 1 else 0 : Nat) = 1 := by rw [q89]; rfl
    refine TC.skip ?_
    refine TN.seq ?_
    refine TC.block ?_
    refine TC.seq ?_
    refine TC.region ?_
    refine TL.op (yq (y_assign ev_c)) rfl rfl rfl ?_
    refine TL.nil ?_
    refine TN.seq ?_
    refine TC.seq ?_
    refine TC.region ?_
    refine TL.op (yq (y_assign ev_c)) rfl rfl rfl ?_
    refine TL.nil ?_
    refine TN.seq ?_
    refine TC.block ?_
    obtain ⟨c90, hc91⟩ : ∃ c, F_spec_l7Rise_L2 m a reqs before ((reqs.length - 0) + 1) (false, 0, m0_1, m1_1) = c := ⟨_, rfl⟩
    rw [hc91] at hL1
    refine TC.loop (ι := Nat × Bool × Nat × List Int × List Int) (fun (fu2, k12_2, k13_2, m0_2, m1_2) => [(1, va), (2, vreqs), (3, vbefore), (4, (.pointer (some ⟨g0_0, 0, none⟩))), (10, v1_2), (11, v2_5), (12, (.bool k12_2)), (13, (.int .i64 (k13_2 : Int)))]) (fun (fu2, k12_2, k13_2, m0_2, m1_2) => Hp w [rowI 3 v2_5 m0_2, rowI 3 v1_2 m1_2, .blk g0_0 55 [vm]]) (fun (fu2, k12_2, k13_2, m0_2, m1_2) => (RiM m a reqs before m0_2) ∧ (Th.Rup k12_2 m0_2 m0_1) ∧ (m1_2.length = reqs.length) ∧ reqs.length - k13_2 < fu2 ∧ F_spec_l7Rise_L2 m a reqs before fu2 (k12_2, k13_2, m0_2, m1_2) = c90) (fun (fu2, k12_2, k13_2, m0_2, m1_2) => fu2) ((reqs.length - 0) + 1, false, 0, m0_1, m1_1) ⟨hi1_0, (Th.Rup.init _), (by first | omega | (simp [-List.getD_eq_getElem?_getD] <;> omega)), (by omega), hc91⟩ ⟨rfl, rfl, rfl, rfl, rfl, rfl, rfl, rfl, trivial⟩ (fun w hw => hw) ?_
    rintro ⟨fu2, k12_2, k13_2, m0_2, m1_2⟩ hJ2
    obtain ⟨hi2_0, hi2_1, hi2_2, hmu2, hL2⟩ : (RiM m a reqs before m0_2) ∧ (Th.Rup k12_2 m0_2 m0_1) ∧ (m1_2.length = reqs.length) ∧ reqs.length - k13_2 < fu2 ∧ F_spec_l7Rise_L2 m a reqs before fu2 (k12_2, k13_2, m0_2, m1_2) = c90 := hJ2
    change TC _ _ _ _ (Hp w [rowI 3 v2_5 m0_2, rowI 3 v1_2 m1_2, .blk g0_0 55 [vm]]) [(1, va), (2, vreqs), (3, vbefore), (4, (.pointer (some ⟨g0_0, 0, none⟩))), (10, v1_2), (11, v2_5), (12, (.bool k12_2)), (13, (.int .i64 (k13_2 : Int)))]
    obtain ⟨mf2, rfl⟩ : ∃ m, fu2 = m + 1 := ⟨fu2 - 1, by omega⟩
    rw [F_spec_l7Rise_L2_s] at hL2
    have hln2 := hi2_0.len
    refine TC.seq ?_
    refine TC.seq ?_
    refine TC.region ?_
    refine TL.op (yq (y_move (ev_t rfl))) rfl rfl rfl ?_
    refine TL.op (yq (y_move (ev_t rfl))) rfl rfl rfl ?_
    refine TL.op (yq (y_len (ev_t rfl) Try.underlying34 (fun w hw => ((ri_arg hreqs) w hw).ln))) rfl rfl rfl ?_
    refine TL.op (yq (y_lss (ev_t rfl) (ev_t rfl))) rfl rfl rfl ?_
    refine TL.nil ?_
    refine TN.seq ?_
    refine TC.cond (b := decide ((k13_2 : Int) < (reqs.length : Int))) (ev_t rfl) (fun h92 => ?_) (fun h92 => ?_)
    · rw [bif_pos h92] at hL2
      have q93 := (of_decide_eq_true h92)
      have hbe := hbh k13_2 (by omega)
      have hrb1 := rise_bd hA hp1 hi2_0 (before.getD k13_2 0).toNat (by omega)
      have hg0 := hga (before.getD k13_2 0) (k13_2 : Int)
      have hlow := rise_low hA hp1 hi2_0 (i := k13_2) (ps := m1_2) (by omega) hi2_2
      refine TC.skip ?_
      refine TN.seq ?_
      refine TC.seq ?_
      refine TC.block ?_
      refine TC.seq ?_
      refine TC.regionT 20 (by kernel_rfl) (by kernel_rfl) dr_hp ?_
      refine TQ.op (yq (y_move (ev_t rfl))) rfl rfl rfl ?_
      refine TQ.op (yq (y_move (ev_t rfl))) rfl rfl rfl ?_
      refine TQ.op (yq (y_move (ev_t rfl))) rfl rfl rfl ?_
      refine TQ.op (yq (y_move (ev_t rfl))) rfl rfl rfl ?_
      refine TQ.op (yq (y_move (ev_t rfl))) rfl rfl rfl ?_
      have hb94 : k13_2 < before.length := (by first | omega | (simp only [List.length_set, List.length_append, List.length_cons, List.length_nil, List.length_replicate]; omega) | (rw [sortI_length]; simp only [List.length_cons, List.length_nil]; omega))
      refine TQ.op (yq (y_idx (k := k13_2) (ev_t rfl) (ev_t rfl) (by first | omega | simp) slT_34 (ri_arg hbefore) hb94)) rfl rfl rfl ?_
      refine TQ.op (yq (y_ldi (ev_t rfl) one_3 (ri_arg hbefore) hb94)) rfl rfl rfl ?_
      have hb95 : ((before.getD k13_2 0)).toNat < m0_2.length := (by first | omega | (simp only [List.length_set, List.length_append, List.length_cons, List.length_nil, List.length_replicate]; omega) | (rw [sortI_length]; simp only [List.length_cons, List.length_nil]; omega))
      refine TQ.op (yq (y_idx (k := ((before.getD k13_2 0)).toNat) (ev_t rfl) (ev_t rfl) (by first | omega | simp) slT_34 (ri_row 0 rfl) hb95)) rfl rfl rfl ?_
      refine TQ.op (yq (y_ldi (ev_t rfl) one_3 (ri_row 0 rfl) hb95)) rfl rfl rfl ?_
      refine TQ.op (yq (y_ldagg (cs := [vm]) 2 (ev_t rfl) agg_55 rfl)) rfl rfl rfl ?_
      refine TQ.op (yq (y_move (ev_t rfl))) rfl rfl rfl ?_
      refine TQ.op (yq (y_move (ev_t rfl))) rfl rfl rfl ?_
      refine TQ.op (yq (y_move (ev_t rfl))) rfl rfl rfl ?_
      refine TQ.op (yq (y_move (ev_t rfl))) rfl rfl rfl ?_
      have hb96 : k13_2 < before.length := (by first | omega | (simp only [List.length_set, List.length_append, List.length_cons, List.length_nil, List.length_replicate]; omega) | (rw [sortI_length]; simp only [List.length_cons, List.length_nil]; omega))
      refine TQ.op (yq (y_idx (k := k13_2) (ev_t rfl) (ev_t rfl) (by first | omega | simp) slT_34 (ri_arg hbefore) hb96)) rfl rfl rfl ?_
      refine TQ.op (yq (y_ldi (ev_t rfl) one_3 (ri_arg hbefore) hb96)) rfl rfl rfl ?_
      refine TQ.op (yq (y_move (ev_t rfl))) rfl rfl rfl ?_
      refine TQ.op (y_call (vs := [(.agg #[vm]), va, vreqs, (.int .i64 (before.getD k13_2 0)), (.int .i64 (k13_2 : Int))]) (v := (.int .i64 (F_spec_l7Gap m a reqs (before.getD k13_2 0) (k13_2 : Int)))) en_137 ⟨(ev_t rfl), (ev_t rfl), (ev_t rfl), (ev_t rfl), (ev_t rfl), trivial⟩ (fun w hw => spec_l7Gap_ok w vm um m ((rii_arg hm) w hw) va a ((ri_arg ha) w hw) vreqs reqs ((ri_arg hreqs) w hw) (before.getD k13_2 0) (k13_2 : Int) (by first | assumption | omega | grind) (by first | assumption | omega | grind) (by first | assumption | omega | grind) (by first | assumption | omega | grind) (by first | assumption | omega | grind))) rfl rfl rfl ?_
      refine TQ.op (yq (y_add (ev_t rfl) (ev_t rfl) (by unfold In64; constructor <;> omega))) rfl rfl rfl ?_
      have hb97 : k13_2 < m1_2.length := (by first | omega | (simp only [List.length_set, List.length_append, List.length_cons, List.length_nil, List.length_replicate]; omega) | (rw [sortI_length]; simp only [List.length_cons, List.length_nil]; omega))
      refine TQ.op (yq (y_idx (k := k13_2) (ev_t rfl) (ev_t rfl) (by first | omega | simp) slT_34 (ri_row 1 rfl) hb97)) rfl rfl rfl ?_
      refine TQ.tail ?_
      refine TL.storeI 1 (ev_t rfl) (ev_t rfl) one_3 rfl hb97 ?_
      refine TL.nil ?_
      refine TN.seq ?_
      refine TC.seq ?_
      refine TC.region ?_
      refine TL.op (yq (y_assign ev_c)) rfl rfl rfl ?_
      refine TL.nil ?_
      refine TN.seq ?_
      refine TC.block ?_
      obtain ⟨c98, hc99⟩ : ∃ c, F_spec_l7Rise_L3 m a reqs before k13_2 m0_2 m1_2 ((a.length + k13_2 - 0) + 1) (k12_2, 0, m0_2) = c := ⟨_, rfl⟩
      rw [hc99] at hL2
      refine TC.loop (ι := Nat × Bool × Nat × List Int) (fun (fu3, k12_3, k14_3, m0_3) => [(1, va), (2, vreqs), (3, vbefore), (4, (.pointer (some ⟨g0_0, 0, none⟩))), (10, v1_2), (11, v2_5), (12, (.bool k12_3)), (13, (.int .i64 (k13_2 : Int))), (14, (.int .i64 (k14_3 : Int)))]) (fun (fu3, k12_3, k14_3, m0_3) => Hp w [rowI 3 v2_5 m0_3, rowI 3 v1_2 (m1_2.set k13_2 ((m0_2.getD (((before.getD k13_2 0)).toNat) 0) + (F_spec_l7Gap m a reqs (before.getD k13_2 0) (k13_2 : Int)))), .blk g0_0 55 [vm]]) (fun (fu3, k12_3, k14_3, m0_3) => (RiM m a reqs before m0_3) ∧ (Th.Rup k12_3 m0_3 m0_1) ∧ a.length + k13_2 - k14_3 < fu3 ∧ F_spec_l7Rise_L3 m a reqs before k13_2 m0_2 m1_2 fu3 (k12_3, k14_3, m0_3) = c98) (fun (fu3, k12_3, k14_3, m0_3) => fu3) ((a.length + k13_2 - 0) + 1, k12_2, 0, m0_2) ⟨hi2_0, hi2_1, (by omega), hc99⟩ ⟨rfl, rfl, rfl, rfl, rfl, rfl, rfl, rfl, rfl, trivial⟩ (fun w hw => hw) ?_
      rintro ⟨fu3, k12_3, k14_3, m0_3⟩ hJ3
      obtain ⟨hi3_0, hi3_1, hmu3, hL3⟩ : (RiM m a reqs before m0_3) ∧ (Th.Rup k12_3 m0_3 m0_1) ∧ a.length + k13_2 - k14_3 < fu3 ∧ F_spec_l7Rise_L3 m a reqs before k13_2 m0_2 m1_2 fu3 (k12_3, k14_3, m0_3) = c98 := hJ3
      change TC _ _ _ _ (Hp w [rowI 3 v2_5 m0_3, rowI 3 v1_2 (m1_2.set k13_2 ((m0_2.getD (((before.getD k13_2 0)).toNat) 0) + (F_spec_l7Gap m a reqs (before.getD k13_2 0) (k13_2 : Int)))), .blk g0_0 55 [vm]]) [(1, va), (2, vreqs), (3, vbefore), (4, (.pointer (some ⟨g0_0, 0, none⟩))), (10, v1_2), (11, v2_5), (12, (.bool k12_3)), (13, (.int .i64 (k13_2 : Int))), (14, (.int .i64 (k14_3 : Int)))]
      obtain ⟨mf3, rfl⟩ : ∃ m, fu3 = m + 1 := ⟨fu3 - 1, by omega⟩
      rw [F_spec_l7Rise_L3_s] at hL3
      have hln3 := hi3_0.len
      refine TC.seq ?_
      refine TC.seq ?_
      refine TC.region ?_
      refine TL.op (yq (y_move (ev_t rfl))) rfl rfl rfl ?_
      refine TL.op (yq (y_move (ev_t rfl))) rfl rfl rfl ?_
      refine TL.op (yq (y_len (ev_t rfl) Try.underlying34 (fun w hw => ((ri_arg ha) w hw).ln))) rfl rfl rfl ?_
      refine TL.op (yq (y_move (ev_t rfl))) rfl rfl rfl ?_
      refine TL.op (yq (y_add (ev_t rfl) (ev_t rfl) (by unfold In64; constructor <;> omega))) rfl rfl rfl ?_
      refine TL.op (yq (y_lss (ev_t rfl) (ev_t rfl))) rfl rfl rfl ?_
      refine TL.nil ?_
      refine TN.seq ?_
      refine TC.cond (b := decide ((k14_3 : Int) < (a.length : Int) + (k13_2 : Int))) (ev_t rfl) (fun h100 => ?_) (fun h100 => ?_)
      · rw [bif_pos h100] at hL3
        have q101 := (of_decide_eq_true h100)
        have hrb3 := rise_bd hA hp1 hi3_0 k14_3 (by omega)
        have hg3 := hga (k14_3 : Int) (k13_2 : Int)
        have hlb := hlow.2
        refine TC.skip ?_
        refine TN.seq ?_
        refine TC.seq ?_
        refine TC.block ?_
        refine TC.seq ?_
        refine TC.regionQ (by kernel_rfl) (by kernel_rfl) dr_hp ?_
        refine TQ.op (yq (y_move (ev_t rfl))) rfl rfl rfl ?_
        refine TQ.op (yq (y_move (ev_t rfl))) rfl rfl rfl ?_
        have hb102 : k13_2 < (m1_2.set k13_2 ((m0_2.getD (((before.getD k13_2 0)).toNat) 0) + (F_spec_l7Gap m a reqs (before.getD k13_2 0) (k13_2 : Int)))).length := (by first | (simp only [List.length_set, List.length_append, List.length_cons, List.length_nil, List.length_replicate]; omega) | omega | (rw [sortI_length]; simp only [List.length_cons, List.length_nil]; omega))
        refine TQ.op (yq (y_idx (k := k13_2) (ev_t rfl) (ev_t rfl) (by first | omega | simp) slT_34 (ri_row 1 rfl) hb102)) rfl rfl rfl ?_
        refine TQ.op (yq (y_ldi (ev_t rfl) one_3 (ri_row 1 rfl) hb102)) rfl rfl rfl ?_
        refine TQ.op (yq (y_ldagg (cs := [vm]) 2 (ev_t rfl) agg_55 rfl)) rfl rfl rfl ?_
        refine TQ.op (yq (y_move (ev_t rfl))) rfl rfl rfl ?_
        refine TQ.op (yq (y_move (ev_t rfl))) rfl rfl rfl ?_
        refine TQ.op (yq (y_move (ev_t rfl))) rfl rfl rfl ?_
        refine TQ.op (yq (y_move (ev_t rfl))) rfl rfl rfl ?_
        refine TQ.op (y_call (vs := [(.agg #[vm]), va, vreqs, (.int .i64 (k14_3 : Int)), (.int .i64 (k13_2 : Int))]) (v := (.int .i64 (F_spec_l7Gap m a reqs (k14_3 : Int) (k13_2 : Int)))) en_137 ⟨(ev_t rfl), (ev_t rfl), (ev_t rfl), (ev_t rfl), (ev_t rfl), trivial⟩ (fun w hw => spec_l7Gap_ok w vm um m ((rii_arg hm) w hw) va a ((ri_arg ha) w hw) vreqs reqs ((ri_arg hreqs) w hw) (k14_3 : Int) (k13_2 : Int) (by first | assumption | omega | grind) (by first | assumption | omega | grind) (by first | assumption | omega | grind) (by first | assumption | omega | grind) (by first | assumption | omega | grind))) rfl rfl rfl ?_
        refine TQ.op (yq (y_sub (ev_t rfl) (ev_t rfl) (by unfold In64; constructor <;> omega))) rfl rfl rfl ?_
        refine TQ.op (yq (y_assign (ev_t rfl))) rfl rfl rfl ?_
        refine TQ.nil ?_
        refine TN.seq ?_
        refine TC.seq ?_
        refine TC.region ?_
        refine TL.op (yq (y_move (ev_t rfl))) rfl rfl rfl ?_
        refine TL.op (yq (y_move (ev_t rfl))) rfl rfl rfl ?_
        refine TL.op (yq (y_move (ev_t rfl))) rfl rfl rfl ?_
        have hb103 : k14_3 < m0_3.length := (by first | omega | (simp only [List.length_set, List.length_append, List.length_cons, List.length_nil, List.length_replicate]; omega) | (rw [sortI_length]; simp only [List.length_cons, List.length_nil]; omega))
        refine TL.op (yq (y_idx (k := k14_3) (ev_t rfl) (ev_t rfl) (by first | omega | simp) slT_34 (ri_row 0 rfl) hb103)) rfl rfl rfl ?_
        refine TL.op (yq (y_ldi (ev_t rfl) one_3 (ri_row 0 rfl) hb103)) rfl rfl rfl ?_
        refine TL.op (yq (y_gtr (ev_t rfl) (ev_t rfl))) rfl rfl rfl ?_
        refine TL.nil ?_
        refine TN.seq ?_
        refine TC.cond (b := decide ((m0_3.getD k14_3 0) < ((m1_2.set k13_2 ((m0_2.getD (((before.getD k13_2 0)).toNat) 0) + (F_spec_l7Gap m a reqs (before.getD k13_2 0) (k13_2 : Int)))).getD k13_2 0) - (F_spec_l7Gap m a reqs (k14_3 : Int) (k13_2 : Int)))) (ev_t rfl) (fun h104 => ?_) (fun h104 => ?_)
        · rw [bif_pos h104] at hL3
          have q105 := (of_decide_eq_true h104)
          have hst := rise_step hA hp1 hi3_0 hlow.1 (l := k14_3) (by omega) (by omega) q105
          refine TC.seq ?_
          refine TC.region ?_
          refine TL.op (yq (y_move (ev_t rfl))) rfl rfl rfl ?_
          refine TL.op (yq (y_move (ev_t rfl))) rfl rfl rfl ?_
          refine TL.op (yq (y_move (ev_t rfl))) rfl rfl rfl ?_
          have hb106 : k14_3 < m0_3.length := (by first | omega | (simp only [List.length_set, List.length_append, List.length_cons, List.length_nil, List.length_replicate]; omega) | (rw [sortI_length]; simp only [List.length_cons, List.length_nil]; omega))
          refine TL.op (yq (y_idx (k := k14_3) (ev_t rfl) (ev_t rfl) (by first | omega | simp) slT_34 (ri_row 0 rfl) hb106)) rfl rfl rfl ?_
          refine TL.storeI 0 (ev_t rfl) (ev_t rfl) one_3 rfl hb106 ?_
          refine TL.nil ?_
          refine TN.seq ?_
          refine TC.region ?_
          refine TL.op (yq (y_assign ev_c)) rfl rfl rfl ?_
          refine TL.nil ?_
          refine TN.blockN ?_
          refine TN.seq ?_
          refine TC.region ?_
          refine TL.op (yq (y_move (ev_t rfl))) rfl rfl rfl ?_
          refine TL.op (yq (y_add (ev_t rfl) ev_c (by unfold In64; constructor <;> omega))) rfl rfl rfl ?_
          refine TL.op (yq (y_assign (ev_t rfl))) rfl rfl rfl ?_
          refine TL.nil ?_
          exact TN.hand (mf3, true, (k14_3 + 1), (m0_3.set k14_3 (((m1_2.set k13_2 ((m0_2.getD (((before.getD k13_2 0)).toNat) 0) + (F_spec_l7Gap m a reqs (before.getD k13_2 0) (k13_2 : Int)))).getD k13_2 0) - (F_spec_l7Gap m a reqs (k14_3 : Int) (k13_2 : Int))))) ⟨(by first | exact hst.1 | exact hi3_0), (by first | exact hi3_1.up hst.2 | exact hi3_1), (by omega), hL3⟩ (Nat.lt_succ_self _) ⟨rfl, rfl, rfl, rfl, rfl, rfl, rfl, rfl, rfl, trivial⟩ (fun w hw => hw)
        · rw [bif_neg h104] at hL3
          have q105 := (of_decide_eq_false h104)
          refine TC.skip ?_
          refine TN.blockN ?_
          refine TN.seq ?_
          refine TC.region ?_
          refine TL.op (yq (y_move (ev_t rfl))) rfl rfl rfl ?_
          refine TL.op (yq (y_add (ev_t rfl) ev_c (by unfold In64; constructor <;> omega))) rfl rfl rfl ?_
          refine TL.op (yq (y_assign (ev_t rfl))) rfl rfl rfl ?_
          refine TL.nil ?_
          exact TN.hand (mf3, k12_3, (k14_3 + 1), m0_3) ⟨(by first | exact hst.1 | exact hi3_0), (by first | exact hi3_1.up hst.2 | exact hi3_1), (by omega), hL3⟩ (Nat.lt_succ_self _) ⟨rfl, rfl, rfl, rfl, rfl, rfl, rfl, rfl, rfl, trivial⟩ (fun w hw => hw)
      · rw [bif_neg h100] at hL3
        have q101 := (of_decide_eq_false h100)
        refine TC.exit ?_
        refine TN.thenE ?_
        refine TN.thenE ?_
        rw [← hL3, elim_next] at hL2
        try dsimp only at hL2
        refine TN.blockH ?_
        refine TN.blockN ?_
        refine TN.seq ?_
        refine TC.region ?_
        refine TL.op (yq (y_move (ev_t rfl))) rfl rfl rfl ?_
        refine TL.op (yq (y_add (ev_t rfl) ev_c (by unfold In64; constructor <;> omega))) rfl rfl rfl ?_
        refine TL.op (yq (y_assign (ev_t rfl))) rfl rfl rfl ?_
        refine TL.nil ?_
        exact TN.hand (mf2, k12_3, (k13_2 + 1), m0_3, (m1_2.set k13_2 ((m0_2.getD (((before.getD k13_2 0)).toNat) 0) + (F_spec_l7Gap m a reqs (before.getD k13_2 0) (k13_2 : Int))))) ⟨hi3_0, hi3_1, (by rw [List.length_set]; exact hi2_2), (by omega), hL2⟩ (Nat.lt_succ_self _) ⟨rfl, rfl, rfl, rfl, rfl, rfl, rfl, rfl, trivial⟩ (fun w hw => hw)
    · rw [bif_neg h92] at hL2
      have q93 := (of_decide_eq_false h92)
      refine TC.exit ?_
      refine TN.thenE ?_
      refine TN.thenE ?_
      rw [← hL2, elim_next] at hL1
      try dsimp only at hL1
      refine TN.blockH ?_
      refine TN.blockN ?_
      have hmu1b := hi2_1.mu (rise_sum hA hp1 hi2_0)
      exact TN.hand (mf1, k12_2, m0_2, m1_2) ⟨hi2_0, (by first | omega | (simp [-List.getD_eq_getElem?_getD] <;> omega)), (by omega), hL1⟩ (Nat.lt_succ_self _) ⟨rfl, rfl, rfl, rfl, rfl, rfl, rfl, trivial⟩ (fun w hw => hw)
  · rw [bif_neg h88] at hL1
    have q89 := h88
    refine TC.exit ?_
    refine TN.thenE ?_
    refine TN.thenE ?_
    rw [← hL1, elim_next] at hF
    try dsimp only at hF
    refine TN.blockH ?_
    refine TN.seq ?_
    refine TC.seq ?_
    refine TC.region ?_
    refine TL.op (yq (y_move (ev_t rfl))) rfl rfl rfl ?_
    refine TL.op (yq (y_move (ev_t rfl))) rfl rfl rfl ?_
    refine TL.op (yq (y_assign (ev_t rfl))) rfl rfl rfl ?_
    refine TL.op (yq (y_assign (ev_t rfl))) rfl rfl rfl ?_
    refine TL.nil ?_
    refine TN.seq ?_
    refine TC.ret ?_
    subst hF
    exact TN.ret2 rfl (ev_t rfl) (ev_t rfl) (fun w' hw => ⟨(v1_2, v2_5), rfl, Hp.picks [1, 0] (by decide) rfl hw⟩)

set_option maxRecDepth 4000 in
set_option maxHeartbeats 1000000 in
theorem spec_LeastPrices_ok (w : World) (vm : Value) (um : List Value) (m : List (List Int)) (hm : RII w vm um m) (va : Value) (a : List Int) (ha : RI w va a) (vreqs : Value) (reqs : List Int) (hreqs : RI w vreqs reqs)  :
    Calls Try.prog 54 ([(.agg #[vm]), va, vreqs] : List Value).toArray w (fun e w' => ∃ i : Value, e = .returned (.tuple #[i, (.bool ((F_spec_LeastPrices m a reqs).2))]) ∧ Hp w [rowI 3 i ((F_spec_LeastPrices m a reqs).1)] w') := by
  obtain ⟨rz, hF⟩ : ∃ rz, (F_spec_LeastPrices m a reqs) = rz := ⟨_, rfl⟩
  rw [hF]
  unfold F_spec_LeastPrices at hF
  have hlen_m := argT_len hm
  have hlen_a := arg_len ha
  have hlen_reqs := arg_len hreqs
  refine calls_tc Try.func54 rfl rfl rfl ?_
  change TC _ _ _ _ (Hp w []) [(0, (.agg #[vm])), (1, va), (2, vreqs)]
  refine TC.seq ?_
  refine TC.region ?_
  refine TL.box (ev_t rfl) rfl (fun g0_0 => ?_)
  refine TL.op (yq (y_assign ev_c)) rfl rfl rfl ?_
  refine TL.op (yq (y_assign ev_c)) rfl rfl rfl ?_
  refine TL.nil ?_
  refine TN.seq ?_
  refine TC.seq ?_
  refine TC.seq ?_
  refine TC.region ?_
  refine TL.op (yq (y_ldagg (cs := [vm]) 0 (ev_t rfl) agg_55 rfl)) rfl rfl rfl ?_
  refine TL.op (y_call (vs := [(.agg #[vm])]) (v := (.bool (F_spec_l6Good m))) en_88 ⟨(ev_t rfl), trivial⟩ (fun w hw => spec_l6Good_ok w vm um m ((rii_arg hm) w hw))) rfl rfl rfl ?_
  refine TL.op (yq (y_not (ev_t rfl))) rfl rfl rfl ?_
  refine TL.op (yq (y_move (ev_t rfl))) rfl rfl rfl ?_
  refine TL.opw (w_f rfl rfl rfl) (fun hg => yq (y_ldagg (cs := [vm]) 0 (ev_t rfl) agg_55 rfl)) rfl rfl ?_
  refine TL.opw (w_f rfl rfl rfl) (fun hg => yq (y_move (ev_t rfl))) rfl rfl ?_
  refine TL.opw (w_f rfl rfl rfl) (fun hg => yq (y_move (ev_t rfl))) rfl rfl ?_
  refine TL.opw (w_f rfl rfl rfl) (fun hg => y_call (vs := [(.agg #[vm]), va, vreqs]) (v := (.bool (F_spec_l6Start m a reqs))) en_97 ⟨(ev_g rfl hg), (ev_g rfl hg), (ev_g rfl hg), trivial⟩ (fun w hw => spec_l6Start_ok w vm um m ((rii_arg hm) w hw) va a ((ri_arg ha) w hw) vreqs reqs ((ri_arg hreqs) w hw))) rfl rfl ?_
  refine TL.opw (w_f rfl rfl rfl) (fun hg => yq (y_not (ev_g rfl hg))) rfl rfl ?_
  refine TL.op (yq (y_or (ev_t rfl) (fun hq => (ev_g rfl hq)))) rfl rfl rfl ?_
  refine TL.nil ?_
  refine TN.seq ?_
  refine TC.cond (b := ((!(F_spec_l6Good m)) || (!(F_spec_l6Start m a reqs)))) (ev_t rfl) (fun h3 => ?_) (fun h3 => ?_)
  · rw [bif_pos h3] at hF
    have q4 := ((or_t h3).imp (fun h => (not_t h)) (fun h => (not_t h)))
    refine TC.seq ?_
    refine TC.region ?_
    refine TL.buildI (zs := []) (qs := []) slT_34 rfl trivial rfl (by decide) rfl (fun v2_0 => ?_)
    refine TL.op (yq (y_assign (ev_t rfl))) rfl rfl rfl ?_
    refine TL.op (yq (y_assign ev_c)) rfl rfl rfl ?_
    refine TL.nil ?_
    refine TN.seq ?_
    refine TC.ret ?_
    refine TN.thenR ?_
    subst hF
    exact TN.ret2 rfl (ev_t rfl) (ev_t rfl) (fun w' hw => ⟨v2_0, rfl, Hp.sublist hw (.cons_cons _ (.cons _ .slnil))⟩)
  · rw [bif_neg h3] at hF
    have q4 := (and_imp (or_f h3) (fun h => (l6Good_t (not_f h))) (fun h => (l6Start_t (not_f h))))
    have hS := q4.2
    have hfw := flow_ok hS
    have hf1 := hfw.1
    have hf2 := hfw.2.2
    refine TC.skip ?_
    refine TN.seq ?_
    refine TC.seq ?_
    refine TC.regionH 13 (Hp w [.blk g0_0 55 [vm]]) rfl (by kernel_rfl) dr_hp (fun w hw => hw) ?_
    refine TH.take 0 rfl (by kernel_rfl) (y_ldagg (cs := [vm]) 0 (ev_t rfl) agg_55 rfl) rfl rfl rfl ?_
    refine TH.take 1 rfl (by kernel_rfl) (y_move (ev_t rfl)) rfl rfl rfl ?_
    refine TH.take 2 rfl (by kernel_rfl) (y_move (ev_t rfl)) rfl rfl rfl ?_
    refine TH.take 3 rfl (by kernel_rfl) (y_ldagg (cs := [vm]) 0 (ev_t rfl) agg_55 rfl) rfl rfl rfl ?_
    refine TH.take 4 rfl (by kernel_rfl) (y_move (ev_t rfl)) rfl rfl rfl ?_
    refine TH.take 5 rfl (by kernel_rfl) (y_move (ev_t rfl)) rfl rfl rfl ?_
    refine TH.loud 6 rfl (by kernel_rfl) ?_
    refine TL.callr (ι := Value) (vs := [(.agg #[vm]), va, vreqs]) (fun i => i) (fun i => [rowI 3 i (F_spec_l7Flow m a reqs)]) en_99 ⟨(ev_t rfl), (ev_t rfl), (ev_t rfl), trivial⟩ rfl (fun w hw => spec_l7Flow_ok w vm um m ((rii_arg hm) w hw) va a ((ri_arg ha) w hw) vreqs reqs ((ri_arg hreqs) w hw) (by first | assumption | omega | grind)) (fun r3_6 => ?_)
    refine TL.nil ?_
    refine TH.back (fun w hw => Hp.sublist hw (.cons _ (.cons_cons _ .slnil))) ?_
    refine TH.loud 7 rfl (by kernel_rfl) ?_
    refine TL.callr (ι := Value × Value) (vs := [(.agg #[vm]), va, vreqs, r3_6]) (fun i => (.tuple #[i.1, i.2])) (fun i => [rowI 3 i.1 ((F_spec_l7Rise m a reqs (F_spec_l7Flow m a reqs)).1), rowI 3 i.2 ((F_spec_l7Rise m a reqs (F_spec_l7Flow m a reqs)).2)]) en_103 ⟨(ev_t rfl), (ev_t rfl), (ev_t rfl), (ev_t rfl), trivial⟩ rfl (fun w hw => spec_l7Rise_ok w vm um m ((rii_arg hm) w hw) va a ((ri_arg ha) w hw) vreqs reqs ((ri_arg hreqs) w hw) r3_6 (F_spec_l7Flow m a reqs) ((ri_row 0 rfl) w hw) (by first | assumption | omega | grind) (by first | assumption | omega | grind)) (fun r3_7 => ?_)
    refine TL.nil ?_
    refine TH.back (fun w hw => Hp.sublist hw (.cons _ (.cons _ (.cons _ (.cons_cons _ .slnil))))) ?_
    refine TH.take 8 rfl (by kernel_rfl) (y_move (ev_t rfl)) rfl rfl rfl ?_
    refine TH.take 9 rfl (by kernel_rfl) (y_extract (ev_t rfl) rfl) rfl rfl rfl ?_
    refine TH.take 10 rfl (by kernel_rfl) (y_extract (ev_t rfl) rfl) rfl rfl rfl ?_
    refine TH.take 11 rfl (by kernel_rfl) (y_assign (ev_t rfl)) rfl rfl rfl ?_
    refine TH.take 12 rfl (by kernel_rfl) (y_assign (ev_t rfl)) rfl rfl rfl ?_
    refine TH.done (by kernel_rfl) ?_
    refine TN.seq ?_
    refine TC.seq ?_
    refine TC.region ?_
    refine TL.op (yq (y_move (ev_t rfl))) rfl rfl rfl ?_
    refine TL.op (yq (y_assign (ev_t rfl))) rfl rfl rfl ?_
    refine TL.op (yq (y_assign ev_c)) rfl rfl rfl ?_
    refine TL.nil ?_
    refine TN.seq ?_
    refine TC.ret ?_
    subst hF
    exact TN.ret2 rfl (ev_t rfl) (ev_t rfl) (fun w' hw => ⟨r3_7.1, rfl, Hp.sublist hw (.cons_cons _ (.cons _ (.cons _ (.cons _ .slnil))))⟩)

set_option maxRecDepth 4000 in
set_option maxHeartbeats 1000000 in
theorem impl_LeastPrices_ok (w : World) (vm : Value) (um : List Value) (m : List (List Int)) (hm : RII w vm um m) (va : Value) (a : List Int) (ha : RI w va a) (vreqs : Value) (reqs : List Int) (hreqs : RI w vreqs reqs)  :
    Calls Try.prog 55 ([(.agg #[vm]), va, vreqs] : List Value).toArray w (fun e w' => ∃ i : Value, e = .returned (.tuple #[i, (.bool ((F_impl_LeastPrices m a reqs).2))]) ∧ Hp w [rowI 3 i ((F_impl_LeastPrices m a reqs).1)] w') := by
  obtain ⟨rz, hF⟩ : ∃ rz, (F_impl_LeastPrices m a reqs) = rz := ⟨_, rfl⟩
  rw [hF]
  unfold F_impl_LeastPrices at hF
  have hlen_m := argT_len hm
  have hlen_a := arg_len ha
  have hlen_reqs := arg_len hreqs
  refine calls_tc Try.func55 rfl rfl rfl ?_
  change TC _ _ _ _ (Hp w []) [(0, (.agg #[vm])), (1, va), (2, vreqs)]
  refine TC.seq ?_
  refine TC.region ?_
  refine TL.box (ev_t rfl) rfl (fun g0_0 => ?_)
  refine TL.op (yq (y_assign ev_c)) rfl rfl rfl ?_
  refine TL.op (yq (y_assign ev_c)) rfl rfl rfl ?_
  refine TL.nil ?_
  refine TN.seq ?_
  refine TC.seq ?_
  refine TC.seq ?_
  refine TC.region ?_
  refine TL.op (yq (y_ldagg (cs := [vm]) 0 (ev_t rfl) agg_55 rfl)) rfl rfl rfl ?_
  refine TL.op (yq (y_move (ev_t rfl))) rfl rfl rfl ?_
  refine TL.op (yq (y_move (ev_t rfl))) rfl rfl rfl ?_
  refine TL.op (y_call (vs := [(.agg #[vm]), va, vreqs]) (v := (.bool (F_impl_isServed m a reqs))) en_100 ⟨(ev_t rfl), (ev_t rfl), (ev_t rfl), trivial⟩ (fun w hw => impl_isServed_ok w vm um m ((rii_arg hm) w hw) va a ((ri_arg ha) w hw) vreqs reqs ((ri_arg hreqs) w hw))) rfl rfl rfl ?_
  refine TL.op (yq (y_not (ev_t rfl))) rfl rfl rfl ?_
  refine TL.nil ?_
  refine TN.seq ?_
  refine TC.cond (b := !(F_impl_isServed m a reqs)) (ev_t rfl) (fun h132 => ?_) (fun h132 => ?_)
  · rw [bif_pos h132] at hF
    have q133 := (not_t h132)
    refine TC.seq ?_
    refine TC.region ?_
    refine TL.op (yq (y_assign ev_c)) rfl rfl rfl ?_
    refine TL.op (yq (y_assign ev_c)) rfl rfl rfl ?_
    refine TL.nil ?_
    refine TN.seq ?_
    refine TC.ret ?_
    refine TN.thenR ?_
    subst hF
    refine TN.cls (fun w hw => hw.nil 3 1) ?_
    exact TN.ret2 rfl (ev_t rfl) (ev_t rfl) (fun w' hw => ⟨(.slice none 0 0), rfl, Hp.sublist hw (.cons_cons _ (.cons _ .slnil))⟩)
  · rw [bif_neg h132] at hF
    have q133 := (isServed_t (not_f h132))
    have hS := q133
    have hcs := cs_flow hS
    have hfb := flow_best hS
    have hfl := hfb.2.1
    have hff := flow_bd hS
    have hff1 := hff.1
    have hr60 := hS.r60
    have hn3 := hS.cf.n3
    have hmx := fun i hi => before_bd hS (i := i) hi
    refine TC.skip ?_
    refine TN.seq ?_
    refine TC.seq ?_
    refine TC.region ?_
    refine TL.op (yq (y_ldagg (cs := [vm]) 0 (ev_t rfl) agg_55 rfl)) rfl rfl rfl ?_
    refine TL.op (yq (y_move (ev_t rfl))) rfl rfl rfl ?_
    refine TL.op (yq (y_move (ev_t rfl))) rfl rfl rfl ?_
    refine TL.callr (ι := Nat × Value × List Value) (vs := [(.agg #[vm]), va, vreqs]) (fun i => (.pointer (some ⟨i.1, 0, none⟩))) (fun i => [.blk i.1 106 [.int .i64 ((F_impl_flowOf m a reqs).1), i.2.1], tabI 34 3 i.2.1 i.2.2 ((F_impl_flowOf m a reqs).2)]) en_102 ⟨(ev_t rfl), (ev_t rfl), (ev_t rfl), trivial⟩ rfl (fun w hw => impl_flowOf_ok w vm um m ((rii_arg hm) w hw) va a ((ri_arg ha) w hw) vreqs reqs ((ri_arg hreqs) w hw) (by first | assumption | omega | grind)) (fun r3_3 => ?_)
    refine TL.op (yq (y_assign (ev_t rfl))) rfl rfl rfl ?_
    refine TL.nil ?_
    refine TN.seq ?_
    refine TC.seq ?_
    refine TC.region ?_
    refine TL.op (yq (y_move (ev_t rfl))) rfl rfl rfl ?_
    refine TL.op (yq (y_nilp (ev_t rfl))) rfl rfl rfl ?_
    refine TL.op (yq (y_fa (fa_106_1 r3_3.1) (ev_t rfl))) rfl rfl rfl ?_
    refine TL.op (yq (y_ldb 0 (ev_t rfl) one_49 rfl rfl)) rfl rfl rfl ?_
    refine TL.callr (ι := Value) (vs := [r3_3.2.1]) (fun i => (.tuple #[i, (.int .i64 ((F_impl_assigned ((F_impl_flowOf m a reqs).2)).2))])) (fun i => [rowI 3 i ((F_impl_assigned ((F_impl_flowOf m a reqs).2)).1)]) en_101 ⟨(ev_t rfl), trivial⟩ rfl (fun w hw => impl_assigned_ok w r3_3.2.1 r3_3.2.2 ((F_impl_flowOf m a reqs).2) ((rii_tab 1 rfl) w hw) (by first | assumption | omega | grind)) (fun r4_4 => ?_)
    refine TL.op (yq (y_move (ev_t rfl))) rfl rfl rfl ?_
    refine TL.op (yq (y_extract (ev_t rfl) rfl)) rfl rfl rfl ?_
    refine TL.op (yq (y_extract (ev_t rfl) rfl)) rfl rfl rfl ?_
    refine TL.op (yq (y_assign (ev_t rfl))) rfl rfl rfl ?_
    refine TL.op (yq (y_assign (ev_t rfl))) rfl rfl rfl ?_
    refine TL.nil ?_
    refine TN.seq ?_
    refine TC.seq ?_
    refine TC.region ?_
    refine TL.buildI (zs := []) (qs := []) slT_34 rfl trivial rfl (by decide) rfl (fun v5_0 => ?_)
    refine TL.op (yq (y_assign (ev_t rfl))) rfl rfl rfl ?_
    refine TL.nil ?_
    refine TN.seq ?_
    refine TC.seq ?_
    refine TC.seq ?_
    refine TC.region ?_
    refine TL.op (yq (y_move (ev_t rfl))) rfl rfl rfl ?_
    refine TL.op (yq (y_len (ev_t rfl) Try.underlying34 (fun w hw => ((ri_row 1 rfl) w hw).ln))) rfl rfl rfl ?_
    refine TL.op (yq (y_move ev_c)) rfl rfl rfl ?_
    refine TL.nil ?_
    refine TN.seq ?_
    refine TC.block ?_
    obtain ⟨c135, hc136⟩ : ∃ c, F_impl_LeastPrices_L1 m a reqs ((((F_impl_assigned ((F_impl_flowOf m a reqs).2)).1.length) - 0) + 1) (([] : List Int), 0) = c := ⟨_, rfl⟩
    rw [hc136] at hF
    refine TC.loop (ι := Nat × List Int × Nat × Value) (fun (fu1, k11_1, k40_1, vk11_1) => [(8, (.pointer (some ⟨r3_3.1, 0, none⟩))), (9, r4_4), (11, vk11_1), (38, r4_4), (39, (.int .i64 ((F_impl_assigned ((F_impl_flowOf m a reqs).2)).1.length : Int))), (40, (.int .i64 (k40_1 : Int)))]) (fun (fu1, k11_1, k40_1, vk11_1) => Hp w [rowI 3 vk11_1 k11_1, rowI 3 r4_4 ((F_impl_assigned ((F_impl_flowOf m a reqs).2)).1), .blk r3_3.1 106 [(.int .i64 ((F_impl_flowOf m a reqs).1)), r3_3.2.1], tabI 34 3 r3_3.2.1 r3_3.2.2 ((F_impl_flowOf m a reqs).2)]) (fun (fu1, k11_1, k40_1, vk11_1) => (k40_1 ≤ ((F_impl_assigned ((F_impl_flowOf m a reqs).2)).1.length)) ∧ (Pt m a reqs k40_1 k11_1) ∧ ((F_impl_assigned ((F_impl_flowOf m a reqs).2)).1.length) - k40_1 < fu1 ∧ F_impl_LeastPrices_L1 m a reqs fu1 (k11_1, k40_1) = c135) (fun (fu1, k11_1, k40_1, vk11_1) => fu1) ((((F_impl_assigned ((F_impl_flowOf m a reqs).2)).1.length) - 0) + 1, ([] : List Int), 0, v5_0) ⟨(by first | omega | (simp [-List.getD_eq_getElem?_getD] <;> omega)), (pt_nil m a reqs), (by omega), hc136⟩ ⟨rfl, rfl, rfl, rfl, rfl, rfl, trivial⟩ (fun w hw => Hp.sublist hw (.cons_cons _ (.cons_cons _ (.cons_cons _ (.cons_cons _ (.cons _ .slnil)))))) ?_
    rintro ⟨fu1, k11_1, k40_1, vk11_1⟩ hJ1
    obtain ⟨hi1_0, hi1_1, hmu1, hL1⟩ : (k40_1 ≤ ((F_impl_assigned ((F_impl_flowOf m a reqs).2)).1.length)) ∧ (Pt m a reqs k40_1 k11_1) ∧ ((F_impl_assigned ((F_impl_flowOf m a reqs).2)).1.length) - k40_1 < fu1 ∧ F_impl_LeastPrices_L1 m a reqs fu1 (k11_1, k40_1) = c135 := hJ1
    change TC _ _ _ _ (Hp w [rowI 3 vk11_1 k11_1, rowI 3 r4_4 ((F_impl_assigned ((F_impl_flowOf m a reqs).2)).1), .blk r3_3.1 106 [(.int .i64 ((F_impl_flowOf m a reqs).1)), r3_3.2.1], tabI 34 3 r3_3.2.1 r3_3.2.2 ((F_impl_flowOf m a reqs).2)]) [(8, (.pointer (some ⟨r3_3.1, 0, none⟩))), (9, r4_4), (11, vk11_1), (38, r4_4), (39, (.int .i64 ((F_impl_assigned ((F_impl_flowOf m a reqs).2)).1.length : Int))), (40, (.int .i64 (k40_1 : Int)))]
    obtain ⟨mf1, rfl⟩ : ∃ m, fu1 = m + 1 := ⟨fu1 - 1, by omega⟩
    rw [F_impl_LeastPrices_L1_s] at hL1
    have hpl := hi1_1.len
    refine TC.seq ?_
    refine TC.region ?_
    refine TL.op (yq (y_lss (ev_t rfl) (ev_t rfl))) rfl rfl rfl ?_
    refine TL.nil ?_
    refine TN.seq ?_
    refine TC.seq ?_
    refine TC.cond (b := decide ((k40_1 : Int) < ((F_impl_assigned ((F_impl_flowOf m a reqs).2)).1.length : Int))) (ev_t rfl) (fun h137 => ?_) (fun h137 => ?_)
    · rw [bif_pos h137] at hL1
      have q138 := (of_decide_eq_true h137)
      have hmi := hmx k40_1 (by omega)
      have hro := hff.2.1 k40_1 (by omega)
      refine TC.skip ?_
      refine TN.seq ?_
      refine TC.seq ?_
      refine TC.block ?_
      refine TC.seq ?_
      refine TC.region ?_
      refine TL.op (yq (y_move (ev_t rfl))) rfl rfl rfl ?_
      have hb139 : k40_1 < (F_impl_assigned ((F_impl_flowOf m a reqs).2)).1.length := (by first | omega | (simp only [List.length_set, List.length_append, List.length_cons, List.length_nil, List.length_replicate]; omega) | (rw [sortI_length]; simp only [List.length_cons, List.length_nil]; omega))
      refine TL.op (yq (y_idx (k := k40_1) (ev_t rfl) (ev_t rfl) (by first | omega | simp) slT_34 (ri_row 1 rfl) hb139)) rfl rfl rfl ?_
      refine TL.op (yq (y_ldi (ev_t rfl) one_3 (ri_row 1 rfl) hb139)) rfl rfl rfl ?_
      refine TL.op (yq (y_assign (ev_t rfl))) rfl rfl rfl ?_
      refine TL.op (yq (y_assign (ev_t rfl))) rfl rfl rfl ?_
      refine TL.nil ?_
      refine TN.seq ?_
      refine TC.region ?_
      refine TL.op (yq (y_move (ev_t rfl))) rfl rfl rfl ?_
      refine TL.op (yq (y_move (ev_t rfl))) rfl rfl rfl ?_
      refine TL.op (yq (y_nilp (ev_t rfl))) rfl rfl rfl ?_
      refine TL.op (yq (y_fa (fa_106_1 r3_3.1) (ev_t rfl))) rfl rfl rfl ?_
      refine TL.op (yq (y_ldb 2 (ev_t rfl) one_49 rfl rfl)) rfl rfl rfl ?_
      refine TL.op (yq (y_move (ev_t rfl))) rfl rfl rfl ?_
      have hb140 : k40_1 < (F_impl_flowOf m a reqs).2.length := (by first | omega | (simp only [List.length_set, List.length_append, List.length_cons, List.length_nil, List.length_replicate]; omega) | (rw [sortI_length]; simp only [List.length_cons, List.length_nil]; omega))
      refine TL.op (yq (y_idx (k := k40_1) (ev_t rfl) (ev_t rfl) (by first | omega | simp) slT_49 (fun w hw => ((rii_tab 3 rfl) w hw).1) hb140)) rfl rfl rfl ?_
      refine TL.op (yq (y_ldT 3 (ev_t rfl) one_34 rfl hb140)) rfl rfl rfl ?_
      refine TL.op (yq (y_move (ev_t rfl))) rfl rfl rfl ?_
      have hb141 : (((F_impl_assigned ((F_impl_flowOf m a reqs).2)).1.getD k40_1 0)).toNat < ((F_impl_flowOf m a reqs).2.getD k40_1 []).length := (by first | omega | (simp only [List.length_set, List.length_append, List.length_cons, List.length_nil, List.length_replicate]; omega) | (rw [sortI_length]; simp only [List.length_cons, List.length_nil]; omega))
      refine TL.op (yq (y_idx (k := (((F_impl_assigned ((F_impl_flowOf m a reqs).2)).1.getD k40_1 0)).toNat) (ev_t rfl) (ev_t rfl) (by first | omega | simp) slT_34 (ri_tab 3 k40_1 rfl hb140) hb141)) rfl rfl rfl ?_
      refine TL.op (yq (y_ldi (ev_t rfl) one_3 (ri_tab 3 k40_1 rfl hb140) hb141)) rfl rfl rfl ?_
      refine TL.buildI (zs := [.tmp 55]) (qs := [(((F_impl_flowOf m a reqs).2.getD k40_1 []).getD ((((F_impl_assigned ((F_impl_flowOf m a reqs).2)).1.getD k40_1 0)).toNat) 0)]) slT_34 rfl ⟨(ev_t rfl), trivial⟩ rfl (by decide) rfl (fun v9_11 => ?_)
      refine TL.appendI 1 (ev_t rfl) (ev_t rfl) rfl slT_34 (ri_row 0 rfl) (by first | omega | (simp [-List.getD_eq_getElem?_getD] <;> omega)) rfl (fun v9_12 => ?_)
      refine TL.op (yq (y_assign (ev_t rfl))) rfl rfl rfl ?_
      refine TL.nil ?_
      refine TN.blockN ?_
      refine TN.seq ?_
      refine TC.region ?_
      refine TL.op (yq (y_add (ev_t rfl) ev_c (by unfold In64; constructor <;> omega))) rfl rfl rfl ?_
      refine TL.op (yq (y_move (ev_t rfl))) rfl rfl rfl ?_
      refine TL.nil ?_
      exact TN.hand (mf1, (k11_1 ++ ([(((F_impl_flowOf m a reqs).2.getD k40_1 []).getD ((((F_impl_assigned ((F_impl_flowOf m a reqs).2)).1.getD k40_1 0)).toNat) 0)])), (k40_1 + 1), v9_12) ⟨(by first | omega | (simp [-List.getD_eq_getElem?_getD] <;> omega)), (pt_push hS hi1_1 (by omega)), (by omega), hL1⟩ (Nat.lt_succ_self _) ⟨rfl, rfl, rfl, rfl, rfl, rfl, trivial⟩ (fun w hw => Hp.sublist hw (.cons _ (.cons_cons _ (.cons_cons _ (.cons_cons _ (.cons_cons _ .slnil))))))
    · rw [bif_neg h137] at hL1
      have q138 := (of_decide_eq_false h137)
      refine TC.exit ?_
      refine TN.thenE ?_
      refine TN.thenE ?_
      rw [← hL1, elim_next] at hF
      try dsimp only at hF
      have hk40 : k40_1 = reqs.length := by omega
      have hpi := pi_of hS (by rw [hk40] at hi1_1; exact hi1_1)
      refine TN.blockH ?_
      refine TN.seq ?_
      refine TC.seq ?_
      refine TC.seq ?_
      refine TC.region ?_
      refine TL.op (yq (y_assign ev_c)) rfl rfl rfl ?_
      refine TL.nil ?_
      refine TN.seq ?_
      refine TC.block ?_
      obtain ⟨c142, hc143⟩ : ∃ c, F_impl_LeastPrices_L2 m a reqs ((2 * (1000000 - Th.lsum k11_1).toNat + (bif true then 1 else 0)) + 1) (true, k11_1) = c := ⟨_, rfl⟩
      rw [hc143] at hF
      refine TC.loop (ι := Nat × Bool × List Int) (fun (fu2, k14_2, m0_2) => [(8, (.pointer (some ⟨r3_3.1, 0, none⟩))), (9, r4_4), (11, vk11_1), (14, (.bool k14_2))]) (fun (fu2, k14_2, m0_2) => Hp w [rowI 3 vk11_1 m0_2, rowI 3 r4_4 ((F_impl_assigned ((F_impl_flowOf m a reqs).2)).1), .blk r3_3.1 106 [(.int .i64 ((F_impl_flowOf m a reqs).1)), r3_3.2.1], tabI 34 3 r3_3.2.1 r3_3.2.2 ((F_impl_flowOf m a reqs).2)]) (fun (fu2, k14_2, m0_2) => (PiM m a reqs m0_2) ∧ 2 * (1000000 - Th.lsum m0_2).toNat + (bif k14_2 then 1 else 0) < fu2 ∧ F_impl_LeastPrices_L2 m a reqs fu2 (k14_2, m0_2) = c142) (fun (fu2, k14_2, m0_2) => fu2) ((2 * (1000000 - Th.lsum k11_1).toNat + (bif true then 1 else 0)) + 1, true, k11_1) ⟨hpi, (by omega), hc143⟩ ⟨rfl, rfl, rfl, rfl, trivial⟩ (fun w hw => hw) ?_
      rintro ⟨fu2, k14_2, m0_2⟩ hJ2
      obtain ⟨hi2_0, hmu2, hL2⟩ : (PiM m a reqs m0_2) ∧ 2 * (1000000 - Th.lsum m0_2).toNat + (bif k14_2 then 1 else 0) < fu2 ∧ F_impl_LeastPrices_L2 m a reqs fu2 (k14_2, m0_2) = c142 := hJ2
      change TC _ _ _ _ (Hp w [rowI 3 vk11_1 m0_2, rowI 3 r4_4 ((F_impl_assigned ((F_impl_flowOf m a reqs).2)).1), .blk r3_3.1 106 [(.int .i64 ((F_impl_flowOf m a reqs).1)), r3_3.2.1], tabI 34 3 r3_3.2.1 r3_3.2.2 ((F_impl_flowOf m a reqs).2)]) [(8, (.pointer (some ⟨r3_3.1, 0, none⟩))), (9, r4_4), (11, vk11_1), (14, (.bool k14_2))]
      obtain ⟨mf2, rfl⟩ : ∃ m, fu2 = m + 1 := ⟨fu2 - 1, by omega⟩
      rw [F_impl_LeastPrices_L2_s] at hL2
      have hln2 := hi2_0.len
      refine TC.seq ?_
      refine TC.seq ?_
      refine TC.region ?_
      refine TL.op (yq (y_move (ev_t rfl))) rfl rfl rfl ?_
      refine TL.nil ?_
      refine TN.seq ?_
      refine TC.cond (b := k14_2) (ev_t rfl) (fun h144 => ?_) (fun h144 => ?_)
      · rw [bif_pos h144] at hL2
        have q145 := h144
        have hb1 : (bif k14_2 then 1 else 0 : Nat) = 1 := by rw [q145]; rfl
        refine TC.skip ?_
        refine TN.seq ?_
        refine TC.block ?_
        refine TC.seq ?_
        refine TC.region ?_
        refine TL.op (yq (y_assign ev_c)) rfl rfl rfl ?_
        refine TL.nil ?_
        refine TN.seq ?_
        refine TC.seq ?_
        refine TC.region ?_
        refine TL.op (yq (y_move (ev_t rfl))) rfl rfl rfl ?_
        refine TL.op (yq (y_len (ev_t rfl) Try.underlying34 (fun w hw => ((ri_row 1 rfl) w hw).ln))) rfl rfl rfl ?_
        refine TL.op (yq (y_move ev_c)) rfl rfl rfl ?_
        refine TL.nil ?_
        refine TN.seq ?_
        refine TC.block ?_
        obtain ⟨c146, hc147⟩ : ∃ c, F_impl_LeastPrices_L3 m a reqs ((((F_impl_assigned ((F_impl_flowOf m a reqs).2)).1.length) - 0) + 1) (false, 0, m0_2) = c := ⟨_, rfl⟩
        rw [hc147] at hL2
        refine TC.loop (ι := Nat × Bool × Nat × List Int) (fun (fu3, k14_3, k62_3, m0_3) => [(8, (.pointer (some ⟨r3_3.1, 0, none⟩))), (9, r4_4), (11, vk11_1), (14, (.bool k14_3)), (60, r4_4), (61, (.int .i64 ((F_impl_assigned ((F_impl_flowOf m a reqs).2)).1.length : Int))), (62, (.int .i64 (k62_3 : Int)))]) (fun (fu3, k14_3, k62_3, m0_3) => Hp w [rowI 3 vk11_1 m0_3, rowI 3 r4_4 ((F_impl_assigned ((F_impl_flowOf m a reqs).2)).1), .blk r3_3.1 106 [(.int .i64 ((F_impl_flowOf m a reqs).1)), r3_3.2.1], tabI 34 3 r3_3.2.1 r3_3.2.2 ((F_impl_flowOf m a reqs).2)]) (fun (fu3, k14_3, k62_3, m0_3) => (k62_3 ≤ ((F_impl_assigned ((F_impl_flowOf m a reqs).2)).1.length)) ∧ (PiM m a reqs m0_3) ∧ (Th.Rup k14_3 m0_3 m0_2) ∧ ((F_impl_assigned ((F_impl_flowOf m a reqs).2)).1.length) - k62_3 < fu3 ∧ F_impl_LeastPrices_L3 m a reqs fu3 (k14_3, k62_3, m0_3) = c146) (fun (fu3, k14_3, k62_3, m0_3) => fu3) ((((F_impl_assigned ((F_impl_flowOf m a reqs).2)).1.length) - 0) + 1, false, 0, m0_2) ⟨(by first | omega | (simp [-List.getD_eq_getElem?_getD] <;> omega)), hi2_0, (Th.Rup.init _), (by omega), hc147⟩ ⟨rfl, rfl, rfl, rfl, rfl, rfl, rfl, trivial⟩ (fun w hw => hw) ?_
        rintro ⟨fu3, k14_3, k62_3, m0_3⟩ hJ3
        obtain ⟨hi3_0, hi3_1, hi3_2, hmu3, hL3⟩ : (k62_3 ≤ ((F_impl_assigned ((F_impl_flowOf m a reqs).2)).1.length)) ∧ (PiM m a reqs m0_3) ∧ (Th.Rup k14_3 m0_3 m0_2) ∧ ((F_impl_assigned ((F_impl_flowOf m a reqs).2)).1.length) - k62_3 < fu3 ∧ F_impl_LeastPrices_L3 m a reqs fu3 (k14_3, k62_3, m0_3) = c146 := hJ3
        change TC _ _ _ _ (Hp w [rowI 3 vk11_1 m0_3, rowI 3 r4_4 ((F_impl_assigned ((F_impl_flowOf m a reqs).2)).1), .blk r3_3.1 106 [(.int .i64 ((F_impl_flowOf m a reqs).1)), r3_3.2.1], tabI 34 3 r3_3.2.1 r3_3.2.2 ((F_impl_flowOf m a reqs).2)]) [(8, (.pointer (some ⟨r3_3.1, 0, none⟩))), (9, r4_4), (11, vk11_1), (14, (.bool k14_3)), (60, r4_4), (61, (.int .i64 ((F_impl_assigned ((F_impl_flowOf m a reqs).2)).1.length : Int))), (62, (.int .i64 (k62_3 : Int)))]
        obtain ⟨mf3, rfl⟩ : ∃ m, fu3 = m + 1 := ⟨fu3 - 1, by omega⟩
        rw [F_impl_LeastPrices_L3_s] at hL3
        have hln3 := hi3_1.len
        refine TC.seq ?_
        refine TC.region ?_
        refine TL.op (yq (y_lss (ev_t rfl) (ev_t rfl))) rfl rfl rfl ?_
        refine TL.nil ?_
        refine TN.seq ?_
        refine TC.seq ?_
        refine TC.cond (b := decide ((k62_3 : Int) < ((F_impl_assigned ((F_impl_flowOf m a reqs).2)).1.length : Int))) (ev_t rfl) (fun h148 => ?_) (fun h148 => ?_)
        · rw [bif_pos h148] at hL3
          have q149 := (of_decide_eq_true h148)
          have hmi := hmx k62_3 (by omega)
          have hri := hff.2.1 k62_3 (by omega)
          refine TC.skip ?_
          refine TN.seq ?_
          refine TC.seq ?_
          refine TC.block ?_
          refine TC.seq ?_
          refine TC.region ?_
          refine TL.op (yq (y_move (ev_t rfl))) rfl rfl rfl ?_
          have hb150 : k62_3 < (F_impl_assigned ((F_impl_flowOf m a reqs).2)).1.length := (by first | omega | (simp only [List.length_set, List.length_append, List.length_cons, List.length_nil, List.length_replicate]; omega) | (rw [sortI_length]; simp only [List.length_cons, List.length_nil]; omega))
          refine TL.op (yq (y_idx (k := k62_3) (ev_t rfl) (ev_t rfl) (by first | omega | simp) slT_34 (ri_row 1 rfl) hb150)) rfl rfl rfl ?_
          refine TL.op (yq (y_ldi (ev_t rfl) one_3 (ri_row 1 rfl) hb150)) rfl rfl rfl ?_
          refine TL.op (yq (y_assign (ev_t rfl))) rfl rfl rfl ?_
          refine TL.op (yq (y_assign (ev_t rfl))) rfl rfl rfl ?_
          refine TL.nil ?_
          refine TN.seq ?_
          refine TC.seq ?_
          refine TC.region ?_
          refine TL.op (yq (y_move (ev_t rfl))) rfl rfl rfl ?_
          refine TL.op (yq (y_nilp (ev_t rfl))) rfl rfl rfl ?_
          refine TL.op (yq (y_fa (fa_106_1 r3_3.1) (ev_t rfl))) rfl rfl rfl ?_
          refine TL.op (yq (y_ldb 2 (ev_t rfl) one_49 rfl rfl)) rfl rfl rfl ?_
          refine TL.op (yq (y_len (ev_t rfl) Try.underlying49 (fun w hw => ((fun w hw => ((rii_tab 3 rfl) w hw).1) w hw).ln))) rfl rfl rfl ?_
          refine TL.op (yq (y_move ev_c)) rfl rfl rfl ?_
          refine TL.nil ?_
          refine TN.seq ?_
          refine TC.block ?_
          obtain ⟨c151, hc152⟩ : ∃ c, F_impl_LeastPrices_L4 m a reqs k62_3 ((((F_impl_flowOf m a reqs).2.length) - 0) + 1) (k14_3, 0, m0_3) = c := ⟨_, rfl⟩
          rw [hc152] at hL3
          refine TC.loop (ι := Nat × Bool × Nat × List Int) (fun (fu4, k14_4, k72_4, m0_4) => [(8, (.pointer (some ⟨r3_3.1, 0, none⟩))), (9, r4_4), (11, vk11_1), (14, (.bool k14_4)), (15, (.int .i64 (k62_3 : Int))), (16, (.int .i64 ((F_impl_assigned ((F_impl_flowOf m a reqs).2)).1.getD k62_3 0))), (60, r4_4), (61, (.int .i64 ((F_impl_assigned ((F_impl_flowOf m a reqs).2)).1.length : Int))), (62, (.int .i64 (k62_3 : Int))), (70, r3_3.2.1), (71, (.int .i64 ((F_impl_flowOf m a reqs).2.length : Int))), (72, (.int .i64 (k72_4 : Int)))]) (fun (fu4, k14_4, k72_4, m0_4) => Hp w [rowI 3 vk11_1 m0_4, rowI 3 r4_4 ((F_impl_assigned ((F_impl_flowOf m a reqs).2)).1), .blk r3_3.1 106 [(.int .i64 ((F_impl_flowOf m a reqs).1)), r3_3.2.1], tabI 34 3 r3_3.2.1 r3_3.2.2 ((F_impl_flowOf m a reqs).2)]) (fun (fu4, k14_4, k72_4, m0_4) => (k72_4 ≤ ((F_impl_flowOf m a reqs).2.length)) ∧ (PiM m a reqs m0_4) ∧ (Th.Rup k14_4 m0_4 m0_2) ∧ ((F_impl_flowOf m a reqs).2.length) - k72_4 < fu4 ∧ F_impl_LeastPrices_L4 m a reqs k62_3 fu4 (k14_4, k72_4, m0_4) = c151) (fun (fu4, k14_4, k72_4, m0_4) => fu4) ((((F_impl_flowOf m a reqs).2.length) - 0) + 1, k14_3, 0, m0_3) ⟨(by first | omega | (simp [-List.getD_eq_getElem?_getD] <;> omega)), hi3_1, hi3_2, (by omega), hc152⟩ ⟨rfl, rfl, rfl, rfl, rfl, rfl, rfl, rfl, rfl, rfl, rfl, rfl, trivial⟩ (fun w hw => hw) ?_
          rintro ⟨fu4, k14_4, k72_4, m0_4⟩ hJ4
          obtain ⟨hi4_0, hi4_1, hi4_2, hmu4, hL4⟩ : (k72_4 ≤ ((F_impl_flowOf m a reqs).2.length)) ∧ (PiM m a reqs m0_4) ∧ (Th.Rup k14_4 m0_4 m0_2) ∧ ((F_impl_flowOf m a reqs).2.length) - k72_4 < fu4 ∧ F_impl_LeastPrices_L4 m a reqs k62_3 fu4 (k14_4, k72_4, m0_4) = c151 := hJ4
          change TC _ _ _ _ (Hp w [rowI 3 vk11_1 m0_4, rowI 3 r4_4 ((F_impl_assigned ((F_impl_flowOf m a reqs).2)).1), .blk r3_3.1 106 [(.int .i64 ((F_impl_flowOf m a reqs).1)), r3_3.2.1], tabI 34 3 r3_3.2.1 r3_3.2.2 ((F_impl_flowOf m a reqs).2)]) [(8, (.pointer (some ⟨r3_3.1, 0, none⟩))), (9, r4_4), (11, vk11_1), (14, (.bool k14_4)), (15, (.int .i64 (k62_3 : Int))), (16, (.int .i64 ((F_impl_assigned ((F_impl_flowOf m a reqs).2)).1.getD k62_3 0))), (60, r4_4), (61, (.int .i64 ((F_impl_assigned ((F_impl_flowOf m a reqs).2)).1.length : Int))), (62, (.int .i64 (k62_3 : Int))), (70, r3_3.2.1), (71, (.int .i64 ((F_impl_flowOf m a reqs).2.length : Int))), (72, (.int .i64 (k72_4 : Int)))]
          obtain ⟨mf4, rfl⟩ : ∃ m, fu4 = m + 1 := ⟨fu4 - 1, by omega⟩
          rw [F_impl_LeastPrices_L4_s] at hL4
          have hln4 := hi4_1.len
          refine TC.seq ?_
          refine TC.region ?_
          refine TL.op (yq (y_lss (ev_t rfl) (ev_t rfl))) rfl rfl rfl ?_
          refine TL.nil ?_
          refine TN.seq ?_
          refine TC.seq ?_
          refine TC.cond (b := decide ((k72_4 : Int) < ((F_impl_flowOf m a reqs).2.length : Int))) (ev_t rfl) (fun h153 => ?_) (fun h153 => ?_)
          · rw [bif_pos h153] at hL4
            have q154 := (of_decide_eq_true h153)
            have hrj := hff.2.1 k72_4 (by omega)
            have hb3 := lp_bd hS hi4_1 k62_3 (by omega)
            have hb4 := lp_bd hS hi4_1 k72_4 (by omega)
            have he3 := hff.2.2 k62_3 ((F_impl_assigned (F_impl_flowOf m a reqs).2).1.getD k62_3 0).toNat
            have he4 := hff.2.2 k72_4 ((F_impl_assigned (F_impl_flowOf m a reqs).2).1.getD k62_3 0).toNat
            refine TC.skip ?_
            refine TN.seq ?_
            refine TC.seq ?_
            refine TC.block ?_
            refine TC.seq ?_
            refine TC.region ?_
            refine TL.op (yq (y_move (ev_t rfl))) rfl rfl rfl ?_
            have hb155 : k72_4 < (F_impl_flowOf m a reqs).2.length := (by first | omega | (simp only [List.length_set, List.length_append, List.length_cons, List.length_nil, List.length_replicate]; omega) | (rw [sortI_length]; simp only [List.length_cons, List.length_nil]; omega))
            refine TL.op (yq (y_idx (k := k72_4) (ev_t rfl) (ev_t rfl) (by first | omega | simp) slT_49 (fun w hw => ((rii_tab 3 rfl) w hw).1) hb155)) rfl rfl rfl ?_
            refine TL.op (yq (y_ldT 3 (ev_t rfl) one_34 rfl hb155)) rfl rfl rfl ?_
            refine TL.op (yq (y_assign (ev_t rfl))) rfl rfl rfl ?_
            refine TL.op (yq (y_assign (ev_t rfl))) rfl rfl rfl ?_
            refine TL.nil ?_
            refine TN.seq ?_
            refine TC.seq ?_
            refine TC.seq ?_
            refine TC.region ?_
            refine TL.op (yq (y_move (ev_t rfl))) rfl rfl rfl ?_
            refine TL.op (yq (y_move (ev_t rfl))) rfl rfl rfl ?_
            have hb156 : (((F_impl_assigned ((F_impl_flowOf m a reqs).2)).1.getD k62_3 0)).toNat < ((F_impl_flowOf m a reqs).2.getD k72_4 []).length := (by first | omega | (simp only [List.length_set, List.length_append, List.length_cons, List.length_nil, List.length_replicate]; omega) | (rw [sortI_length]; simp only [List.length_cons, List.length_nil]; omega))
            refine TL.op (yq (y_idx (k := (((F_impl_assigned ((F_impl_flowOf m a reqs).2)).1.getD k62_3 0)).toNat) (ev_t rfl) (ev_t rfl) (by first | omega | simp) slT_34 (ri_tab 3 k72_4 rfl hb155) hb156)) rfl rfl rfl ?_
            refine TL.op (yq (y_ldi (ev_t rfl) one_3 (ri_tab 3 k72_4 rfl hb155) hb156)) rfl rfl rfl ?_
            refine TL.op (yq (y_eql (ev_t rfl) ev_c)) rfl rfl rfl ?_
            refine TL.nil ?_
            refine TN.seq ?_
            refine TC.cond (b := decide ((((F_impl_flowOf m a reqs).2.getD k72_4 []).getD ((((F_impl_assigned ((F_impl_flowOf m a reqs).2)).1.getD k62_3 0)).toNat) 0) = 1073741824)) (ev_t rfl) (fun h157 => ?_) (fun h157 => ?_)
            · rw [bif_pos h157] at hL4
              have q158 := (of_decide_eq_true h157)
              refine TC.exit ?_
              refine TN.thenE ?_
              refine TN.blockH ?_
              refine TN.seq ?_
              refine TC.region ?_
              refine TL.op (yq (y_add (ev_t rfl) ev_c (by unfold In64; constructor <;> omega))) rfl rfl rfl ?_
              refine TL.op (yq (y_move (ev_t rfl))) rfl rfl rfl ?_
              refine TL.nil ?_
              exact TN.hand (mf4, k14_4, (k72_4 + 1), m0_4) ⟨(by first | omega | (simp [-List.getD_eq_getElem?_getD] <;> omega)), (by first | exact hst.1 | exact hi4_1), (by first | exact hi4_2.up hst.2 | exact hi4_2), (by omega), hL4⟩ (Nat.lt_succ_self _) ⟨rfl, rfl, rfl, rfl, rfl, rfl, rfl, rfl, rfl, rfl, rfl, rfl, trivial⟩ (fun w hw => hw)
            · rw [bif_neg h157] at hL4
              have q158 := (of_decide_eq_false h157)
              have hnf := q158
              refine TC.skip ?_
              refine TN.seq ?_
              refine TC.seq ?_
              refine TC.regionQ (by kernel_rfl) (by kernel_rfl) dr_hp ?_
              refine TQ.op (yq (y_move (ev_t rfl))) rfl rfl rfl ?_
              refine TQ.op (yq (y_move (ev_t rfl))) rfl rfl rfl ?_
              have hb159 : k72_4 < m0_4.length := (by first | omega | (simp only [List.length_set, List.length_append, List.length_cons, List.length_nil, List.length_replicate]; omega) | (rw [sortI_length]; simp only [List.length_cons, List.length_nil]; omega))
              refine TQ.op (yq (y_idx (k := k72_4) (ev_t rfl) (ev_t rfl) (by first | omega | simp) slT_34 (ri_row 0 rfl) hb159)) rfl rfl rfl ?_
              refine TQ.op (yq (y_ldi (ev_t rfl) one_3 (ri_row 0 rfl) hb159)) rfl rfl rfl ?_
              refine TQ.op (yq (y_move (ev_t rfl))) rfl rfl rfl ?_
              refine TQ.op (yq (y_move (ev_t rfl))) rfl rfl rfl ?_
              have hb160 : (((F_impl_assigned ((F_impl_flowOf m a reqs).2)).1.getD k62_3 0)).toNat < ((F_impl_flowOf m a reqs).2.getD k72_4 []).length := (by first | omega | (simp only [List.length_set, List.length_append, List.length_cons, List.length_nil, List.length_replicate]; omega) | (rw [sortI_length]; simp only [List.length_cons, List.length_nil]; omega))
              refine TQ.op (yq (y_idx (k := (((F_impl_assigned ((F_impl_flowOf m a reqs).2)).1.getD k62_3 0)).toNat) (ev_t rfl) (ev_t rfl) (by first | omega | simp) slT_34 (ri_tab 3 k72_4 rfl hb155) hb160)) rfl rfl rfl ?_
              refine TQ.op (yq (y_ldi (ev_t rfl) one_3 (ri_tab 3 k72_4 rfl hb155) hb160)) rfl rfl rfl ?_
              refine TQ.op (yq (y_sub (ev_t rfl) (ev_t rfl) (by unfold In64; constructor <;> omega))) rfl rfl rfl ?_
              refine TQ.op (yq (y_move (ev_t rfl))) rfl rfl rfl ?_
              refine TQ.op (yq (y_nilp (ev_t rfl))) rfl rfl rfl ?_
              refine TQ.op (yq (y_fa (fa_106_1 r3_3.1) (ev_t rfl))) rfl rfl rfl ?_
              refine TQ.op (yq (y_ldb 2 (ev_t rfl) one_49 rfl rfl)) rfl rfl rfl ?_
              refine TQ.op (yq (y_move (ev_t rfl))) rfl rfl rfl ?_
              have hb161 : k62_3 < (F_impl_flowOf m a reqs).2.length := (by first | omega | (simp only [List.length_set, List.length_append, List.length_cons, List.length_nil, List.length_replicate]; omega) | (rw [sortI_length]; simp only [List.length_cons, List.length_nil]; omega))
              refine TQ.op (yq (y_idx (k := k62_3) (ev_t rfl) (ev_t rfl) (by first | omega | simp) slT_49 (fun w hw => ((rii_tab 3 rfl) w hw).1) hb161)) rfl rfl rfl ?_
              refine TQ.op (yq (y_ldT 3 (ev_t rfl) one_34 rfl hb161)) rfl rfl rfl ?_
              refine TQ.op (yq (y_move (ev_t rfl))) rfl rfl rfl ?_
              have hb162 : (((F_impl_assigned ((F_impl_flowOf m a reqs).2)).1.getD k62_3 0)).toNat < ((F_impl_flowOf m a reqs).2.getD k62_3 []).length := (by first | omega | (simp only [List.length_set, List.length_append, List.length_cons, List.length_nil, List.length_replicate]; omega) | (rw [sortI_length]; simp only [List.length_cons, List.length_nil]; omega))
              refine TQ.op (yq (y_idx (k := (((F_impl_assigned ((F_impl_flowOf m a reqs).2)).1.getD k62_3 0)).toNat) (ev_t rfl) (ev_t rfl) (by first | omega | simp) slT_34 (ri_tab 3 k62_3 rfl hb161) hb162)) rfl rfl rfl ?_
              refine TQ.op (yq (y_ldi (ev_t rfl) one_3 (ri_tab 3 k62_3 rfl hb161) hb162)) rfl rfl rfl ?_
              refine TQ.op (yq (y_add (ev_t rfl) (ev_t rfl) (by unfold In64; constructor <;> omega))) rfl rfl rfl ?_
              refine TQ.op (yq (y_assign (ev_t rfl))) rfl rfl rfl ?_
              refine TQ.nil ?_
              refine TN.seq ?_
              refine TC.seq ?_
              refine TC.region ?_
              refine TL.op (yq (y_move (ev_t rfl))) rfl rfl rfl ?_
              refine TL.op (yq (y_move (ev_t rfl))) rfl rfl rfl ?_
              refine TL.op (yq (y_move (ev_t rfl))) rfl rfl rfl ?_
              have hb163 : k62_3 < m0_4.length := (by first | omega | (simp only [List.length_set, List.length_append, List.length_cons, List.length_nil, List.length_replicate]; omega) | (rw [sortI_length]; simp only [List.length_cons, List.length_nil]; omega))
              refine TL.op (yq (y_idx (k := k62_3) (ev_t rfl) (ev_t rfl) (by first | omega | simp) slT_34 (ri_row 0 rfl) hb163)) rfl rfl rfl ?_
              refine TL.op (yq (y_ldi (ev_t rfl) one_3 (ri_row 0 rfl) hb163)) rfl rfl rfl ?_
              refine TL.op (yq (y_gtr (ev_t rfl) (ev_t rfl))) rfl rfl rfl ?_
              refine TL.nil ?_
              refine TN.seq ?_
              refine TC.cond (b := decide ((m0_4.getD k62_3 0) < ((m0_4.getD k72_4 0) - (((F_impl_flowOf m a reqs).2.getD k72_4 []).getD ((((F_impl_assigned ((F_impl_flowOf m a reqs).2)).1.getD k62_3 0)).toNat) 0)) + (((F_impl_flowOf m a reqs).2.getD k62_3 []).getD ((((F_impl_assigned ((F_impl_flowOf m a reqs).2)).1.getD k62_3 0)).toNat) 0))) (ev_t rfl) (fun h164 => ?_) (fun h164 => ?_)
              · rw [bif_pos h164] at hL4
                have q165 := (of_decide_eq_true h164)
                have hst := lp_step hS hi4_1 (by omega) (by omega) hnf q165
                refine TC.region ?_
                refine TL.op (yq (y_move (ev_t rfl))) rfl rfl rfl ?_
                refine TL.op (yq (y_move (ev_t rfl))) rfl rfl rfl ?_
                refine TL.op (yq (y_move (ev_t rfl))) rfl rfl rfl ?_
                have hb166 : k62_3 < m0_4.length := (by first | omega | (simp only [List.length_set, List.length_append, List.length_cons, List.length_nil, List.length_replicate]; omega) | (rw [sortI_length]; simp only [List.length_cons, List.length_nil]; omega))
                refine TL.op (yq (y_idx (k := k62_3) (ev_t rfl) (ev_t rfl) (by first | omega | simp) slT_34 (ri_row 0 rfl) hb166)) rfl rfl rfl ?_
                refine TL.storeI 0 (ev_t rfl) (ev_t rfl) one_3 rfl hb166 ?_
                refine TL.op (yq (y_assign ev_c)) rfl rfl rfl ?_
                refine TL.nil ?_
                refine TN.blockN ?_
                refine TN.seq ?_
                refine TC.region ?_
                refine TL.op (yq (y_add (ev_t rfl) ev_c (by unfold In64; constructor <;> omega))) rfl rfl rfl ?_
                refine TL.op (yq (y_move (ev_t rfl))) rfl rfl rfl ?_
                refine TL.nil ?_
                exact TN.hand (mf4, true, (k72_4 + 1), (m0_4.set k62_3 (((m0_4.getD k72_4 0) - (((F_impl_flowOf m a reqs).2.getD k72_4 []).getD ((((F_impl_assigned ((F_impl_flowOf m a reqs).2)).1.getD k62_3 0)).toNat) 0)) + (((F_impl_flowOf m a reqs).2.getD k62_3 []).getD ((((F_impl_assigned ((F_impl_flowOf m a reqs).2)).1.getD k62_3 0)).toNat) 0)))) ⟨(by first | omega | (simp [-List.getD_eq_getElem?_getD] <;> omega)), (by first | exact hst.1 | exact hi4_1), (by first | exact hi4_2.up hst.2 | exact hi4_2), (by omega), hL4⟩ (Nat.lt_succ_self _) ⟨rfl, rfl, rfl, rfl, rfl, rfl, rfl, rfl, rfl, rfl, rfl, rfl, trivial⟩ (fun w hw => hw)
              · rw [bif_neg h164] at hL4
                have q165 := (of_decide_eq_false h164)
                refine TC.skip ?_
                refine TN.blockN ?_
                refine TN.seq ?_
                refine TC.region ?_
                refine TL.op (yq (y_add (ev_t rfl) ev_c (by unfold In64; constructor <;> omega))) rfl rfl rfl ?_
                refine TL.op (yq (y_move (ev_t rfl))) rfl rfl rfl ?_
                refine TL.nil ?_
                exact TN.hand (mf4, k14_4, (k72_4 + 1), m0_4) ⟨(by first | omega | (simp [-List.getD_eq_getElem?_getD] <;> omega)), (by first | exact hst.1 | exact hi4_1), (by first | exact hi4_2.up hst.2 | exact hi4_2), (by omega), hL4⟩ (Nat.lt_succ_self _) ⟨rfl, rfl, rfl, rfl, rfl, rfl, rfl, rfl, rfl, rfl, rfl, rfl, trivial⟩ (fun w hw => hw)
          · rw [bif_neg h153] at hL4
            have q154 := (of_decide_eq_false h153)
            refine TC.exit ?_
            refine TN.thenE ?_
            refine TN.thenE ?_
            rw [← hL4, elim_next] at hL3
            try dsimp only at hL3
            refine TN.blockH ?_
            refine TN.blockN ?_
            refine TN.seq ?_
            refine TC.region ?_
            refine TL.op (yq (y_add (ev_t rfl) ev_c (by unfold In64; constructor <;> omega))) rfl rfl rfl ?_
            refine TL.op (yq (y_move (ev_t rfl))) rfl rfl rfl ?_
            refine TL.nil ?_
            exact TN.hand (mf3, k14_4, (k62_3 + 1), m0_4) ⟨(by first | omega | (simp [-List.getD_eq_getElem?_getD] <;> omega)), hi4_1, hi4_2, (by omega), hL3⟩ (Nat.lt_succ_self _) ⟨rfl, rfl, rfl, rfl, rfl, rfl, rfl, trivial⟩ (fun w hw => hw)
        · rw [bif_neg h148] at hL3
          have q149 := (of_decide_eq_false h148)
          refine TC.exit ?_
          refine TN.thenE ?_
          refine TN.thenE ?_
          rw [← hL3, elim_next] at hL2
          try dsimp only at hL2
          refine TN.blockH ?_
          refine TN.blockN ?_
          have hmu2b := hi3_2.mu (lp_sum hS hi3_1)
          exact TN.hand (mf2, k14_3, m0_3) ⟨hi3_1, (by omega), hL2⟩ (Nat.lt_succ_self _) ⟨rfl, rfl, rfl, rfl, trivial⟩ (fun w hw => hw)
      · rw [bif_neg h144] at hL2
        have q145 := h144
        refine TC.exit ?_
        refine TN.thenE ?_
        refine TN.thenE ?_
        rw [← hL2, elim_next] at hF
        try dsimp only at hF
        refine TN.blockH ?_
        refine TN.seq ?_
        refine TC.seq ?_
        refine TC.region ?_
        refine TL.op (yq (y_move (ev_t rfl))) rfl rfl rfl ?_
        refine TL.op (yq (y_assign (ev_t rfl))) rfl rfl rfl ?_
        refine TL.op (yq (y_assign ev_c)) rfl rfl rfl ?_
        refine TL.nil ?_
        refine TN.seq ?_
        refine TC.ret ?_
        subst hF
        exact TN.ret2 rfl (ev_t rfl) (ev_t rfl) (fun w' hw => ⟨vk11_1, rfl, Hp.sublist hw (.cons_cons _ (.cons _ (.cons _ (.cons _ .slnil))))⟩)

set_option maxRecDepth 4000 in
set_option maxHeartbeats 1000000 in
theorem laws_FnExactLeastPrices_ok (w : World) (vm : Value) (um : List Value) (m : List (List Int)) (hm : RII w vm um m) (va : Value) (a : List Int) (ha : RI w va a) (vreqs : Value) (reqs : List Int) (hreqs : RI w vreqs reqs)  :
    Calls Try.prog 8 ([(.agg #[vm]), va, vreqs] : List Value).toArray w (Ret (.bool (F_laws_FnExactLeastPrices m a reqs)) (Hp w [])) := by
  obtain ⟨rz, hF⟩ : ∃ rz, (F_laws_FnExactLeastPrices m a reqs) = rz := ⟨_, rfl⟩
  rw [hF]
  unfold F_laws_FnExactLeastPrices at hF
  have hta := toIntS_eq a
  have htb := toIntS_eq reqs
  have hcl := leastPrices_len (F_laws_toMetric m) (F_laws_toIntS a) (F_laws_toIntS reqs)
  have hmk := markIntS_len (F_impl_LeastPrices (F_laws_toMetric m) (F_laws_toIntS a) (F_laws_toIntS reqs)).1 1
  have hk1 := markMetric_fst (F_laws_toMetric m) 1
  have hk2 := markIntS_fst (F_laws_toIntS a) (F_laws_markMetric (F_laws_toMetric m) 1).1
  have hk3 := markIntS_fst (F_laws_toIntS reqs) (F_laws_markIntS (F_laws_toIntS a) (F_laws_markMetric (F_laws_toMetric m) 1).1).1
  have hlen_m := argT_len hm
  have hlen_a := arg_len ha
  have hlen_reqs := arg_len hreqs
  refine calls_tc Try.func8 rfl rfl rfl ?_
  change TC _ _ _ _ (Hp w []) [(0, (.agg #[vm])), (1, va), (2, vreqs)]
  refine TC.seq ?_
  refine TC.region ?_
  refine TL.box (ev_t rfl) rfl (fun g0_0 => ?_)
  refine TL.op (yq (y_assign ev_c)) rfl rfl rfl ?_
  refine TL.nil ?_
  refine TN.seq ?_
  refine TC.seq ?_
  refine TC.seq ?_
  refine TC.region ?_
  refine TL.op (yq (y_move (ev_t rfl))) rfl rfl rfl ?_
  refine TL.op (yq (y_len (ev_t rfl) Try.underlying34 (fun w hw => ((ri_arg ha) w hw).ln))) rfl rfl rfl ?_
  refine TL.op (yq (y_gtr (ev_t rfl) ev_c)) rfl rfl rfl ?_
  refine TL.nil ?_
  refine TN.seq ?_
  refine TC.cond (b := decide (1048576 < (a.length : Int))) (ev_t rfl) (fun h27 => ?_) (fun h27 => ?_)
  · rw [bif_pos h27] at hF
    have q28 := (of_decide_eq_true h27)
    refine TC.seq ?_
    refine TC.region ?_
    refine TL.op (yq (y_assign ev_c)) rfl rfl rfl ?_
    refine TL.nil ?_
    refine TN.seq ?_
    refine TC.ret ?_
    refine TN.thenR ?_
    subst hF
    exact TN.ret1 rfl (ev_t rfl) (fun w' hw => ⟨rfl, Hp.sublist hw (List.nil_sublist _)⟩)
  · rw [bif_neg h27] at hF
    have q28 := (of_decide_eq_false h27)
    refine TC.skip ?_
    refine TN.seq ?_
    refine TC.seq ?_
    refine TC.seq ?_
    refine TC.region ?_
    refine TL.op (yq (y_move (ev_t rfl))) rfl rfl rfl ?_
    refine TL.op (yq (y_len (ev_t rfl) Try.underlying34 (fun w hw => ((ri_arg hreqs) w hw).ln))) rfl rfl rfl ?_
    refine TL.op (yq (y_gtr (ev_t rfl) ev_c)) rfl rfl rfl ?_
    refine TL.nil ?_
    refine TN.seq ?_
    refine TC.cond (b := decide (1048576 < (reqs.length : Int))) (ev_t rfl) (fun h29 => ?_) (fun h29 => ?_)
    · rw [bif_pos h29] at hF
      have q30 := (of_decide_eq_true h29)
      refine TC.seq ?_
      refine TC.region ?_
      refine TL.op (yq (y_assign ev_c)) rfl rfl rfl ?_
      refine TL.nil ?_
      refine TN.seq ?_
      refine TC.ret ?_
      refine TN.thenR ?_
      subst hF
      exact TN.ret1 rfl (ev_t rfl) (fun w' hw => ⟨rfl, Hp.sublist hw (List.nil_sublist _)⟩)
    · rw [bif_neg h29] at hF
      have q30 := (of_decide_eq_false h29)
      refine TC.skip ?_
      refine TN.seq ?_
      refine TC.seq ?_
      refine TC.region ?_
      refine TL.op (yq (y_assign ev_c)) rfl rfl rfl ?_
      refine TL.nil ?_
      refine TN.seq ?_
      refine TC.seq ?_
      refine TC.region ?_
      refine TL.op (yq (y_ldagg (cs := [vm]) 0 (ev_t rfl) agg_51 rfl)) rfl rfl rfl ?_
      refine TL.op (yq (y_move (ev_t rfl))) rfl rfl rfl ?_
      refine TL.op (y_call (vs := [(.agg #[vm]), (.int .i64 1048576)]) (v := (.int .i64 (F_laws_szMetric m 1048576))) en_36 ⟨(ev_t rfl), (ev_t rfl), trivial⟩ (fun w hw => laws_szMetric_ok w vm um m ((rii_arg hm) w hw) 1048576 (by first | assumption | omega | grind) (by first | assumption | omega | grind))) rfl rfl rfl ?_
      refine TL.op (yq (y_assign (ev_t rfl))) rfl rfl rfl ?_
      refine TL.nil ?_
      refine TN.seq ?_
      refine TC.seq ?_
      refine TC.seq ?_
      refine TC.region ?_
      refine TL.op (yq (y_move (ev_t rfl))) rfl rfl rfl ?_
      refine TL.op (yq (y_lss (ev_t rfl) ev_c)) rfl rfl rfl ?_
      refine TL.nil ?_
      refine TN.seq ?_
      refine TC.cond (b := decide ((F_laws_szMetric m 1048576) < 0)) (ev_t rfl) (fun h31 => ?_) (fun h31 => ?_)
      · rw [bif_pos h31] at hF
        have q32 := (of_decide_eq_true h31)
        refine TC.seq ?_
        refine TC.region ?_
        refine TL.op (yq (y_assign ev_c)) rfl rfl rfl ?_
        refine TL.nil ?_
        refine TN.seq ?_
        refine TC.ret ?_
        refine TN.thenR ?_
        subst hF
        exact TN.ret1 rfl (ev_t rfl) (fun w' hw => ⟨rfl, Hp.sublist hw (List.nil_sublist _)⟩)
      · rw [bif_neg h31] at hF
        have q32 := (of_decide_eq_false h31)
        have hsz := szMetric_t (m := m) (left := 1048576) (by omega)
        have hsz1 : ∀ i, (m.getD i []).length ≤ 1048576 := fun i => by have := hsz.2 i; omega
        have hsz2 : m.length + total m ≤ 1048576 := by have := hsz.1; omega
        have htm := toMetric_eq m
        refine TC.skip ?_
        refine TN.seq ?_
        refine TC.seq ?_
        refine TC.region ?_
        refine TL.op (yq (y_ldagg (cs := [vm]) 0 (ev_t rfl) agg_51 rfl)) rfl rfl rfl ?_
        refine TL.callr (ι := Value × List Value) (vs := [(.agg #[vm])]) (fun i => (.agg #[i.1])) (fun i => [tabI 34 3 i.1 i.2 (F_laws_toMetric m)]) en_38 ⟨(ev_t rfl), trivial⟩ rfl (fun w hw => laws_toMetric_ok w vm um m ((rii_arg hm) w hw) (by first | assumption | omega | grind) (by first | assumption | omega | grind)) (fun r9_1 => ?_)
        refine TL.op (yq (y_move (ev_t rfl))) rfl rfl rfl ?_
        refine TL.callr (ι := Value) (vs := [va]) (fun i => i) (fun i => [rowI 3 i (F_laws_toIntS a)]) en_51 ⟨(ev_t rfl), trivial⟩ rfl (fun w hw => laws_toIntS_ok w va a ((ri_arg ha) w hw) (by first | assumption | omega | grind)) (fun r9_3 => ?_)
        refine TL.op (yq (y_move (ev_t rfl))) rfl rfl rfl ?_
        refine TL.callr (ι := Value) (vs := [vreqs]) (fun i => i) (fun i => [rowI 3 i (F_laws_toIntS reqs)]) en_51 ⟨(ev_t rfl), trivial⟩ rfl (fun w hw => laws_toIntS_ok w vreqs reqs ((ri_arg hreqs) w hw) (by first | assumption | omega | grind)) (fun r9_5 => ?_)
        refine TL.callr (ι := Value) (vs := [(.agg #[r9_1.1]), r9_3, r9_5]) (fun i => (.tuple #[i, (.bool ((F_spec_LeastPrices (F_laws_toMetric m) (F_laws_toIntS a) (F_laws_toIntS reqs)).2))])) (fun i => [rowI 3 i ((F_spec_LeastPrices (F_laws_toMetric m) (F_laws_toIntS a) (F_laws_toIntS reqs)).1)]) en_54 ⟨(ev_t rfl), (ev_t rfl), (ev_t rfl), trivial⟩ rfl (fun w hw => spec_LeastPrices_ok w r9_1.1 r9_1.2 (F_laws_toMetric m) ((rii_tab 2 rfl) w hw) r9_3 (F_laws_toIntS a) ((ri_row 1 rfl) w hw) r9_5 (F_laws_toIntS reqs) ((ri_row 0 rfl) w hw)) (fun r9_6 => ?_)
        refine TL.op (yq (y_move (ev_t rfl))) rfl rfl rfl ?_
        refine TL.op (yq (y_extract (ev_t rfl) rfl)) rfl rfl rfl ?_
        refine TL.op (yq (y_extract (ev_t rfl) rfl)) rfl rfl rfl ?_
        refine TL.op (yq (y_assign (ev_t rfl))) rfl rfl rfl ?_
        refine TL.op (yq (y_assign (ev_t rfl))) rfl rfl rfl ?_
        refine TL.nil ?_
        refine TN.seq ?_
        refine TC.seq ?_
        refine TC.region ?_
        refine TL.op (yq (y_ldagg (cs := [vm]) 4 (ev_t rfl) agg_51 rfl)) rfl rfl rfl ?_
        refine TL.callr (ι := Value × List Value) (vs := [(.agg #[vm])]) (fun i => (.agg #[i.1])) (fun i => [tabI 34 3 i.1 i.2 (F_laws_toMetric m)]) en_38 ⟨(ev_t rfl), trivial⟩ rfl (fun w hw => laws_toMetric_ok w vm um m ((rii_arg hm) w hw) (by first | assumption | omega | grind) (by first | assumption | omega | grind)) (fun r10_1 => ?_)
        refine TL.alloc (u := (.agg #[(.slice none 0 0)])) (by kernel_rfl) rfl (fun g10_2 => ?_)
        refine TL.storeAgg (cs := [(.slice none 0 0)]) (us := [r10_1.1]) 0 (ev_t rfl) (ev_t rfl) agg_55 rfl rfl (fun w hw => (ocs_cons (ln_one ((fun w hw => ((rii_tab 1 rfl) w hw).1) w hw).ln) ocs_nil)) ?_
        refine TL.nil ?_
        refine TN.seq ?_
        refine TC.seq ?_
        refine TC.region ?_
        refine TL.op (yq (y_move (ev_t rfl))) rfl rfl rfl ?_
        refine TL.callr (ι := Value) (vs := [va]) (fun i => i) (fun i => [rowI 3 i (F_laws_toIntS a)]) en_51 ⟨(ev_t rfl), trivial⟩ rfl (fun w hw => laws_toIntS_ok w va a ((ri_arg ha) w hw) (by first | assumption | omega | grind)) (fun r11_1 => ?_)
        refine TL.op (yq (y_assign (ev_t rfl))) rfl rfl rfl ?_
        refine TL.nil ?_
        refine TN.seq ?_
        refine TC.seq ?_
        refine TC.region ?_
        refine TL.op (yq (y_move (ev_t rfl))) rfl rfl rfl ?_
        refine TL.callr (ι := Value) (vs := [vreqs]) (fun i => i) (fun i => [rowI 3 i (F_laws_toIntS reqs)]) en_51 ⟨(ev_t rfl), trivial⟩ rfl (fun w hw => laws_toIntS_ok w vreqs reqs ((ri_arg hreqs) w hw) (by first | assumption | omega | grind)) (fun r12_1 => ?_)
        refine TL.op (yq (y_assign (ev_t rfl))) rfl rfl rfl ?_
        refine TL.nil ?_
        refine TN.seq ?_
        refine TC.seq ?_
        refine TC.region ?_
        refine TL.op (yq (y_ldagg (cs := [r10_1.1]) 2 (ev_t rfl) agg_55 rfl)) rfl rfl rfl ?_
        refine TL.op (yq (y_move (ev_t rfl))) rfl rfl rfl ?_
        refine TL.op (yq (y_move (ev_t rfl))) rfl rfl rfl ?_
        refine TL.callr (ι := Value) (vs := [(.agg #[r10_1.1]), r11_1, r12_1]) (fun i => (.tuple #[i, (.bool ((F_impl_LeastPrices (F_laws_toMetric m) (F_laws_toIntS a) (F_laws_toIntS reqs)).2))])) (fun i => [rowI 3 i ((F_impl_LeastPrices (F_laws_toMetric m) (F_laws_toIntS a) (F_laws_toIntS reqs)).1)]) en_55 ⟨(ev_t rfl), (ev_t rfl), (ev_t rfl), trivial⟩ rfl (fun w hw => impl_LeastPrices_ok w r10_1.1 r10_1.2 (F_laws_toMetric m) ((rii_tab 3 rfl) w hw) r11_1 (F_laws_toIntS a) ((ri_row 1 rfl) w hw) r12_1 (F_laws_toIntS reqs) ((ri_row 0 rfl) w hw)) (fun r13_3 => ?_)
        refine TL.op (yq (y_move (ev_t rfl))) rfl rfl rfl ?_
        refine TL.op (yq (y_extract (ev_t rfl) rfl)) rfl rfl rfl ?_
        refine TL.op (yq (y_extract (ev_t rfl) rfl)) rfl rfl rfl ?_
        refine TL.op (yq (y_assign (ev_t rfl))) rfl rfl rfl ?_
        refine TL.op (yq (y_assign (ev_t rfl))) rfl rfl rfl ?_
        refine TL.nil ?_
        refine TN.seq ?_
        refine TC.seq ?_
        refine TC.seq ?_
        refine TC.region ?_
        refine TL.op (yq (y_move (ev_t rfl))) rfl rfl rfl ?_
        refine TL.op (yq (y_move (ev_t rfl))) rfl rfl rfl ?_
        refine TL.op (y_call (vs := [r13_3, r9_6]) (v := (.bool (F_laws_eqIntS ((F_impl_LeastPrices (F_laws_toMetric m) (F_laws_toIntS a) (F_laws_toIntS reqs)).1) ((F_spec_LeastPrices (F_laws_toMetric m) (F_laws_toIntS a) (F_laws_toIntS reqs)).1)))) en_53 ⟨(ev_t rfl), (ev_t rfl), trivial⟩ (fun w hw => laws_eqIntS_ok w r13_3 ((F_impl_LeastPrices (F_laws_toMetric m) (F_laws_toIntS a) (F_laws_toIntS reqs)).1) ((ri_row 0 rfl) w hw) r9_6 ((F_spec_LeastPrices (F_laws_toMetric m) (F_laws_toIntS a) (F_laws_toIntS reqs)).1) ((ri_row 5 rfl) w hw))) rfl rfl rfl ?_
        refine TL.op (yq (y_not (ev_t rfl))) rfl rfl rfl ?_
        refine TL.op (yq (y_move (ev_t rfl))) rfl rfl rfl ?_
        refine TL.opw (w_f rfl rfl rfl) (fun hg => yq (y_move (ev_t rfl))) rfl rfl ?_
        refine TL.opw (w_f rfl rfl rfl) (fun hg => yq (y_move (ev_t rfl))) rfl rfl ?_
        refine TL.opw (w_f rfl rfl rfl) (fun hg => yq (y_bneq (ev_g rfl hg) (ev_g rfl hg) Try.underlying4)) rfl rfl ?_
        refine TL.op (yq (y_or (ev_t rfl) (fun hq => (ev_g rfl hq)))) rfl rfl rfl ?_
        refine TL.nil ?_
        refine TN.seq ?_
        refine TC.cond (b := ((!(F_laws_eqIntS ((F_impl_LeastPrices (F_laws_toMetric m) (F_laws_toIntS a) (F_laws_toIntS reqs)).1) ((F_spec_LeastPrices (F_laws_toMetric m) (F_laws_toIntS a) (F_laws_toIntS reqs)).1))) || (((F_impl_LeastPrices (F_laws_toMetric m) (F_laws_toIntS a) (F_laws_toIntS reqs)).2) != ((F_spec_LeastPrices (F_laws_toMetric m) (F_laws_toIntS a) (F_laws_toIntS reqs)).2)))) (ev_t rfl) (fun h33 => ?_) (fun h33 => ?_)
        · rw [bif_pos h33] at hF
          have q34 := ((or_t h33).imp (fun h => (not_t h)) (fun h => h))
          refine TC.seq ?_
          refine TC.region ?_
          refine TL.op (yq (y_assign ev_c)) rfl rfl rfl ?_
          refine TL.nil ?_
          refine TN.seq ?_
          refine TC.ret ?_
          refine TN.thenR ?_
          subst hF
          exact TN.ret1 rfl (ev_t rfl) (fun w' hw => ⟨rfl, Hp.sublist hw (List.nil_sublist _)⟩)
        · rw [bif_neg h33] at hF
          have q34 := (and_imp (or_f h33) (fun h => (not_f h)) (fun h => h))
          refine TC.skip ?_
          refine TN.seq ?_
          refine TC.seq ?_
          refine TC.seq ?_
          refine TC.regionH 5 (Hp w [rowI 3 r13_3 ((F_impl_LeastPrices (F_laws_toMetric m) (F_laws_toIntS a) (F_laws_toIntS reqs)).1), rowI 3 r12_1 (F_laws_toIntS reqs), rowI 3 r11_1 (F_laws_toIntS a), .blk g10_2 55 [r10_1.1], tabI 34 3 r10_1.1 r10_1.2 (F_laws_toMetric m), rowI 3 r9_6 ((F_spec_LeastPrices (F_laws_toMetric m) (F_laws_toIntS a) (F_laws_toIntS reqs)).1), rowI 3 r9_5 (F_laws_toIntS reqs), rowI 3 r9_3 (F_laws_toIntS a), tabI 34 3 r9_1.1 r9_1.2 (F_laws_toMetric m), .blk g0_0 51 [vm]]) rfl (by kernel_rfl) dr_hp (fun w hw => hw) ?_
          refine TH.take 0 rfl (by kernel_rfl) (y_ldagg (cs := [r10_1.1]) 3 (ev_t rfl) agg_55 rfl) rfl rfl rfl ?_
          refine TH.take 1 rfl (by kernel_rfl) (y_ldagg (cs := [vm]) 9 (ev_t rfl) agg_51 rfl) rfl rfl rfl ?_
          refine TH.loud 2 rfl (by kernel_rfl) ?_
          refine TL.callr (ι := Value × List Value) (vs := [(.agg #[vm])]) (fun i => (.agg #[i.1])) (fun i => [tabI 34 3 i.1 i.2 (F_laws_toMetric m)]) en_38 ⟨(ev_t rfl), trivial⟩ rfl (fun w hw => laws_toMetric_ok w vm um m ((rii_arg hm) w hw) (by first | assumption | omega | grind) (by first | assumption | omega | grind)) (fun r16_2 => ?_)
          refine TL.nil ?_
          refine TH.back (fun w hw => Hp.sublist hw (.cons _ (.cons_cons _ (.cons_cons _ (.cons_cons _ (.cons_cons _ (.cons_cons _ (.cons_cons _ (.cons_cons _ (.cons_cons _ (.cons_cons _ (.cons_cons _ .slnil)))))))))))) ?_
          refine TH.loud 3 rfl (by kernel_rfl) ?_
          refine TL.op (y_call (vs := [(.agg #[r10_1.1]), (.agg #[r16_2.1])]) (v := (.bool (F_laws_eqMetric (F_laws_toMetric m) (F_laws_toMetric m)))) en_41 ⟨(ev_t rfl), (ev_t rfl), trivial⟩ (fun w hw => laws_eqMetric_ok w r10_1.1 r10_1.2 (F_laws_toMetric m) ((rii_tab 5 rfl) w hw) r16_2.1 r16_2.2 (F_laws_toMetric m) ((rii_tab 0 rfl) w hw))) rfl rfl rfl ?_
          refine TL.nil ?_
          refine TH.back (fun w hw => Hp.sublist hw (.cons _ (.cons_cons _ (.cons_cons _ (.cons_cons _ (.cons_cons _ (.cons_cons _ (.cons_cons _ (.cons_cons _ (.cons_cons _ (.cons_cons _ (.cons_cons _ .slnil)))))))))))) ?_
          refine TH.take 4 rfl (by kernel_rfl) (y_not (ev_t rfl)) rfl rfl rfl ?_
          refine TH.done (by kernel_rfl) ?_
          refine TN.seq ?_
          refine TC.cond (b := !(F_laws_eqMetric (F_laws_toMetric m) (F_laws_toMetric m))) (ev_t rfl) (fun h35 => ?_) (fun h35 => ?_)
          · rw [bif_pos h35] at hF
            have q36 := (not_t h35)
            refine TC.seq ?_
            refine TC.region ?_
            refine TL.op (yq (y_assign ev_c)) rfl rfl rfl ?_
            refine TL.nil ?_
            refine TN.seq ?_
            refine TC.ret ?_
            refine TN.thenR ?_
            subst hF
            exact TN.ret1 rfl (ev_t rfl) (fun w' hw => ⟨rfl, Hp.sublist hw (List.nil_sublist _)⟩)
          · rw [bif_neg h35] at hF
            have q36 := (not_f h35)
            refine TC.skip ?_
            refine TN.seq ?_
            refine TC.seq ?_
            refine TC.seq ?_
            refine TC.region ?_
            refine TL.op (yq (y_move (ev_t rfl))) rfl rfl rfl ?_
            refine TL.op (yq (y_move (ev_t rfl))) rfl rfl rfl ?_
            refine TL.callr (ι := Value) (vs := [va]) (fun i => i) (fun i => [rowI 3 i (F_laws_toIntS a)]) en_51 ⟨(ev_t rfl), trivial⟩ rfl (fun w hw => laws_toIntS_ok w va a ((ri_arg ha) w hw) (by first | assumption | omega | grind)) (fun r18_2 => ?_)
            refine TL.op (y_call (vs := [r11_1, r18_2]) (v := (.bool (F_laws_eqIntS (F_laws_toIntS a) (F_laws_toIntS a)))) en_53 ⟨(ev_t rfl), (ev_t rfl), trivial⟩ (fun w hw => laws_eqIntS_ok w r11_1 (F_laws_toIntS a) ((ri_row 4 rfl) w hw) r18_2 (F_laws_toIntS a) ((ri_row 0 rfl) w hw))) rfl rfl rfl ?_
            refine TL.op (yq (y_not (ev_t rfl))) rfl rfl rfl ?_
            refine TL.nil ?_
            refine TN.seq ?_
            refine TC.cond (b := !(F_laws_eqIntS (F_laws_toIntS a) (F_laws_toIntS a))) (ev_t rfl) (fun h37 => ?_) (fun h37 => ?_)
            · rw [bif_pos h37] at hF
              have q38 := (not_t h37)
              refine TC.seq ?_
              refine TC.region ?_
              refine TL.op (yq (y_assign ev_c)) rfl rfl rfl ?_
              refine TL.nil ?_
              refine TN.seq ?_
              refine TC.ret ?_
              refine TN.thenR ?_
              subst hF
              exact TN.ret1 rfl (ev_t rfl) (fun w' hw => ⟨rfl, Hp.sublist hw (List.nil_sublist _)⟩)
            · rw [bif_neg h37] at hF
              have q38 := (not_f h37)
              refine TC.skip ?_
              refine TN.seq ?_
              refine TC.seq ?_
              refine TC.seq ?_
              refine TC.region ?_
              refine TL.op (yq (y_move (ev_t rfl))) rfl rfl rfl ?_
              refine TL.op (yq (y_move (ev_t rfl))) rfl rfl rfl ?_
              refine TL.callr (ι := Value) (vs := [vreqs]) (fun i => i) (fun i => [rowI 3 i (F_laws_toIntS reqs)]) en_51 ⟨(ev_t rfl), trivial⟩ rfl (fun w hw => laws_toIntS_ok w vreqs reqs ((ri_arg hreqs) w hw) (by first | assumption | omega | grind)) (fun r20_2 => ?_)
              refine TL.op (y_call (vs := [r12_1, r20_2]) (v := (.bool (F_laws_eqIntS (F_laws_toIntS reqs) (F_laws_toIntS reqs)))) en_53 ⟨(ev_t rfl), (ev_t rfl), trivial⟩ (fun w hw => laws_eqIntS_ok w r12_1 (F_laws_toIntS reqs) ((ri_row 4 rfl) w hw) r20_2 (F_laws_toIntS reqs) ((ri_row 0 rfl) w hw))) rfl rfl rfl ?_
              refine TL.op (yq (y_not (ev_t rfl))) rfl rfl rfl ?_
              refine TL.nil ?_
              refine TN.seq ?_
              refine TC.cond (b := !(F_laws_eqIntS (F_laws_toIntS reqs) (F_laws_toIntS reqs))) (ev_t rfl) (fun h39 => ?_) (fun h39 => ?_)
              · rw [bif_pos h39] at hF
                have q40 := (not_t h39)
                refine TC.seq ?_
                refine TC.region ?_
                refine TL.op (yq (y_assign ev_c)) rfl rfl rfl ?_
                refine TL.nil ?_
                refine TN.seq ?_
                refine TC.ret ?_
                refine TN.thenR ?_
                subst hF
                exact TN.ret1 rfl (ev_t rfl) (fun w' hw => ⟨rfl, Hp.sublist hw (List.nil_sublist _)⟩)
              · rw [bif_neg h39] at hF
                have q40 := (not_f h39)
                refine TC.skip ?_
                refine TN.seq ?_
                refine TC.seq ?_
                refine TC.region ?_
                refine TL.op (yq (y_assign ev_c)) rfl rfl rfl ?_
                refine TL.nil ?_
                refine TN.seq ?_
                refine TC.seq ?_
                refine TC.region ?_
                refine TL.op (yq (y_ldagg (cs := [r10_1.1]) 6 (ev_t rfl) agg_55 rfl)) rfl rfl rfl ?_
                refine TL.op (yq (y_move (ev_t rfl))) rfl rfl rfl ?_
                refine TL.callm (ι := Unit) 7 (vs := [(.agg #[r10_1.1]), (.int .i64 1)]) (fun _ => (.int .i64 ((F_laws_markMetric (F_laws_toMetric m) 1).1))) (fun _ => tabI 34 3 r10_1.1 r10_1.2 ((F_laws_markMetric (F_laws_toMetric m) 1).2)) en_42 ⟨(ev_t rfl), (ev_t rfl), trivial⟩ rfl rfl (fun w1 fr1 hw => laws_markMetric_ok w w1 _ r10_1.1 r10_1.2 (F_laws_toMetric m) hw 1 (by first | assumption | omega | grind) (by first | assumption | omega | grind)) (fun _ => ?_)
                refine TL.op (yq (y_assign (ev_t rfl))) rfl rfl rfl ?_
                refine TL.nil ?_
                refine TN.seq ?_
                refine TC.seq ?_
                refine TC.region ?_
                refine TL.op (yq (y_move (ev_t rfl))) rfl rfl rfl ?_
                refine TL.op (yq (y_move (ev_t rfl))) rfl rfl rfl ?_
                refine TL.callm (ι := Unit) 5 (vs := [r11_1, (.int .i64 ((F_laws_markMetric (F_laws_toMetric m) 1).1))]) (fun _ => (.int .i64 ((F_laws_markIntS (F_laws_toIntS a) ((F_laws_markMetric (F_laws_toMetric m) 1).1)).1))) (fun _ => rowI 3 r11_1 ((F_laws_markIntS (F_laws_toIntS a) ((F_laws_markMetric (F_laws_toMetric m) 1).1)).2)) en_56 ⟨(ev_t rfl), (ev_t rfl), trivial⟩ rfl rfl (fun w1 fr1 hw => laws_markIntS_ok w w1 _ r11_1 (F_laws_toIntS a) hw ((F_laws_markMetric (F_laws_toMetric m) 1).1) (by first | assumption | omega | grind) (by first | assumption | omega | grind)) (fun _ => ?_)
                refine TL.op (yq (y_assign (ev_t rfl))) rfl rfl rfl ?_
                refine TL.nil ?_
                refine TN.seq ?_
                refine TC.seq ?_
                refine TC.region ?_
                refine TL.op (yq (y_move (ev_t rfl))) rfl rfl rfl ?_
                refine TL.op (yq (y_move (ev_t rfl))) rfl rfl rfl ?_
                refine TL.callm (ι := Unit) 4 (vs := [r12_1, (.int .i64 ((F_laws_markIntS (F_laws_toIntS a) ((F_laws_markMetric (F_laws_toMetric m) 1).1)).1))]) (fun _ => (.int .i64 ((F_laws_markIntS (F_laws_toIntS reqs) ((F_laws_markIntS (F_laws_toIntS a) ((F_laws_markMetric (F_laws_toMetric m) 1).1)).1)).1))) (fun _ => rowI 3 r12_1 ((F_laws_markIntS (F_laws_toIntS reqs) ((F_laws_markIntS (F_laws_toIntS a) ((F_laws_markMetric (F_laws_toMetric m) 1).1)).1)).2)) en_56 ⟨(ev_t rfl), (ev_t rfl), trivial⟩ rfl rfl (fun w1 fr1 hw => laws_markIntS_ok w w1 _ r12_1 (F_laws_toIntS reqs) hw ((F_laws_markIntS (F_laws_toIntS a) ((F_laws_markMetric (F_laws_toMetric m) 1).1)).1) (by first | assumption | omega | grind) (by first | assumption | omega | grind)) (fun _ => ?_)
                refine TL.op (yq (y_assign (ev_t rfl))) rfl rfl rfl ?_
                refine TL.nil ?_
                refine TN.seq ?_
                refine TC.seq ?_
                refine TC.seq ?_
                refine TC.region ?_
                refine TL.op (yq (y_move (ev_t rfl))) rfl rfl rfl ?_
                refine TL.op (yq (y_lss (ev_t rfl) ev_c)) rfl rfl rfl ?_
                refine TL.op (yq (y_move (ev_t rfl))) rfl rfl rfl ?_
                refine TL.opw (w_f rfl rfl rfl) (fun hg => yq (y_move (ev_t rfl))) rfl rfl ?_
                refine TL.opw (w_f rfl rfl rfl) (fun hg => yq (y_move (ev_t rfl))) rfl rfl ?_
                refine TL.opw (w_f rfl rfl rfl) (fun hg => y_call (vs := [r13_3, r9_6]) (v := (.bool (F_laws_eqIntS ((F_impl_LeastPrices (F_laws_toMetric m) (F_laws_toIntS a) (F_laws_toIntS reqs)).1) ((F_spec_LeastPrices (F_laws_toMetric m) (F_laws_toIntS a) (F_laws_toIntS reqs)).1)))) en_53 ⟨(ev_g rfl hg), (ev_g rfl hg), trivial⟩ (fun w hw => laws_eqIntS_ok w r13_3 ((F_impl_LeastPrices (F_laws_toMetric m) (F_laws_toIntS a) (F_laws_toIntS reqs)).1) ((ri_row 3 rfl) w hw) r9_6 ((F_spec_LeastPrices (F_laws_toMetric m) (F_laws_toIntS a) (F_laws_toIntS reqs)).1) ((ri_row 8 rfl) w hw))) rfl rfl ?_
                refine TL.opw (w_f rfl rfl rfl) (fun hg => yq (y_not (ev_g rfl hg))) rfl rfl ?_
                refine TL.op (yq (y_or (ev_t rfl) (fun hq => (ev_g rfl hq)))) rfl rfl rfl ?_
                refine TL.op (yq (y_move (ev_t rfl))) rfl rfl rfl ?_
                refine TL.opw (w_f rfl rfl rfl) (fun hg => yq (y_move (ev_t rfl))) rfl rfl ?_
                refine TL.opw (w_f rfl rfl rfl) (fun hg => yq (y_move (ev_t rfl))) rfl rfl ?_
                refine TL.opw (w_f rfl rfl rfl) (fun hg => yq (y_bneq (ev_g rfl hg) (ev_g rfl hg) Try.underlying4)) rfl rfl ?_
                refine TL.op (yq (y_or (ev_t rfl) (fun hq => (ev_g rfl hq)))) rfl rfl rfl ?_
                refine TL.nil ?_
                refine TN.seq ?_
                refine TC.cond (b := (((decide ((F_laws_markIntS (F_laws_toIntS reqs) ((F_laws_markIntS (F_laws_toIntS a) ((F_laws_markMetric (F_laws_toMetric m) 1).1)).1)).1 < 0)) || (!(F_laws_eqIntS ((F_impl_LeastPrices (F_laws_toMetric m) (F_laws_toIntS a) (F_laws_toIntS reqs)).1) ((F_spec_LeastPrices (F_laws_toMetric m) (F_laws_toIntS a) (F_laws_toIntS reqs)).1)))) || (((F_impl_LeastPrices (F_laws_toMetric m) (F_laws_toIntS a) (F_laws_toIntS reqs)).2) != ((F_spec_LeastPrices (F_laws_toMetric m) (F_laws_toIntS a) (F_laws_toIntS reqs)).2)))) (ev_t rfl) (fun h41 => ?_) (fun h41 => ?_)
                · rw [bif_pos h41] at hF
                  have q42 := ((or_t h41).imp (fun h => ((or_t h).imp (fun h => (of_decide_eq_true h)) (fun h => (not_t h)))) (fun h => h))
                  refine TC.seq ?_
                  refine TC.region ?_
                  refine TL.op (yq (y_assign ev_c)) rfl rfl rfl ?_
                  refine TL.nil ?_
                  refine TN.seq ?_
                  refine TC.ret ?_
                  refine TN.thenR ?_
                  subst hF
                  exact TN.ret1 rfl (ev_t rfl) (fun w' hw => ⟨rfl, Hp.sublist hw (List.nil_sublist _)⟩)
                · rw [bif_neg h41] at hF
                  have q42 := (and_imp (or_f h41) (fun h => (and_imp (or_f h) (fun h => (of_decide_eq_false h)) (fun h => (not_f h)))) (fun h => h))
                  refine TC.skip ?_
                  refine TN.seq ?_
                  refine TC.seq ?_
                  refine TC.region ?_
                  refine TL.op (yq (y_assign ev_c)) rfl rfl rfl ?_
                  refine TL.nil ?_
                  refine TN.seq ?_
                  refine TC.seq ?_
                  refine TC.region ?_
                  refine TL.op (yq (y_move (ev_t rfl))) rfl rfl rfl ?_
                  refine TL.op (yq (y_move (ev_t rfl))) rfl rfl rfl ?_
                  refine TL.callm (ι := Unit) 3 (vs := [r13_3, (.int .i64 1)]) (fun _ => (.int .i64 ((F_laws_markIntS ((F_impl_LeastPrices (F_laws_toMetric m) (F_laws_toIntS a) (F_laws_toIntS reqs)).1) 1).1))) (fun _ => rowI 3 r13_3 ((F_laws_markIntS ((F_impl_LeastPrices (F_laws_toMetric m) (F_laws_toIntS a) (F_laws_toIntS reqs)).1) 1).2)) en_56 ⟨(ev_t rfl), (ev_t rfl), trivial⟩ rfl rfl (fun w1 fr1 hw => laws_markIntS_ok w w1 _ r13_3 ((F_impl_LeastPrices (F_laws_toMetric m) (F_laws_toIntS a) (F_laws_toIntS reqs)).1) hw 1 (by first | assumption | omega | grind) (by first | assumption | omega | grind)) (fun _ => ?_)
                  refine TL.op (yq (y_assign (ev_t rfl))) rfl rfl rfl ?_
                  refine TL.nil ?_
                  refine TN.seq ?_
                  refine TC.seq ?_
                  refine TC.region ?_
                  refine TL.op (yq (y_assign ev_c)) rfl rfl rfl ?_
                  refine TL.nil ?_
                  refine TN.seq ?_
                  refine TC.seq ?_
                  refine TC.region ?_
                  refine TL.op (yq (y_move (ev_t rfl))) rfl rfl rfl ?_
                  refine TL.op (yq (y_move (ev_t rfl))) rfl rfl rfl ?_
                  refine TL.op (y_call (vs := [r13_3, (.int .i64 1)]) (v := (.int .i64 (F_laws_heldIntS ((F_laws_markIntS ((F_impl_LeastPrices (F_laws_toMetric m) (F_laws_toIntS a) (F_laws_toIntS reqs)).1) 1).2) 1))) en_57 ⟨(ev_t rfl), (ev_t rfl), trivial⟩ (fun w hw => laws_heldIntS_ok w r13_3 ((F_laws_markIntS ((F_impl_LeastPrices (F_laws_toMetric m) (F_laws_toIntS a) (F_laws_toIntS reqs)).1) 1).2) ((ri_row 3 rfl) w hw) 1 (by first | assumption | omega | grind) (by first | assumption | omega | grind))) rfl rfl rfl ?_
                  refine TL.op (yq (y_assign (ev_t rfl))) rfl rfl rfl ?_
                  refine TL.nil ?_
                  refine TN.seq ?_
                  refine TC.seq ?_
                  refine TC.seq ?_
                  refine TC.region ?_
                  refine TL.op (yq (y_move (ev_t rfl))) rfl rfl rfl ?_
                  refine TL.op (yq (y_lss (ev_t rfl) ev_c)) rfl rfl rfl ?_
                  refine TL.nil ?_
                  refine TN.seq ?_
                  refine TC.cond (b := decide ((F_laws_heldIntS ((F_laws_markIntS ((F_impl_LeastPrices (F_laws_toMetric m) (F_laws_toIntS a) (F_laws_toIntS reqs)).1) 1).2) 1) < 0)) (ev_t rfl) (fun h43 => ?_) (fun h43 => ?_)
                  · rw [bif_pos h43] at hF
                    have q44 := (of_decide_eq_true h43)
                    refine TC.seq ?_
                    refine TC.region ?_
                    refine TL.op (yq (y_assign ev_c)) rfl rfl rfl ?_
                    refine TL.nil ?_
                    refine TN.seq ?_
                    refine TC.ret ?_
                    refine TN.thenR ?_
                    subst hF
                    exact TN.ret1 rfl (ev_t rfl) (fun w' hw => ⟨rfl, Hp.sublist hw (List.nil_sublist _)⟩)
                  · rw [bif_neg h43] at hF
                    have q44 := (of_decide_eq_false h43)
                    refine TC.skip ?_
                    refine TN.seq ?_
                    refine TC.seq ?_
                    refine TC.seq ?_
                    refine TC.region ?_
                    refine TL.op (yq (y_move (ev_t rfl))) rfl rfl rfl ?_
                    refine TL.op (yq (y_move (ev_t rfl))) rfl rfl rfl ?_
                    refine TL.op (yq (y_neq (ev_t rfl) (ev_t rfl))) rfl rfl rfl ?_
                    refine TL.nil ?_
                    refine TN.seq ?_
                    refine TC.cond (b := !decide ((F_laws_heldIntS ((F_laws_markIntS ((F_impl_LeastPrices (F_laws_toMetric m) (F_laws_toIntS a) (F_laws_toIntS reqs)).1) 1).2) 1) = (F_laws_markIntS ((F_impl_LeastPrices (F_laws_toMetric m) (F_laws_toIntS a) (F_laws_toIntS reqs)).1) 1).1)) (ev_t rfl) (fun h45 => ?_) (fun h45 => ?_)
                    · rw [bif_pos h45] at hF
                      have q46 := (of_decide_eq_false (not_t h45))
                      refine TC.seq ?_
                      refine TC.region ?_
                      refine TL.op (yq (y_assign ev_c)) rfl rfl rfl ?_
                      refine TL.nil ?_
                      refine TN.seq ?_
                      refine TC.ret ?_
                      refine TN.thenR ?_
                      subst hF
                      exact TN.ret1 rfl (ev_t rfl) (fun w' hw => ⟨rfl, Hp.sublist hw (List.nil_sublist _)⟩)
                    · rw [bif_neg h45] at hF
                      have q46 := (of_decide_eq_true (not_f h45))
                      refine TC.skip ?_
                      refine TN.seq ?_
                      refine TC.seq ?_
                      refine TC.region ?_
                      refine TL.op (yq (y_ldagg (cs := [vm]) 12 (ev_t rfl) agg_51 rfl)) rfl rfl rfl ?_
                      refine TL.callr (ι := Value × List Value) (vs := [(.agg #[vm])]) (fun i => (.agg #[i.1])) (fun i => [tabI 34 3 i.1 i.2 (F_laws_toMetric m)]) en_38 ⟨(ev_t rfl), trivial⟩ rfl (fun w hw => laws_toMetric_ok w vm um m ((rii_arg hm) w hw) (by first | assumption | omega | grind) (by first | assumption | omega | grind)) (fun r36_1 => ?_)
                      refine TL.op (yq (y_move (ev_t rfl))) rfl rfl rfl ?_
                      refine TL.callr (ι := Value) (vs := [va]) (fun i => i) (fun i => [rowI 3 i (F_laws_toIntS a)]) en_51 ⟨(ev_t rfl), trivial⟩ rfl (fun w hw => laws_toIntS_ok w va a ((ri_arg ha) w hw) (by first | assumption | omega | grind)) (fun r36_3 => ?_)
                      refine TL.op (yq (y_move (ev_t rfl))) rfl rfl rfl ?_
                      refine TL.callr (ι := Value) (vs := [vreqs]) (fun i => i) (fun i => [rowI 3 i (F_laws_toIntS reqs)]) en_51 ⟨(ev_t rfl), trivial⟩ rfl (fun w hw => laws_toIntS_ok w vreqs reqs ((ri_arg hreqs) w hw) (by first | assumption | omega | grind)) (fun r36_5 => ?_)
                      refine TL.callr (ι := Value) (vs := [(.agg #[r36_1.1]), r36_3, r36_5]) (fun i => (.tuple #[i, (.bool ((F_impl_LeastPrices (F_laws_toMetric m) (F_laws_toIntS a) (F_laws_toIntS reqs)).2))])) (fun i => [rowI 3 i ((F_impl_LeastPrices (F_laws_toMetric m) (F_laws_toIntS a) (F_laws_toIntS reqs)).1)]) en_55 ⟨(ev_t rfl), (ev_t rfl), (ev_t rfl), trivial⟩ rfl (fun w hw => impl_LeastPrices_ok w r36_1.1 r36_1.2 (F_laws_toMetric m) ((rii_tab 2 rfl) w hw) r36_3 (F_laws_toIntS a) ((ri_row 1 rfl) w hw) r36_5 (F_laws_toIntS reqs) ((ri_row 0 rfl) w hw)) (fun r36_6 => ?_)
                      refine TL.op (yq (y_move (ev_t rfl))) rfl rfl rfl ?_
                      refine TL.op (yq (y_extract (ev_t rfl) rfl)) rfl rfl rfl ?_
                      refine TL.op (yq (y_extract (ev_t rfl) rfl)) rfl rfl rfl ?_
                      refine TL.op (yq (y_assign (ev_t rfl))) rfl rfl rfl ?_
                      refine TL.op (yq (y_assign (ev_t rfl))) rfl rfl rfl ?_
                      refine TL.nil ?_
                      refine TN.seq ?_
                      refine TC.seq ?_
                      refine TC.seq ?_
                      refine TC.region ?_
                      refine TL.op (yq (y_move (ev_t rfl))) rfl rfl rfl ?_
                      refine TL.op (yq (y_move (ev_t rfl))) rfl rfl rfl ?_
                      refine TL.op (y_call (vs := [r36_6, r9_6]) (v := (.bool (F_laws_eqIntS ((F_impl_LeastPrices (F_laws_toMetric m) (F_laws_toIntS a) (F_laws_toIntS reqs)).1) ((F_spec_LeastPrices (F_laws_toMetric m) (F_laws_toIntS a) (F_laws_toIntS reqs)).1)))) en_53 ⟨(ev_t rfl), (ev_t rfl), trivial⟩ (fun w hw => laws_eqIntS_ok w r36_6 ((F_impl_LeastPrices (F_laws_toMetric m) (F_laws_toIntS a) (F_laws_toIntS reqs)).1) ((ri_row 0 rfl) w hw) r9_6 ((F_spec_LeastPrices (F_laws_toMetric m) (F_laws_toIntS a) (F_laws_toIntS reqs)).1) ((ri_row 12 rfl) w hw))) rfl rfl rfl ?_
                      refine TL.op (yq (y_not (ev_t rfl))) rfl rfl rfl ?_
                      refine TL.op (yq (y_move (ev_t rfl))) rfl rfl rfl ?_
                      refine TL.opw (w_f rfl rfl rfl) (fun hg => yq (y_move (ev_t rfl))) rfl rfl ?_
                      refine TL.opw (w_f rfl rfl rfl) (fun hg => yq (y_move (ev_t rfl))) rfl rfl ?_
                      refine TL.opw (w_f rfl rfl rfl) (fun hg => yq (y_bneq (ev_g rfl hg) (ev_g rfl hg) Try.underlying4)) rfl rfl ?_
                      refine TL.op (yq (y_or (ev_t rfl) (fun hq => (ev_g rfl hq)))) rfl rfl rfl ?_
                      refine TL.nil ?_
                      refine TN.seq ?_
                      refine TC.condF (ev_t rfl) h33 ?_
                      refine TC.skip ?_
                      refine TN.seq ?_
                      refine TC.seq ?_
                      refine TC.region ?_
                      refine TL.op (yq (y_assign ev_c)) rfl rfl rfl ?_
                      refine TL.nil ?_
                      refine TN.seq ?_
                      refine TC.seq ?_
                      refine TC.region ?_
                      refine TL.op (yq (y_move (ev_t rfl))) rfl rfl rfl ?_
                      refine TL.op (yq (y_move (ev_t rfl))) rfl rfl rfl ?_
                      refine TL.op (y_call (vs := [r13_3, (.int .i64 1)]) (v := (.int .i64 (F_laws_heldIntS ((F_laws_markIntS ((F_impl_LeastPrices (F_laws_toMetric m) (F_laws_toIntS a) (F_laws_toIntS reqs)).1) 1).2) 1))) en_57 ⟨(ev_t rfl), (ev_t rfl), trivial⟩ (fun w hw => laws_heldIntS_ok w r13_3 ((F_laws_markIntS ((F_impl_LeastPrices (F_laws_toMetric m) (F_laws_toIntS a) (F_laws_toIntS reqs)).1) 1).2) ((ri_row 7 rfl) w hw) 1 (by first | assumption | omega | grind) (by first | assumption | omega | grind))) rfl rfl rfl ?_
                      refine TL.op (yq (y_assign (ev_t rfl))) rfl rfl rfl ?_
                      refine TL.nil ?_
                      refine TN.seq ?_
                      refine TC.seq ?_
                      refine TC.seq ?_
                      refine TC.region ?_
                      refine TL.op (yq (y_move (ev_t rfl))) rfl rfl rfl ?_
                      refine TL.op (yq (y_lss (ev_t rfl) ev_c)) rfl rfl rfl ?_
                      refine TL.nil ?_
                      refine TN.seq ?_
                      refine TC.condF (ev_t rfl) h43 ?_
                      refine TC.skip ?_
                      refine TN.seq ?_
                      refine TC.seq ?_
                      refine TC.seq ?_
                      refine TC.region ?_
                      refine TL.op (yq (y_move (ev_t rfl))) rfl rfl rfl ?_
                      refine TL.op (yq (y_move (ev_t rfl))) rfl rfl rfl ?_
                      refine TL.op (yq (y_neq (ev_t rfl) (ev_t rfl))) rfl rfl rfl ?_
                      refine TL.nil ?_
                      refine TN.seq ?_
                      refine TC.condF (ev_t rfl) h45 ?_
                      refine TC.skip ?_
                      refine TN.seq ?_
                      refine TC.seq ?_
                      refine TC.region ?_
                      refine TL.op (yq (y_assign ev_c)) rfl rfl rfl ?_
                      refine TL.nil ?_
                      refine TN.seq ?_
                      refine TC.ret ?_
                      subst hF
                      exact TN.ret1 rfl (ev_t rfl) (fun w' hw => ⟨rfl, Hp.sublist hw (List.nil_sublist _)⟩)


end Go.Proofs.Ytcmhgkcifejgcaa
