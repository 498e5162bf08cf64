/-
  Walks of functions of the program: each computes its plain function. No condition but the bounds that are typed.
-/
import Derived.Test.YtlhmmhlfledleaaQ2
namespace Go.Proofs.Ytlhmmhlfledleaa
open Go Go.RowKit
set_option linter.unusedVariables false

set_option maxRecDepth 4000 in
set_option maxHeartbeats 1000000 in
theorem spec_l5Run_ok (w : World) (k : Int) (vreqs : Value) (reqs : List Int) (hreqs : RI w vreqs reqs) (vplan : Value) (plan : List Int) (hplan : RI w vplan plan) (hp0 : plan.length = reqs.length) (hp1 : reqs.length ≤ 1000) :
    Calls Try.prog 46 ([(.int .i64 k), vreqs, vplan] : List Value).toArray w (fun e w' => ∃ i : Value × List Value, e = .returned (.tuple #[i.1, (.int .i64 ((F_spec_l5Run k reqs plan).2.1)), (.bool ((F_spec_l5Run k reqs plan).2.2))]) ∧ Hp w [tabI 22 3 i.1 i.2 ((F_spec_l5Run k reqs plan).1)] w') := by
  obtain ⟨rz, hF⟩ : ∃ rz, (F_spec_l5Run k reqs plan) = rz := ⟨_, rfl⟩
  rw [hF]
  unfold F_spec_l5Run at hF
  have hlen_reqs := arg_len hreqs
  have hlen_plan := arg_len hplan
  refine calls_tc Try.func46 rfl rfl rfl ?_
  change TC _ _ _ _ (Hp w []) [(0, (.int .i64 k)), (1, vreqs), (2, vplan)]
  refine TC.seq ?_
  refine TC.region ?_
  refine TL.op (yq (y_assign ev_c)) rfl rfl rfl ?_
  refine TL.op (yq (y_assign ev_c)) rfl rfl rfl ?_
  refine TL.op (yq (y_assign ev_c)) rfl rfl rfl ?_
  refine TL.nil ?_
  refine TN.seq ?_
  refine TC.seq ?_
  refine TC.region ?_
  refine TL.buildSlice (zs := []) (vs := []) slT_33 rfl trivial (by simp) rfl (by decide) rfl (fun v1_0 => ?_)
  refine TL.cls (fun w hw => hw.emptyTab 3) ?_
  refine TL.buildI (zs := []) (qs := []) slT_22 rfl trivial rfl (by decide) rfl (fun v1_1 => ?_)
  refine TL.op (yq (y_assign (ev_t rfl))) rfl rfl rfl ?_
  refine TL.op (yq (y_assign ev_c)) rfl rfl rfl ?_
  refine TL.op (yq (y_assign (ev_t rfl))) rfl rfl rfl ?_
  refine TL.nil ?_
  refine TN.seq ?_
  refine TC.seq ?_
  refine TC.seq ?_
  refine TC.region ?_
  refine TL.op (yq (y_assign ev_c)) rfl rfl rfl ?_
  refine TL.nil ?_
  refine TN.seq ?_
  refine TC.block ?_
  obtain ⟨c47, hc48⟩ : ∃ c, F_spec_l5Run_L1 k reqs plan ((reqs.length - 0) + 1) (([]), 0, ([] : List Int), 0) = c := ⟨_, rfl⟩
  rw [hc48] at hF
  refine TC.loop (ι := Nat × List (List Int) × Nat × List Int × Nat × Value × List Value × Value) (fun (fu1, k9_1, k10_1, k11_1, k12_1, vk9_1, uk9_1, vk11_1) => [(0, (.int .i64 k)), (1, vreqs), (2, vplan), (9, vk9_1), (10, (.int .i64 (k10_1 : Int))), (11, vk11_1), (12, (.int .i64 (k12_1 : Int)))]) (fun (fu1, k9_1, k10_1, k11_1, k12_1, vk9_1, uk9_1, vk11_1) => Hp w [rowI 3 vk11_1 k11_1, tabI 22 3 vk9_1 uk9_1 k9_1]) (fun (fu1, k9_1, k10_1, k11_1, k12_1, vk9_1, uk9_1, vk11_1) => (k12_1 ≤ reqs.length) ∧ (k11_1.length ≤ k12_1) ∧ (k9_1.length ≤ k12_1) ∧ (k10_1 ≤ k12_1) ∧ reqs.length - k12_1 < fu1 ∧ F_spec_l5Run_L1 k reqs plan fu1 (k9_1, k10_1, k11_1, k12_1) = c47) (fun (fu1, k9_1, k10_1, k11_1, k12_1, vk9_1, uk9_1, vk11_1) => fu1) ((reqs.length - 0) + 1, [], 0, ([] : List Int), 0, v1_0, [], v1_1) ⟨(by first | omega | (simp [-List.getD_eq_getElem?_getD] <;> omega)), (by first | omega | (simp [-List.getD_eq_getElem?_getD] <;> omega)), (by first | omega | (simp [-List.getD_eq_getElem?_getD] <;> omega)), (by first | omega | (simp [-List.getD_eq_getElem?_getD] <;> omega)), (by omega), hc48⟩ ⟨rfl, rfl, rfl, rfl, rfl, rfl, rfl, trivial⟩ (fun w hw => hw) ?_
  rintro ⟨fu1, k9_1, k10_1, k11_1, k12_1, vk9_1, uk9_1, vk11_1⟩ hJ1
  obtain ⟨hi1_0, hi1_1, hi1_2, hi1_3, hmu1, hL1⟩ : (k12_1 ≤ reqs.length) ∧ (k11_1.length ≤ k12_1) ∧ (k9_1.length ≤ k12_1) ∧ (k10_1 ≤ k12_1) ∧ reqs.length - k12_1 < fu1 ∧ F_spec_l5Run_L1 k reqs plan fu1 (k9_1, k10_1, k11_1, k12_1) = c47 := hJ1
  change TC _ _ _ _ (Hp w [rowI 3 vk11_1 k11_1, tabI 22 3 vk9_1 uk9_1 k9_1]) [(0, (.int .i64 k)), (1, vreqs), (2, vplan), (9, vk9_1), (10, (.int .i64 (k10_1 : Int))), (11, vk11_1), (12, (.int .i64 (k12_1 : Int)))]
  obtain ⟨mf1, rfl⟩ : ∃ m, fu1 = m + 1 := ⟨fu1 - 1, by omega⟩
  rw [F_spec_l5Run_L1_s] at hL1
  have hol := l5Out_len k11_1 (plan.getD k12_1 0)
  have hp1 := l1Put_len k11_1 (reqs.getD k12_1 0)
  have hp2 := l1Put_len (F_spec_l5Out k11_1 (plan.getD k12_1 0)) (reqs.getD k12_1 0)
  refine TC.seq ?_
  refine TC.seq ?_
  refine TC.region ?_
  refine TL.op (yq (y_move (ev_t rfl))) rfl rfl rfl ?_
  refine TL.op (yq (y_move (ev_t rfl))) rfl rfl rfl ?_
  refine TL.op (yq (y_len (ev_t rfl) Try.underlying22 (fun w hw => ((ri_arg hreqs) w hw).ln))) rfl rfl rfl ?_
  refine TL.op (yq (y_lss (ev_t rfl) (ev_t rfl))) rfl rfl rfl ?_
  refine TL.nil ?_
  refine TN.seq ?_
  refine TC.cond (b := decide ((k12_1 : Int) < (reqs.length : Int))) (ev_t rfl) (fun h49 => ?_) (fun h49 => ?_)
  · rw [bif_pos h49] at hL1
    have q50 := (of_decide_eq_true h49)
    refine TC.skip ?_
    refine TN.seq ?_
    refine TC.seq ?_
    refine TC.block ?_
    refine TC.seq ?_
    refine TC.region ?_
    refine TL.op (yq (y_move (ev_t rfl))) rfl rfl rfl ?_
    refine TL.op (yq (y_move (ev_t rfl))) rfl rfl rfl ?_
    refine TL.op (yq (y_move (ev_t rfl))) rfl rfl rfl ?_
    have hb51 : k12_1 < reqs.length := (by first | omega | (simp only [List.length_set, List.length_append, List.length_cons, List.length_nil, List.length_replicate]; omega) | (rw [sortI_length]; simp only [List.length_cons, List.length_nil]; omega))
    refine TL.op (yq (y_idx (k := k12_1) (ev_t rfl) (ev_t rfl) (by first | omega | simp) slT_22 (ri_arg hreqs) hb51)) rfl rfl rfl ?_
    refine TL.op (yq (y_ldi (ev_t rfl) one_3 (ri_arg hreqs) hb51)) rfl rfl rfl ?_
    refine TL.op (y_call (vs := [vk11_1, (.int .i64 (reqs.getD k12_1 0))]) (v := (.bool (F_spec_l1Has k11_1 (reqs.getD k12_1 0)))) en_70 ⟨(ev_t rfl), (ev_t rfl), trivial⟩ (fun w hw => spec_l1Has_ok w vk11_1 k11_1 ((ri_row 0 rfl) w hw) (reqs.getD k12_1 0))) rfl rfl rfl ?_
    refine TL.op (yq (y_assign (ev_t rfl))) rfl rfl rfl ?_
    refine TL.nil ?_
    refine TN.seq ?_
    refine TC.seq ?_
    refine TC.seq ?_
    refine TC.region ?_
    refine TL.op (yq (y_move (ev_t rfl))) rfl rfl rfl ?_
    refine TL.op (yq (y_move (ev_t rfl))) rfl rfl rfl ?_
    have hb52 : k12_1 < plan.length := (by first | omega | (simp only [List.length_set, List.length_append, List.length_cons, List.length_nil, List.length_replicate]; omega) | (rw [sortI_length]; simp only [List.length_cons, List.length_nil]; omega))
    refine TL.op (yq (y_idx (k := k12_1) (ev_t rfl) (ev_t rfl) (by first | omega | simp) slT_22 (ri_arg hplan) hb52)) rfl rfl rfl ?_
    refine TL.op (yq (y_ldi (ev_t rfl) one_3 (ri_arg hplan) hb52)) rfl rfl rfl ?_
    refine TL.op (yq (y_geq (ev_t rfl) ev_c)) rfl rfl rfl ?_
    refine TL.nil ?_
    refine TN.seq ?_
    refine TC.cond (b := decide (0 ≤ (plan.getD k12_1 0))) (ev_t rfl) (fun h53 => ?_) (fun h53 => ?_)
    · rw [bif_pos h53] at hL1
      have q54 := (of_decide_eq_true h53)
      refine TC.seq ?_
      refine TC.seq ?_
      refine TC.region ?_
      refine TL.op (yq (y_move (ev_t rfl))) rfl rfl rfl ?_
      refine TL.op (yq (y_move (ev_t rfl))) rfl rfl rfl ?_
      refine TL.opw (w_f rfl rfl rfl) (fun hg => yq (y_move (ev_t rfl))) rfl rfl ?_
      refine TL.opw (w_f rfl rfl rfl) (fun hg => yq (y_move (ev_t rfl))) rfl rfl ?_
      refine TL.opw (w_f rfl rfl rfl) (fun hg => yq (y_move (ev_t rfl))) rfl rfl ?_
      refine TL.opw (w_f rfl rfl rfl) (fun hg => yq (y_idx (k := k12_1) (ev_g rfl hg) (ev_g rfl hg) (by first | omega | simp) slT_22 (ri_arg hplan) (show k12_1 < plan.length by have hgf := (l1Has_f (not_t hg)); omega))) rfl rfl ?_
      refine TL.opw (w_f rfl rfl rfl) (fun hg => yq (y_ldi (ev_g rfl hg) one_3 (ri_arg hplan) (show k12_1 < plan.length by have hgf := (l1Has_f (not_t hg)); omega))) rfl rfl ?_
      refine TL.opw (w_f rfl rfl rfl) (fun hg => y_call (vs := [vk11_1, (.int .i64 (plan.getD k12_1 0))]) (v := (.bool (F_spec_l1Has k11_1 (plan.getD k12_1 0)))) en_70 ⟨(ev_g rfl hg), (ev_g rfl hg), trivial⟩ (fun w hw => spec_l1Has_ok w vk11_1 k11_1 ((ri_row 0 rfl) w hw) (plan.getD k12_1 0))) rfl rfl ?_
      refine TL.opw (w_f rfl rfl rfl) (fun hg => yq (y_not (ev_g rfl hg))) rfl rfl ?_
      refine TL.op (yq (y_or (ev_t rfl) (fun hq => (ev_g rfl hq)))) rfl rfl rfl ?_
      refine TL.nil ?_
      refine TN.seq ?_
      refine TC.cond (b := ((F_spec_l1Has k11_1 (reqs.getD k12_1 0)) || (!(F_spec_l1Has k11_1 (plan.getD k12_1 0))))) (ev_t rfl) (fun h55 => ?_) (fun h55 => ?_)
      · rw [bif_pos h55] at hL1
        have q56 := ((or_t h55).imp (fun h => h) (fun h => (l1Has_f (not_t h))))
        refine TC.seq ?_
        refine TC.region ?_
        refine TL.buildSlice (zs := []) (vs := []) slT_33 rfl trivial (by simp) rfl (by decide) rfl (fun v8_0 => ?_)
        refine TL.cls (fun w hw => hw.emptyTab 3) ?_
        refine TL.op (yq (y_assign (ev_t rfl))) rfl rfl rfl ?_
        refine TL.op (yq (y_assign ev_c)) rfl rfl rfl ?_
        refine TL.op (yq (y_assign ev_c)) rfl rfl rfl ?_
        refine TL.nil ?_
        refine TN.seq ?_
        refine TC.ret ?_
        refine TN.thenR ?_
        refine TN.thenR ?_
        refine TN.blockR ?_
        refine TN.thenR ?_
        refine TN.thenR ?_
        rw [← hL1, elim_ret] at hF
        refine TN.blockR ?_
        refine TN.thenR ?_
        subst hF
        exact TN.ret3 rfl (ev_t rfl) (ev_t rfl) (ev_t rfl) (fun w' hw => ⟨(v8_0, []), rfl, Hp.sublist hw (.cons_cons _ (.cons _ (.cons _ .slnil)))⟩)
      · rw [bif_neg h55] at hL1
        have q56 := (and_imp (or_f h55) (fun h => (l1Has_f h)) (fun h => (not_f h)))
        refine TC.skip ?_
        refine TN.seq ?_
        refine TC.region ?_
        refine TL.op (yq (y_move (ev_t rfl))) rfl rfl rfl ?_
        refine TL.op (yq (y_move (ev_t rfl))) rfl rfl rfl ?_
        refine TL.op (yq (y_move (ev_t rfl))) rfl rfl rfl ?_
        have hb57 : k12_1 < plan.length := (by first | omega | (simp only [List.length_set, List.length_append, List.length_cons, List.length_nil, List.length_replicate]; omega) | (rw [sortI_length]; simp only [List.length_cons, List.length_nil]; omega))
        refine TL.op (yq (y_idx (k := k12_1) (ev_t rfl) (ev_t rfl) (by first | omega | simp) slT_22 (ri_arg hplan) hb57)) rfl rfl rfl ?_
        refine TL.op (yq (y_ldi (ev_t rfl) one_3 (ri_arg hplan) hb57)) rfl rfl rfl ?_
        refine TL.callr (ι := Value) (vs := [vk11_1, (.int .i64 (plan.getD k12_1 0))]) (fun i => i) (fun i => [rowI 3 i (F_spec_l5Out k11_1 (plan.getD k12_1 0))]) en_84 ⟨(ev_t rfl), (ev_t rfl), trivial⟩ rfl (fun w hw => spec_l5Out_ok w vk11_1 k11_1 ((ri_row 0 rfl) w hw) (plan.getD k12_1 0) (by first | assumption | omega | grind)) (fun r9_5 => ?_)
        refine TL.op (yq (y_assign (ev_t rfl))) rfl rfl rfl ?_
        refine TL.nil ?_
        refine TN.seq ?_
        refine TC.seq ?_
        refine TC.seq ?_
        refine TC.region ?_
        refine TL.op (yq (y_move (ev_t rfl))) rfl rfl rfl ?_
        refine TL.op (yq (y_not (ev_t rfl))) rfl rfl rfl ?_
        refine TL.nil ?_
        refine TN.seq ?_
        refine TC.cond (b := !(F_spec_l1Has k11_1 (reqs.getD k12_1 0))) (ev_t rfl) (fun h58 => ?_) (fun h58 => ?_)
        · rw [bif_pos h58] at hL1
          have q59 := (l1Has_f (not_t h58))
          refine TC.seq ?_
          refine TC.region ?_
          refine TL.op (yq (y_move (ev_t rfl))) rfl rfl rfl ?_
          refine TL.op (yq (y_move (ev_t rfl))) rfl rfl rfl ?_
          refine TL.op (yq (y_move (ev_t rfl))) rfl rfl rfl ?_
          have hb60 : k12_1 < reqs.length := (by first | omega | (simp only [List.length_set, List.length_append, List.length_cons, List.length_nil, List.length_replicate]; omega) | (rw [sortI_length]; simp only [List.length_cons, List.length_nil]; omega))
          refine TL.op (yq (y_idx (k := k12_1) (ev_t rfl) (ev_t rfl) (by first | omega | simp) slT_22 (ri_arg hreqs) hb60)) rfl rfl rfl ?_
          refine TL.op (yq (y_ldi (ev_t rfl) one_3 (ri_arg hreqs) hb60)) rfl rfl rfl ?_
          refine TL.callmR (ι := Value) 0 (vs := [r9_5, (.int .i64 (reqs.getD k12_1 0))]) (fun i => i) (fun i => rowI 3 i (F_spec_l1Put (F_spec_l5Out k11_1 (plan.getD k12_1 0)) (reqs.getD k12_1 0))) en_85 ⟨(ev_t rfl), (ev_t rfl), trivial⟩ rfl rfl (fun w1 _ hw => spec_l1Put_ok w w1 _ r9_5 (F_spec_l5Out k11_1 (plan.getD k12_1 0)) hw (reqs.getD k12_1 0) (by first | assumption | omega | grind)) (fun r11_5 => ?_)
          refine TL.op (yq (y_assign (ev_t rfl))) rfl rfl rfl ?_
          refine TL.nil ?_
          refine TN.seq ?_
          refine TC.region ?_
          refine TL.op (yq (y_move (ev_t rfl))) rfl rfl rfl ?_
          refine TL.op (yq (y_add (ev_t rfl) ev_c (by unfold In64; omega))) rfl rfl rfl ?_
          refine TL.op (yq (y_assign (ev_t rfl))) rfl rfl rfl ?_
          refine TL.nil ?_
          refine TN.seq ?_
          refine TC.seq ?_
          refine TC.seq ?_
          refine TC.region ?_
          refine TL.op (yq (y_move (ev_t rfl))) rfl rfl rfl ?_
          refine TL.op (yq (y_len (ev_t rfl) Try.underlying22 (fun w hw => ((ri_row 0 rfl) w hw).ln))) rfl rfl rfl ?_
          refine TL.op (yq (y_move (ev_t rfl))) rfl rfl rfl ?_
          refine TL.op (yq (y_gtr (ev_t rfl) (ev_t rfl))) rfl rfl rfl ?_
          refine TL.nil ?_
          refine TN.seq ?_
          refine TC.cond (b := decide (k < ((F_spec_l1Put (F_spec_l5Out k11_1 (plan.getD k12_1 0)) (reqs.getD k12_1 0)).length : Int))) (ev_t rfl) (fun h61 => ?_) (fun h61 => ?_)
          · rw [bif_pos h61] at hL1
            have q62 := (of_decide_eq_true h61)
            refine TC.seq ?_
            refine TC.region ?_
            refine TL.buildSlice (zs := []) (vs := []) slT_33 rfl trivial (by simp) rfl (by decide) rfl (fun v14_0 => ?_)
            refine TL.cls (fun w hw => hw.emptyTab 3) ?_
            refine TL.op (yq (y_assign (ev_t rfl))) rfl rfl rfl ?_
            refine TL.op (yq (y_assign ev_c)) rfl rfl rfl ?_
            refine TL.op (yq (y_assign ev_c)) rfl rfl rfl ?_
            refine TL.nil ?_
            refine TN.seq ?_
            refine TC.ret ?_
            refine TN.thenR ?_
            refine TN.blockR ?_
            refine TN.thenR ?_
            refine TN.thenR ?_
            rw [← hL1, elim_ret] at hF
            refine TN.blockR ?_
            refine TN.thenR ?_
            subst hF
            exact TN.ret3 rfl (ev_t rfl) (ev_t rfl) (ev_t rfl) (fun w' hw => ⟨(v14_0, []), rfl, Hp.sublist hw (.cons_cons _ (.cons _ (.cons _ (.cons _ .slnil))))⟩)
          · rw [bif_neg h61] at hL1
            have q62 := (of_decide_eq_false h61)
            refine TC.skip ?_
            refine TN.seq ?_
            refine TC.region ?_
            refine TL.op (yq (y_move (ev_t rfl))) rfl rfl rfl ?_
            refine TL.op (yq (y_move (ev_t rfl))) rfl rfl rfl ?_
            refine TL.callr (ι := Value) (vs := [r11_5]) (fun i => i) (fun i => [rowI 3 i (F_spec_l1Put (F_spec_l5Out k11_1 (plan.getD k12_1 0)) (reqs.getD k12_1 0))]) en_73 ⟨(ev_t rfl), trivial⟩ rfl (fun w hw => spec_l1Own_ok w r11_5 (F_spec_l1Put (F_spec_l5Out k11_1 (plan.getD k12_1 0)) (reqs.getD k12_1 0)) ((ri_row 0 rfl) w hw) (by first | assumption | omega | grind)) (fun r15_2 => ?_)
            refine TL.buildU slT_33 (ev_t rfl) (fun w hw => ((ri_row 0 rfl) w hw).ln) rfl (fun v15_3 => ?_)
            refine TL.appendT 4 1 rfl (ev_t rfl) (ev_t rfl) rfl rfl slT_33 (rd_row 0 rfl) (by first | omega | (simp [-List.getD_eq_getElem?_getD] <;> omega)) rfl (fun v15_4 => ?_)
            refine TL.op (yq (y_assign (ev_t rfl))) rfl rfl rfl ?_
            refine TL.nil ?_
            refine TN.blockN ?_
            refine TN.seq ?_
            refine TC.region ?_
            refine TL.op (yq (y_move (ev_t rfl))) rfl rfl rfl ?_
            refine TL.op (yq (y_add (ev_t rfl) ev_c (by unfold In64; omega))) rfl rfl rfl ?_
            refine TL.op (yq (y_assign (ev_t rfl))) rfl rfl rfl ?_
            refine TL.nil ?_
            exact TN.hand (mf1, (k9_1 ++ [(F_spec_l1Put (F_spec_l5Out k11_1 (plan.getD k12_1 0)) (reqs.getD k12_1 0))]), (k10_1 + 1), (F_spec_l1Put (F_spec_l5Out k11_1 (plan.getD k12_1 0)) (reqs.getD k12_1 0)), (k12_1 + 1), v15_4, (uk9_1 ++ [r15_2]), r11_5) ⟨(by first | omega | (simp [-List.getD_eq_getElem?_getD] <;> omega)), (by first | omega | (simp [-List.getD_eq_getElem?_getD] <;> omega)), (by first | omega | (simp [-List.getD_eq_getElem?_getD] <;> omega)), (by first | omega | (simp [-List.getD_eq_getElem?_getD] <;> omega)), (by omega), hL1⟩ (Nat.lt_succ_self _) ⟨rfl, rfl, rfl, rfl, rfl, rfl, rfl, trivial⟩ (fun w hw => Hp.sublist hw (.cons _ (.cons _ (.cons_cons _ (.cons _ (.cons_cons _ .slnil))))))
        · rw [bif_neg h58] at hL1
          have q59 := (not_f h58)
          refine TC.skip ?_
          refine TN.seq ?_
          refine TC.seq ?_
          refine TC.seq ?_
          refine TC.region ?_
          refine TL.op (yq (y_move (ev_t rfl))) rfl rfl rfl ?_
          refine TL.op (yq (y_len (ev_t rfl) Try.underlying22 (fun w hw => ((ri_row 0 rfl) w hw).ln))) rfl rfl rfl ?_
          refine TL.op (yq (y_move (ev_t rfl))) rfl rfl rfl ?_
          refine TL.op (yq (y_gtr (ev_t rfl) (ev_t rfl))) rfl rfl rfl ?_
          refine TL.nil ?_
          refine TN.seq ?_
          refine TC.cond (b := decide (k < ((F_spec_l5Out k11_1 (plan.getD k12_1 0)).length : Int))) (ev_t rfl) (fun h63 => ?_) (fun h63 => ?_)
          · rw [bif_pos h63] at hL1
            have q64 := (of_decide_eq_true h63)
            refine TC.seq ?_
            refine TC.region ?_
            refine TL.buildSlice (zs := []) (vs := []) slT_33 rfl trivial (by simp) rfl (by decide) rfl (fun v14_0 => ?_)
            refine TL.cls (fun w hw => hw.emptyTab 3) ?_
            refine TL.op (yq (y_assign (ev_t rfl))) rfl rfl rfl ?_
            refine TL.op (yq (y_assign ev_c)) rfl rfl rfl ?_
            refine TL.op (yq (y_assign ev_c)) rfl rfl rfl ?_
            refine TL.nil ?_
            refine TN.seq ?_
            refine TC.ret ?_
            refine TN.thenR ?_
            refine TN.blockR ?_
            refine TN.thenR ?_
            refine TN.thenR ?_
            rw [← hL1, elim_ret] at hF
            refine TN.blockR ?_
            refine TN.thenR ?_
            subst hF
            exact TN.ret3 rfl (ev_t rfl) (ev_t rfl) (ev_t rfl) (fun w' hw => ⟨(v14_0, []), rfl, Hp.sublist hw (.cons_cons _ (.cons _ (.cons _ (.cons _ .slnil))))⟩)
          · rw [bif_neg h63] at hL1
            have q64 := (of_decide_eq_false h63)
            refine TC.skip ?_
            refine TN.seq ?_
            refine TC.region ?_
            refine TL.op (yq (y_move (ev_t rfl))) rfl rfl rfl ?_
            refine TL.op (yq (y_move (ev_t rfl))) rfl rfl rfl ?_
            refine TL.callr (ι := Value) (vs := [r9_5]) (fun i => i) (fun i => [rowI 3 i (F_spec_l5Out k11_1 (plan.getD k12_1 0))]) en_73 ⟨(ev_t rfl), trivial⟩ rfl (fun w hw => spec_l1Own_ok w r9_5 (F_spec_l5Out k11_1 (plan.getD k12_1 0)) ((ri_row 0 rfl) w hw) (by first | assumption | omega | grind)) (fun r15_2 => ?_)
            refine TL.buildU slT_33 (ev_t rfl) (fun w hw => ((ri_row 0 rfl) w hw).ln) rfl (fun v15_3 => ?_)
            refine TL.appendT 4 1 rfl (ev_t rfl) (ev_t rfl) rfl rfl slT_33 (rd_row 0 rfl) (by first | omega | (simp [-List.getD_eq_getElem?_getD] <;> omega)) rfl (fun v15_4 => ?_)
            refine TL.op (yq (y_assign (ev_t rfl))) rfl rfl rfl ?_
            refine TL.nil ?_
            refine TN.blockN ?_
            refine TN.seq ?_
            refine TC.region ?_
            refine TL.op (yq (y_move (ev_t rfl))) rfl rfl rfl ?_
            refine TL.op (yq (y_add (ev_t rfl) ev_c (by unfold In64; omega))) rfl rfl rfl ?_
            refine TL.op (yq (y_assign (ev_t rfl))) rfl rfl rfl ?_
            refine TL.nil ?_
            exact TN.hand (mf1, (k9_1 ++ [(F_spec_l5Out k11_1 (plan.getD k12_1 0))]), k10_1, (F_spec_l5Out k11_1 (plan.getD k12_1 0)), (k12_1 + 1), v15_4, (uk9_1 ++ [r15_2]), r9_5) ⟨(by first | omega | (simp [-List.getD_eq_getElem?_getD] <;> omega)), (by first | omega | (simp [-List.getD_eq_getElem?_getD] <;> omega)), (by first | omega | (simp [-List.getD_eq_getElem?_getD] <;> omega)), (by first | omega | (simp [-List.getD_eq_getElem?_getD] <;> omega)), (by omega), hL1⟩ (Nat.lt_succ_self _) ⟨rfl, rfl, rfl, rfl, rfl, rfl, rfl, trivial⟩ (fun w hw => Hp.sublist hw (.cons _ (.cons _ (.cons_cons _ (.cons _ (.cons_cons _ .slnil))))))
    · rw [bif_neg h53] at hL1
      have q54 := (of_decide_eq_false h53)
      refine TC.skip ?_
      refine TN.seq ?_
      refine TC.seq ?_
      refine TC.seq ?_
      refine TC.region ?_
      refine TL.op (yq (y_move (ev_t rfl))) rfl rfl rfl ?_
      refine TL.op (yq (y_not (ev_t rfl))) rfl rfl rfl ?_
      refine TL.nil ?_
      refine TN.seq ?_
      refine TC.cond (b := !(F_spec_l1Has k11_1 (reqs.getD k12_1 0))) (ev_t rfl) (fun h65 => ?_) (fun h65 => ?_)
      · rw [bif_pos h65] at hL1
        have q66 := (l1Has_f (not_t h65))
        refine TC.seq ?_
        refine TC.region ?_
        refine TL.op (yq (y_move (ev_t rfl))) rfl rfl rfl ?_
        refine TL.op (yq (y_move (ev_t rfl))) rfl rfl rfl ?_
        refine TL.op (yq (y_move (ev_t rfl))) rfl rfl rfl ?_
        have hb67 : k12_1 < reqs.length := (by first | omega | (simp only [List.length_set, List.length_append, List.length_cons, List.length_nil, List.length_replicate]; omega) | (rw [sortI_length]; simp only [List.length_cons, List.length_nil]; omega))
        refine TL.op (yq (y_idx (k := k12_1) (ev_t rfl) (ev_t rfl) (by first | omega | simp) slT_22 (ri_arg hreqs) hb67)) rfl rfl rfl ?_
        refine TL.op (yq (y_ldi (ev_t rfl) one_3 (ri_arg hreqs) hb67)) rfl rfl rfl ?_
        refine TL.callmR (ι := Value) 0 (vs := [vk11_1, (.int .i64 (reqs.getD k12_1 0))]) (fun i => i) (fun i => rowI 3 i (F_spec_l1Put k11_1 (reqs.getD k12_1 0))) en_85 ⟨(ev_t rfl), (ev_t rfl), trivial⟩ rfl rfl (fun w1 _ hw => spec_l1Put_ok w w1 _ vk11_1 k11_1 hw (reqs.getD k12_1 0) (by first | assumption | omega | grind)) (fun r11_5 => ?_)
        refine TL.op (yq (y_assign (ev_t rfl))) rfl rfl rfl ?_
        refine TL.nil ?_
        refine TN.seq ?_
        refine TC.region ?_
        refine TL.op (yq (y_move (ev_t rfl))) rfl rfl rfl ?_
        refine TL.op (yq (y_add (ev_t rfl) ev_c (by unfold In64; omega))) rfl rfl rfl ?_
        refine TL.op (yq (y_assign (ev_t rfl))) rfl rfl rfl ?_
        refine TL.nil ?_
        refine TN.seq ?_
        refine TC.seq ?_
        refine TC.seq ?_
        refine TC.region ?_
        refine TL.op (yq (y_move (ev_t rfl))) rfl rfl rfl ?_
        refine TL.op (yq (y_len (ev_t rfl) Try.underlying22 (fun w hw => ((ri_row 0 rfl) w hw).ln))) rfl rfl rfl ?_
        refine TL.op (yq (y_move (ev_t rfl))) rfl rfl rfl ?_
        refine TL.op (yq (y_gtr (ev_t rfl) (ev_t rfl))) rfl rfl rfl ?_
        refine TL.nil ?_
        refine TN.seq ?_
        refine TC.cond (b := decide (k < ((F_spec_l1Put k11_1 (reqs.getD k12_1 0)).length : Int))) (ev_t rfl) (fun h68 => ?_) (fun h68 => ?_)
        · rw [bif_pos h68] at hL1
          have q69 := (of_decide_eq_true h68)
          refine TC.seq ?_
          refine TC.region ?_
          refine TL.buildSlice (zs := []) (vs := []) slT_33 rfl trivial (by simp) rfl (by decide) rfl (fun v14_0 => ?_)
          refine TL.cls (fun w hw => hw.emptyTab 3) ?_
          refine TL.op (yq (y_assign (ev_t rfl))) rfl rfl rfl ?_
          refine TL.op (yq (y_assign ev_c)) rfl rfl rfl ?_
          refine TL.op (yq (y_assign ev_c)) rfl rfl rfl ?_
          refine TL.nil ?_
          refine TN.seq ?_
          refine TC.ret ?_
          refine TN.thenR ?_
          refine TN.blockR ?_
          refine TN.thenR ?_
          refine TN.thenR ?_
          rw [← hL1, elim_ret] at hF
          refine TN.blockR ?_
          refine TN.thenR ?_
          subst hF
          exact TN.ret3 rfl (ev_t rfl) (ev_t rfl) (ev_t rfl) (fun w' hw => ⟨(v14_0, []), rfl, Hp.sublist hw (.cons_cons _ (.cons _ (.cons _ .slnil)))⟩)
        · rw [bif_neg h68] at hL1
          have q69 := (of_decide_eq_false h68)
          refine TC.skip ?_
          refine TN.seq ?_
          refine TC.region ?_
          refine TL.op (yq (y_move (ev_t rfl))) rfl rfl rfl ?_
          refine TL.op (yq (y_move (ev_t rfl))) rfl rfl rfl ?_
          refine TL.callr (ι := Value) (vs := [r11_5]) (fun i => i) (fun i => [rowI 3 i (F_spec_l1Put k11_1 (reqs.getD k12_1 0))]) en_73 ⟨(ev_t rfl), trivial⟩ rfl (fun w hw => spec_l1Own_ok w r11_5 (F_spec_l1Put k11_1 (reqs.getD k12_1 0)) ((ri_row 0 rfl) w hw) (by first | assumption | omega | grind)) (fun r15_2 => ?_)
          refine TL.buildU slT_33 (ev_t rfl) (fun w hw => ((ri_row 0 rfl) w hw).ln) rfl (fun v15_3 => ?_)
          refine TL.appendT 3 1 rfl (ev_t rfl) (ev_t rfl) rfl rfl slT_33 (rd_row 0 rfl) (by first | omega | (simp [-List.getD_eq_getElem?_getD] <;> omega)) rfl (fun v15_4 => ?_)
          refine TL.op (yq (y_assign (ev_t rfl))) rfl rfl rfl ?_
          refine TL.nil ?_
          refine TN.blockN ?_
          refine TN.seq ?_
          refine TC.region ?_
          refine TL.op (yq (y_move (ev_t rfl))) rfl rfl rfl ?_
          refine TL.op (yq (y_add (ev_t rfl) ev_c (by unfold In64; omega))) rfl rfl rfl ?_
          refine TL.op (yq (y_assign (ev_t rfl))) rfl rfl rfl ?_
          refine TL.nil ?_
          exact TN.hand (mf1, (k9_1 ++ [(F_spec_l1Put k11_1 (reqs.getD k12_1 0))]), (k10_1 + 1), (F_spec_l1Put k11_1 (reqs.getD k12_1 0)), (k12_1 + 1), v15_4, (uk9_1 ++ [r15_2]), r11_5) ⟨(by first | omega | (simp [-List.getD_eq_getElem?_getD] <;> omega)), (by first | omega | (simp [-List.getD_eq_getElem?_getD] <;> omega)), (by first | omega | (simp [-List.getD_eq_getElem?_getD] <;> omega)), (by first | omega | (simp [-List.getD_eq_getElem?_getD] <;> omega)), (by omega), hL1⟩ (Nat.lt_succ_self _) ⟨rfl, rfl, rfl, rfl, rfl, rfl, rfl, trivial⟩ (fun w hw => Hp.sublist hw (.cons _ (.cons _ (.cons_cons _ (.cons_cons _ .slnil)))))
      · rw [bif_neg h65] at hL1
        have q66 := (not_f h65)
        refine TC.skip ?_
        refine TN.seq ?_
        refine TC.seq ?_
        refine TC.seq ?_
        refine TC.region ?_
        refine TL.op (yq (y_move (ev_t rfl))) rfl rfl rfl ?_
        refine TL.op (yq (y_len (ev_t rfl) Try.underlying22 (fun w hw => ((ri_row 0 rfl) w hw).ln))) rfl rfl rfl ?_
        refine TL.op (yq (y_move (ev_t rfl))) rfl rfl rfl ?_
        refine TL.op (yq (y_gtr (ev_t rfl) (ev_t rfl))) rfl rfl rfl ?_
        refine TL.nil ?_
        refine TN.seq ?_
        refine TC.cond (b := decide (k < (k11_1.length : Int))) (ev_t rfl) (fun h70 => ?_) (fun h70 => ?_)
        · rw [bif_pos h70] at hL1
          have q71 := (of_decide_eq_true h70)
          refine TC.seq ?_
          refine TC.region ?_
          refine TL.buildSlice (zs := []) (vs := []) slT_33 rfl trivial (by simp) rfl (by decide) rfl (fun v14_0 => ?_)
          refine TL.cls (fun w hw => hw.emptyTab 3) ?_
          refine TL.op (yq (y_assign (ev_t rfl))) rfl rfl rfl ?_
          refine TL.op (yq (y_assign ev_c)) rfl rfl rfl ?_
          refine TL.op (yq (y_assign ev_c)) rfl rfl rfl ?_
          refine TL.nil ?_
          refine TN.seq ?_
          refine TC.ret ?_
          refine TN.thenR ?_
          refine TN.blockR ?_
          refine TN.thenR ?_
          refine TN.thenR ?_
          rw [← hL1, elim_ret] at hF
          refine TN.blockR ?_
          refine TN.thenR ?_
          subst hF
          exact TN.ret3 rfl (ev_t rfl) (ev_t rfl) (ev_t rfl) (fun w' hw => ⟨(v14_0, []), rfl, Hp.sublist hw (.cons_cons _ (.cons _ (.cons _ .slnil)))⟩)
        · rw [bif_neg h70] at hL1
          have q71 := (of_decide_eq_false h70)
          refine TC.skip ?_
          refine TN.seq ?_
          refine TC.region ?_
          refine TL.op (yq (y_move (ev_t rfl))) rfl rfl rfl ?_
          refine TL.op (yq (y_move (ev_t rfl))) rfl rfl rfl ?_
          refine TL.callr (ι := Value) (vs := [vk11_1]) (fun i => i) (fun i => [rowI 3 i k11_1]) en_73 ⟨(ev_t rfl), trivial⟩ rfl (fun w hw => spec_l1Own_ok w vk11_1 k11_1 ((ri_row 0 rfl) w hw) (by first | assumption | omega | grind)) (fun r15_2 => ?_)
          refine TL.buildU slT_33 (ev_t rfl) (fun w hw => ((ri_row 0 rfl) w hw).ln) rfl (fun v15_3 => ?_)
          refine TL.appendT 3 1 rfl (ev_t rfl) (ev_t rfl) rfl rfl slT_33 (rd_row 0 rfl) (by first | omega | (simp [-List.getD_eq_getElem?_getD] <;> omega)) rfl (fun v15_4 => ?_)
          refine TL.op (yq (y_assign (ev_t rfl))) rfl rfl rfl ?_
          refine TL.nil ?_
          refine TN.blockN ?_
          refine TN.seq ?_
          refine TC.region ?_
          refine TL.op (yq (y_move (ev_t rfl))) rfl rfl rfl ?_
          refine TL.op (yq (y_add (ev_t rfl) ev_c (by unfold In64; omega))) rfl rfl rfl ?_
          refine TL.op (yq (y_assign (ev_t rfl))) rfl rfl rfl ?_
          refine TL.nil ?_
          exact TN.hand (mf1, (k9_1 ++ [k11_1]), k10_1, k11_1, (k12_1 + 1), v15_4, (uk9_1 ++ [r15_2]), vk11_1) ⟨(by first | omega | (simp [-List.getD_eq_getElem?_getD] <;> omega)), (by first | omega | (simp [-List.getD_eq_getElem?_getD] <;> omega)), (by first | omega | (simp [-List.getD_eq_getElem?_getD] <;> omega)), (by first | omega | (simp [-List.getD_eq_getElem?_getD] <;> omega)), (by omega), hL1⟩ (Nat.lt_succ_self _) ⟨rfl, rfl, rfl, rfl, rfl, rfl, rfl, trivial⟩ (fun w hw => Hp.sublist hw (.cons _ (.cons _ (.cons_cons _ (.cons_cons _ .slnil)))))
  · rw [bif_neg h49] at hL1
    have q50 := (of_decide_eq_false h49)
    refine TC.exit ?_
    refine TN.thenE ?_
    refine TN.thenE ?_
    rw [← hL1, elim_next] at hF
    try dsimp only at hF
    refine TN.blockH ?_
    refine TN.seq ?_
    refine TC.seq ?_
    refine TC.region ?_
    refine TL.op (yq (y_move (ev_t rfl))) rfl rfl rfl ?_
    refine TL.op (yq (y_move (ev_t rfl))) rfl rfl rfl ?_
    refine TL.op (yq (y_assign (ev_t rfl))) rfl rfl rfl ?_
    refine TL.op (yq (y_assign (ev_t rfl))) rfl rfl rfl ?_
    refine TL.op (yq (y_assign ev_c)) rfl rfl rfl ?_
    refine TL.nil ?_
    refine TN.seq ?_
    refine TC.ret ?_
    subst hF
    exact TN.ret3 rfl (ev_t rfl) (ev_t rfl) (ev_t rfl) (fun w' hw => ⟨(vk9_1, uk9_1), rfl, Hp.sublist hw (.cons _ (.cons_cons _ .slnil))⟩)

set_option maxRecDepth 4000 in
set_option maxHeartbeats 1000000 in
theorem spec_PlanFaults_ok (w : World) (k : Int) (n : Int) (vreqs : Value) (reqs : List Int) (hreqs : RI w vreqs reqs) (vplan : Value) (plan : List Int) (hplan : RI w vplan plan)  :
    Calls Try.prog 13 ([(.int .i64 k), (.int .i64 n), vreqs, vplan] : List Value).toArray w (Ret (.tuple #[(.int .i64 ((F_spec_PlanFaults k n reqs plan).1)), (.bool ((F_spec_PlanFaults k n reqs plan).2))]) (Hp w [])) := by
  obtain ⟨rz, hF⟩ : ∃ rz, (F_spec_PlanFaults k n reqs plan) = rz := ⟨_, rfl⟩
  rw [hF]
  unfold F_spec_PlanFaults at hF
  have hlen_reqs := arg_len hreqs
  have hlen_plan := arg_len hplan
  refine calls_tc Try.func13 rfl rfl rfl ?_
  change TC _ _ _ _ (Hp w []) [(0, (.int .i64 k)), (1, (.int .i64 n)), (2, vreqs), (3, vplan)]
  refine TC.seq ?_
  refine TC.region ?_
  refine TL.op (yq (y_assign ev_c)) rfl rfl rfl ?_
  refine TL.op (yq (y_assign ev_c)) rfl rfl rfl ?_
  refine TL.nil ?_
  refine TN.seq ?_
  refine TC.seq ?_
  refine TC.seq ?_
  refine TC.region ?_
  refine TL.op (yq (y_move (ev_t rfl))) rfl rfl rfl ?_
  refine TL.op (yq (y_move (ev_t rfl))) rfl rfl rfl ?_
  refine TL.op (yq (y_move (ev_t rfl))) rfl rfl rfl ?_
  refine TL.op (y_call (vs := [(.int .i64 k), (.int .i64 n), vreqs]) (v := (.bool (F_spec_l5Takes k n reqs))) en_44 ⟨(ev_t rfl), (ev_t rfl), (ev_t rfl), trivial⟩ (fun w hw => spec_l5Takes_ok w k n vreqs reqs ((ri_arg hreqs) w hw))) rfl rfl rfl ?_
  refine TL.op (yq (y_not (ev_t rfl))) rfl rfl rfl ?_
  refine TL.op (yq (y_move (ev_t rfl))) rfl rfl rfl ?_
  refine TL.opw (w_f rfl rfl rfl) (fun hg => yq (y_move (ev_t rfl))) rfl rfl ?_
  refine TL.opw (w_f rfl rfl rfl) (fun hg => yq (y_move (ev_t rfl))) rfl rfl ?_
  refine TL.opw (w_f rfl rfl rfl) (fun hg => yq (y_move (ev_t rfl))) rfl rfl ?_
  refine TL.opw (w_f rfl rfl rfl) (fun hg => y_call (vs := [(.int .i64 n), vreqs, vplan]) (v := (.bool (F_spec_l5Plan n reqs plan))) en_45 ⟨(ev_g rfl hg), (ev_g rfl hg), (ev_g rfl hg), trivial⟩ (fun w hw => spec_l5Plan_ok w n vreqs reqs ((ri_arg hreqs) w hw) vplan plan ((ri_arg hplan) w hw) (by have hgf := (l5Takes_t (not_f (not_t hg))); first | assumption | omega | (have hq := hgf.n6; omega) | (have hq := hgf.1.n6; omega) | grind))) rfl rfl ?_
  refine TL.opw (w_f rfl rfl rfl) (fun hg => yq (y_not (ev_g rfl hg))) rfl rfl ?_
  refine TL.op (yq (y_or (ev_t rfl) (fun hq => (ev_g rfl hq)))) rfl rfl rfl ?_
  refine TL.nil ?_
  refine TN.seq ?_
  refine TC.cond (b := ((!(F_spec_l5Takes k n reqs)) || (!(F_spec_l5Plan n reqs plan)))) (ev_t rfl) (fun h3 => ?_) (fun h3 => ?_)
  · rw [bif_pos h3] at hF
    have q4 := ((or_t h3).imp (fun h => (not_t h)) (fun h => (not_t h)))
    refine TC.seq ?_
    refine TC.region ?_
    refine TL.op (yq (y_assign ev_c)) rfl rfl rfl ?_
    refine TL.op (yq (y_assign ev_c)) rfl rfl rfl ?_
    refine TL.nil ?_
    refine TN.seq ?_
    refine TC.ret ?_
    refine TN.thenR ?_
    subst hF
    exact TN.ret2 rfl (ev_t rfl) (ev_t rfl) (fun w' hw => ⟨rfl, hw⟩)
  · rw [bif_neg h3] at hF
    have q4 := (and_imp (or_f h3) (fun h => (l5Takes_t (not_f h))) (fun h => (l5Plan_t (not_f h))))
    refine TC.skip ?_
    refine TN.seq ?_
    refine TC.seq ?_
    refine TC.region ?_
    refine TL.op (yq (y_move (ev_t rfl))) rfl rfl rfl ?_
    refine TL.op (yq (y_move (ev_t rfl))) rfl rfl rfl ?_
    refine TL.op (yq (y_move (ev_t rfl))) rfl rfl rfl ?_
    refine TL.callr (ι := Value × List Value) (vs := [(.int .i64 k), vreqs, vplan]) (fun i => (.tuple #[i.1, (.int .i64 ((F_spec_l5Run k reqs plan).2.1)), (.bool ((F_spec_l5Run k reqs plan).2.2))])) (fun i => [tabI 22 3 i.1 i.2 ((F_spec_l5Run k reqs plan).1)]) en_46 ⟨(ev_t rfl), (ev_t rfl), (ev_t rfl), trivial⟩ rfl (fun w hw => spec_l5Run_ok w k vreqs reqs ((ri_arg hreqs) w hw) vplan plan ((ri_arg hplan) w hw) (by first | assumption | omega | grind) (by first | assumption | omega | grind)) (fun r3_3 => ?_)
    refine TL.op (yq (y_move (ev_t rfl))) rfl rfl rfl ?_
    refine TL.op (yq (y_extract (ev_t rfl) rfl)) rfl rfl rfl ?_
    refine TL.op (yq (y_extract (ev_t rfl) rfl)) rfl rfl rfl ?_
    refine TL.op (yq (y_extract (ev_t rfl) rfl)) rfl rfl rfl ?_
    refine TL.op (yq (y_assign (ev_t rfl))) rfl rfl rfl ?_
    refine TL.op (yq (y_assign (ev_t rfl))) rfl rfl rfl ?_
    refine TL.op (yq (y_assign (ev_t rfl))) rfl rfl rfl ?_
    refine TL.nil ?_
    refine TN.seq ?_
    refine TC.seq ?_
    refine TC.region ?_
    refine TL.op (yq (y_move (ev_t rfl))) rfl rfl rfl ?_
    refine TL.op (yq (y_move (ev_t rfl))) rfl rfl rfl ?_
    refine TL.op (yq (y_assign (ev_t rfl))) rfl rfl rfl ?_
    refine TL.op (yq (y_assign (ev_t rfl))) rfl rfl rfl ?_
    refine TL.nil ?_
    refine TN.seq ?_
    refine TC.ret ?_
    subst hF
    exact TN.ret2 rfl (ev_t rfl) (ev_t rfl) (fun w' hw => ⟨rfl, Hp.sublist hw (List.nil_sublist _)⟩)

set_option maxRecDepth 4000 in
set_option maxHeartbeats 1000000 in
theorem spec_PlanCaches_ok (w : World) (k : Int) (n : Int) (vreqs : Value) (reqs : List Int) (hreqs : RI w vreqs reqs) (vplan : Value) (plan : List Int) (hplan : RI w vplan plan)  :
    Calls Try.prog 23 ([(.int .i64 k), (.int .i64 n), vreqs, vplan] : List Value).toArray w (fun e w' => ∃ i : Value × List Value, e = .returned (.tuple #[i.1, (.bool ((F_spec_PlanCaches k n reqs plan).2))]) ∧ Hp w [tabI 22 3 i.1 i.2 ((F_spec_PlanCaches k n reqs plan).1)] w') := by
  obtain ⟨rz, hF⟩ : ∃ rz, (F_spec_PlanCaches k n reqs plan) = rz := ⟨_, rfl⟩
  rw [hF]
  unfold F_spec_PlanCaches at hF
  have hlen_reqs := arg_len hreqs
  have hlen_plan := arg_len hplan
  refine calls_tc Try.func23 rfl rfl rfl ?_
  change TC _ _ _ _ (Hp w []) [(0, (.int .i64 k)), (1, (.int .i64 n)), (2, vreqs), (3, vplan)]
  refine TC.seq ?_
  refine TC.region ?_
  refine TL.op (yq (y_assign ev_c)) rfl rfl rfl ?_
  refine TL.op (yq (y_assign ev_c)) rfl rfl rfl ?_
  refine TL.nil ?_
  refine TN.seq ?_
  refine TC.seq ?_
  refine TC.seq ?_
  refine TC.region ?_
  refine TL.op (yq (y_move (ev_t rfl))) rfl rfl rfl ?_
  refine TL.op (yq (y_move (ev_t rfl))) rfl rfl rfl ?_
  refine TL.op (yq (y_move (ev_t rfl))) rfl rfl rfl ?_
  refine TL.op (y_call (vs := [(.int .i64 k), (.int .i64 n), vreqs]) (v := (.bool (F_spec_l5Takes k n reqs))) en_44 ⟨(ev_t rfl), (ev_t rfl), (ev_t rfl), trivial⟩ (fun w hw => spec_l5Takes_ok w k n vreqs reqs ((ri_arg hreqs) w hw))) rfl rfl rfl ?_
  refine TL.op (yq (y_not (ev_t rfl))) rfl rfl rfl ?_
  refine TL.op (yq (y_move (ev_t rfl))) rfl rfl rfl ?_
  refine TL.opw (w_f rfl rfl rfl) (fun hg => yq (y_move (ev_t rfl))) rfl rfl ?_
  refine TL.opw (w_f rfl rfl rfl) (fun hg => yq (y_move (ev_t rfl))) rfl rfl ?_
  refine TL.opw (w_f rfl rfl rfl) (fun hg => yq (y_move (ev_t rfl))) rfl rfl ?_
  refine TL.opw (w_f rfl rfl rfl) (fun hg => y_call (vs := [(.int .i64 n), vreqs, vplan]) (v := (.bool (F_spec_l5Plan n reqs plan))) en_45 ⟨(ev_g rfl hg), (ev_g rfl hg), (ev_g rfl hg), trivial⟩ (fun w hw => spec_l5Plan_ok w n vreqs reqs ((ri_arg hreqs) w hw) vplan plan ((ri_arg hplan) w hw) (by have hgf := (l5Takes_t (not_f (not_t hg))); first | assumption | omega | (have hq := hgf.n6; omega) | (have hq := hgf.1.n6; omega) | grind))) rfl rfl ?_
  refine TL.opw (w_f rfl rfl rfl) (fun hg => yq (y_not (ev_g rfl hg))) rfl rfl ?_
  refine TL.op (yq (y_or (ev_t rfl) (fun hq => (ev_g rfl hq)))) rfl rfl rfl ?_
  refine TL.nil ?_
  refine TN.seq ?_
  refine TC.cond (b := ((!(F_spec_l5Takes k n reqs)) || (!(F_spec_l5Plan n reqs plan)))) (ev_t rfl) (fun h3 => ?_) (fun h3 => ?_)
  · rw [bif_pos h3] at hF
    have q4 := ((or_t h3).imp (fun h => (not_t h)) (fun h => (not_t h)))
    refine TC.seq ?_
    refine TC.region ?_
    refine TL.buildSlice (zs := []) (vs := []) slT_33 rfl trivial (by simp) rfl (by decide) rfl (fun v2_0 => ?_)
    refine TL.cls (fun w hw => hw.emptyTab 3) ?_
    refine TL.op (yq (y_assign (ev_t rfl))) rfl rfl rfl ?_
    refine TL.op (yq (y_assign ev_c)) rfl rfl rfl ?_
    refine TL.nil ?_
    refine TN.seq ?_
    refine TC.ret ?_
    refine TN.thenR ?_
    subst hF
    exact TN.ret2 rfl (ev_t rfl) (ev_t rfl) (fun w' hw => ⟨(v2_0, []), rfl, hw⟩)
  · rw [bif_neg h3] at hF
    have q4 := (and_imp (or_f h3) (fun h => (l5Takes_t (not_f h))) (fun h => (l5Plan_t (not_f h))))
    refine TC.skip ?_
    refine TN.seq ?_
    refine TC.seq ?_
    refine TC.region ?_
    refine TL.op (yq (y_move (ev_t rfl))) rfl rfl rfl ?_
    refine TL.op (yq (y_move (ev_t rfl))) rfl rfl rfl ?_
    refine TL.op (yq (y_move (ev_t rfl))) rfl rfl rfl ?_
    refine TL.callr (ι := Value × List Value) (vs := [(.int .i64 k), vreqs, vplan]) (fun i => (.tuple #[i.1, (.int .i64 ((F_spec_l5Run k reqs plan).2.1)), (.bool ((F_spec_l5Run k reqs plan).2.2))])) (fun i => [tabI 22 3 i.1 i.2 ((F_spec_l5Run k reqs plan).1)]) en_46 ⟨(ev_t rfl), (ev_t rfl), (ev_t rfl), trivial⟩ rfl (fun w hw => spec_l5Run_ok w k vreqs reqs ((ri_arg hreqs) w hw) vplan plan ((ri_arg hplan) w hw) (by first | assumption | omega | grind) (by first | assumption | omega | grind)) (fun r3_3 => ?_)
    refine TL.op (yq (y_move (ev_t rfl))) rfl rfl rfl ?_
    refine TL.op (yq (y_extract (ev_t rfl) rfl)) rfl rfl rfl ?_
    refine TL.op (yq (y_extract (ev_t rfl) rfl)) rfl rfl rfl ?_
    refine TL.op (yq (y_extract (ev_t rfl) rfl)) rfl rfl rfl ?_
    refine TL.op (yq (y_assign (ev_t rfl))) rfl rfl rfl ?_
    refine TL.op (yq (y_assign (ev_t rfl))) rfl rfl rfl ?_
    refine TL.op (yq (y_assign (ev_t rfl))) rfl rfl rfl ?_
    refine TL.nil ?_
    refine TN.seq ?_
    refine TC.seq ?_
    refine TC.region ?_
    refine TL.op (yq (y_move (ev_t rfl))) rfl rfl rfl ?_
    refine TL.op (yq (y_move (ev_t rfl))) rfl rfl rfl ?_
    refine TL.op (yq (y_assign (ev_t rfl))) rfl rfl rfl ?_
    refine TL.op (yq (y_assign (ev_t rfl))) rfl rfl rfl ?_
    refine TL.nil ?_
    refine TN.seq ?_
    refine TC.ret ?_
    subst hF
    exact TN.ret2 rfl (ev_t rfl) (ev_t rfl) (fun w' hw => ⟨(r3_3.1, r3_3.2), rfl, hw⟩)

set_option maxRecDepth 4000 in
set_option maxHeartbeats 1000000 in
theorem impl_planBy_1_ok (w : World) (p : Int) (gleaves : Nat) (leaves : Int) (hleaves : CellAt w gleaves (.int .i64 leaves))  :
    Calls Try.prog 102 ([(.int .i64 p), (.pointer (some ⟨gleaves, 0, none⟩))] : List Value).toArray w (Ret (.bool (F_impl_planBy_1 p leaves)) (Hp w [])) := by
  obtain ⟨rz, hF⟩ : ∃ rz, (F_impl_planBy_1 p leaves) = rz := ⟨_, rfl⟩
  rw [hF]
  unfold F_impl_planBy_1 at hF
  refine calls_tc Try.func102 rfl rfl rfl ?_
  change TC _ _ _ _ (Hp w []) [(0, (.int .i64 p)), (1, (.pointer (some ⟨gleaves, 0, none⟩)))]
  refine TC.seq ?_
  refine TC.region ?_
  refine TL.op (yq (y_assign ev_c)) rfl rfl rfl ?_
  refine TL.nil ?_
  refine TN.seq ?_
  refine TC.seq ?_
  refine TC.region ?_
  refine TL.op (yq (y_move (ev_t rfl))) rfl rfl rfl ?_
  refine TL.op (yq (y_ldc (ev_t rfl) one_3 hleaves)) rfl rfl rfl ?_
  refine TL.op (yq (y_eql (ev_t rfl) (ev_t rfl))) rfl rfl rfl ?_
  refine TL.op (yq (y_assign (ev_t rfl))) rfl rfl rfl ?_
  refine TL.nil ?_
  refine TN.seq ?_
  refine TC.ret ?_
  subst hF
  exact TN.ret1 rfl (ev_t rfl) (fun w' hw => ⟨rfl, hw⟩)

set_option maxRecDepth 4000 in
set_option maxHeartbeats 1000000 in
theorem impl_planBy_ok (w : World) (k : Int) (vreqs : Value) (reqs : List Int) (hreqs : RI w vreqs reqs) (kchoose : Nat) (cchoose : List Value) (choose : Int → List Int → Int) (echoose : En Try.prog kchoose) (hchoose : ∀ (w' : World) (_ : Below w.heap.size w w') (x0 : Int) (vx1 : Value) (x1 : List Int) (_ : RI w' vx1 x1), Dom k reqs x0 x1 → Calls Try.prog kchoose ([(.int .i64 x0), vx1] ++ cchoose : List Value).toArray w' (Ret (.int .i64 (choose x0 x1)) (Hp w' []))) (hp0 : reqs.length ≤ 1000) :
    Calls Try.prog 57 ([(.int .i64 k), vreqs, (.func (.func kchoose) #[] cchoose.toArray)] : List Value).toArray w (fun e w' => ∃ i : Value, e = .returned i ∧ Hp w [rowI 3 i (F_impl_planBy k reqs choose)] w') := by
  obtain ⟨rz, hF⟩ : ∃ rz, (F_impl_planBy k reqs choose) = rz := ⟨_, rfl⟩
  rw [hF]
  unfold F_impl_planBy at hF
  have hlen_reqs := arg_len hreqs
  refine calls_tc Try.func57 rfl rfl rfl ?_
  change TC _ _ _ _ (Hp w []) [(0, (.int .i64 k)), (1, vreqs), (2, (.func (.func kchoose) #[] cchoose.toArray))]
  refine TC.seq ?_
  refine TC.region ?_
  refine TL.op (yq (y_assign ev_c)) rfl rfl rfl ?_
  refine TL.nil ?_
  refine TN.seq ?_
  refine TC.seq ?_
  refine TC.region ?_
  refine TL.buildI (zs := []) (qs := []) slT_22 rfl trivial rfl (by decide) rfl (fun v1_0 => ?_)
  refine TL.op (yq (y_assign (ev_t rfl))) rfl rfl rfl ?_
  refine TL.nil ?_
  refine TN.seq ?_
  refine TC.seq ?_
  refine TC.region ?_
  refine TL.buildI (zs := []) (qs := []) slT_22 rfl trivial rfl (by decide) rfl (fun v2_0 => ?_)
  refine TL.op (yq (y_assign (ev_t rfl))) rfl rfl rfl ?_
  refine TL.nil ?_
  refine TN.seq ?_
  refine TC.seq ?_
  refine TC.seq ?_
  refine TC.region ?_
  refine TL.op (yq (y_move (ev_t rfl))) rfl rfl rfl ?_
  refine TL.op (yq (y_len (ev_t rfl) Try.underlying22 (fun w hw => ((ri_arg hreqs) w hw).ln))) rfl rfl rfl ?_
  refine TL.op (yq (y_move ev_c)) rfl rfl rfl ?_
  refine TL.nil ?_
  refine TN.seq ?_
  refine TC.block ?_
  obtain ⟨c15, hc16⟩ : ∃ c, F_impl_planBy_L1 k reqs choose ((reqs.length - 0) + 1) (([] : List Int), ([] : List Int), 0) = c := ⟨_, rfl⟩
  rw [hc16] at hF
  refine TC.loop (ι := Nat × List Int × List Int × Nat × Value × Value) (fun (fu1, cache1, out1, k16_1, vcache1, vout1) => [(0, (.int .i64 k)), (2, (.func (.func kchoose) #[] cchoose.toArray)), (7, vcache1), (8, vout1), (14, vreqs), (15, (.int .i64 (reqs.length : Int))), (16, (.int .i64 (k16_1 : Int)))]) (fun (fu1, cache1, out1, k16_1, vcache1, vout1) => Hp w [rowI 3 vout1 out1, rowI 3 vcache1 cache1]) (fun (fu1, cache1, out1, k16_1, vcache1, vout1) => (k16_1 ≤ reqs.length) ∧ (cache1.length ≤ k16_1) ∧ (out1.length ≤ k16_1) ∧ (cache1.Nodup) ∧ reqs.length - k16_1 < fu1 ∧ F_impl_planBy_L1 k reqs choose fu1 (cache1, out1, k16_1) = c15) (fun (fu1, cache1, out1, k16_1, vcache1, vout1) => fu1) ((reqs.length - 0) + 1, ([] : List Int), ([] : List Int), 0, v1_0, v2_0) ⟨(by first | omega | (simp [-List.getD_eq_getElem?_getD] <;> omega)), (by first | omega | (simp [-List.getD_eq_getElem?_getD] <;> omega)), (by first | omega | (simp [-List.getD_eq_getElem?_getD] <;> omega)), List.nodup_nil, (by omega), hc16⟩ ⟨rfl, rfl, rfl, rfl, rfl, rfl, rfl, trivial⟩ (fun w hw => hw) ?_
  rintro ⟨fu1, cache1, out1, k16_1, vcache1, vout1⟩ hJ1
  obtain ⟨hi1_0, hi1_1, hi1_2, hi1_3, hmu1, hL1⟩ : (k16_1 ≤ reqs.length) ∧ (cache1.length ≤ k16_1) ∧ (out1.length ≤ k16_1) ∧ (cache1.Nodup) ∧ reqs.length - k16_1 < fu1 ∧ F_impl_planBy_L1 k reqs choose fu1 (cache1, out1, k16_1) = c15 := hJ1
  change TC _ _ _ _ (Hp w [rowI 3 vout1 out1, rowI 3 vcache1 cache1]) [(0, (.int .i64 k)), (2, (.func (.func kchoose) #[] cchoose.toArray)), (7, vcache1), (8, vout1), (14, vreqs), (15, (.int .i64 (reqs.length : Int))), (16, (.int .i64 (k16_1 : Int)))]
  obtain ⟨mf1, rfl⟩ : ∃ m, fu1 = m + 1 := ⟨fu1 - 1, by omega⟩
  rw [F_impl_planBy_L1_s] at hL1
  refine TC.seq ?_
  refine TC.region ?_
  refine TL.op (yq (y_lss (ev_t rfl) (ev_t rfl))) rfl rfl rfl ?_
  refine TL.nil ?_
  refine TN.seq ?_
  refine TC.seq ?_
  refine TC.cond (b := decide ((k16_1 : Int) < (reqs.length : Int))) (ev_t rfl) (fun h17 => ?_) (fun h17 => ?_)
  · rw [bif_pos h17] at hL1
    have q18 := (of_decide_eq_true h17)
    refine TC.skip ?_
    refine TN.seq ?_
    refine TC.seq ?_
    refine TC.block ?_
    refine TC.seq ?_
    refine TC.region ?_
    refine TL.op (yq (y_move (ev_t rfl))) rfl rfl rfl ?_
    have hb19 : k16_1 < reqs.length := (by first | omega | (simp only [List.length_set, List.length_append, List.length_cons, List.length_nil, List.length_replicate]; omega) | (rw [sortI_length]; simp only [List.length_cons, List.length_nil]; omega))
    refine TL.op (yq (y_idx (k := k16_1) (ev_t rfl) (ev_t rfl) (by first | omega | simp) slT_22 (ri_arg hreqs) hb19)) rfl rfl rfl ?_
    refine TL.op (yq (y_ldi (ev_t rfl) one_3 (ri_arg hreqs) hb19)) rfl rfl rfl ?_
    refine TL.op (yq (y_assign (ev_t rfl))) rfl rfl rfl ?_
    refine TL.op (yq (y_assign (ev_t rfl))) rfl rfl rfl ?_
    refine TL.nil ?_
    refine TN.seq ?_
    refine TC.seq ?_
    refine TC.region ?_
    refine TL.alloc (u := (.int .i64 0)) (by kernel_rfl) rfl (fun g6_0 => ?_)
    refine TL.storeB 0 (ev_t rfl) ev_c one_3 rfl (by first | decide | simp) (fun w hw => rfl) ?_
    refine TL.nil ?_
    refine TN.seq ?_
    refine TC.seq ?_
    refine TC.seq ?_
    refine TC.region ?_
    refine TL.op (yq (y_move (ev_t rfl))) rfl rfl rfl ?_
    refine TL.op (yq (y_move (ev_t rfl))) rfl rfl rfl ?_
    refine TL.op (y_call (vs := [vcache1, (.int .i64 (reqs.getD k16_1 0))]) (v := (.bool (F_slices_Contains_Sint_int cache1 (reqs.getD k16_1 0)))) en_74 ⟨(ev_t rfl), (ev_t rfl), trivial⟩ (fun w hw => slices_Contains_Sint_int_ok w vcache1 cache1 ((ri_row 2 rfl) w hw) (reqs.getD k16_1 0))) rfl rfl rfl ?_
    refine TL.op (yq (y_not (ev_t rfl))) rfl rfl rfl ?_
    refine TL.nil ?_
    refine TN.seq ?_
    refine TC.cond (b := !(F_slices_Contains_Sint_int cache1 (reqs.getD k16_1 0))) (ev_t rfl) (fun h20 => ?_) (fun h20 => ?_)
    · rw [bif_pos h20] at hL1
      have q21 := (not_t h20)
      have hnc := not_mem_of q21
      refine TC.seq ?_
      refine TC.seq ?_
      refine TC.region ?_
      refine TL.op (yq (y_move (ev_t rfl))) rfl rfl rfl ?_
      refine TL.op (yq (y_len (ev_t rfl) Try.underlying22 (fun w hw => ((ri_row 2 rfl) w hw).ln))) rfl rfl rfl ?_
      refine TL.op (yq (y_move (ev_t rfl))) rfl rfl rfl ?_
      refine TL.op (yq (y_eql (ev_t rfl) (ev_t rfl))) rfl rfl rfl ?_
      refine TL.nil ?_
      refine TN.seq ?_
      refine TC.cond (b := decide ((cache1.length : Int) = k)) (ev_t rfl) (fun h22 => ?_) (fun h22 => ?_)
      · rw [bif_pos h22] at hL1
        have q23 := (of_decide_eq_true h22)
        have hdom := dom_of (k := k) (reqs := reqs) (i := k16_1) hi1_3 hnc (by omega) (by omega) (by omega)
        have hdl := deleteFunc_len cache1 (fun p => F_impl_planBy_1 p (choose (k16_1 : Int) (F_impl_rising cache1)))
        refine TC.seq ?_
        refine TC.region ?_
        refine TL.op (yq (y_move (ev_t rfl))) rfl rfl rfl ?_
        refine TL.op (yq (y_move (ev_t rfl))) rfl rfl rfl ?_
        refine TL.op (yq (y_move (ev_t rfl))) rfl rfl rfl ?_
        refine TL.callr (ι := Value) (vs := [vcache1]) (fun i => i) (fun i => [rowI 3 i (F_impl_rising cache1)]) en_91 ⟨(ev_t rfl), trivial⟩ rfl (fun w hw => impl_rising_ok w vcache1 cache1 ((ri_row 2 rfl) w hw) (by first | assumption | omega | grind)) (fun r9_3 => ?_)
        refine TL.op (y_callv (vs := [(.int .i64 (k16_1 : Int)), r9_3]) (v := (.int .i64 (choose (k16_1 : Int) (F_impl_rising cache1)))) echoose (ev_t rfl) ⟨(ev_t rfl), (ev_t rfl), trivial⟩ (fun w hw => hchoose w hw.1 (k16_1 : Int) r9_3 (F_impl_rising cache1) ((ri_row 0 rfl) w hw) (by exact hdom))) rfl rfl rfl ?_
        refine TL.storeB 1 (ev_t rfl) (ev_t rfl) one_3 rfl (by first | decide | simp) (fun w hw => rfl) ?_
        refine TL.nil ?_
        refine TN.seq ?_
        refine TC.region ?_
        refine TL.op (yq (y_move (ev_t rfl))) rfl rfl rfl ?_
        refine TL.op (yq (y_mkf (us := [(.pointer (some ⟨g6_0, 0, none⟩))]) ⟨(ev_t rfl), trivial⟩)) rfl rfl rfl ?_
        refine TL.callmR (ι := Value) 3 (vs := [vcache1, (.func (.func 102) #[] ([(.pointer (some ⟨g6_0, 0, none⟩))] : List Value).toArray)]) (fun i => i) (fun i => rowI 3 i (F_slices_DeleteFunc_Sint_int cache1 (fun p => F_impl_planBy_1 p (choose (k16_1 : Int) (F_impl_rising cache1))))) en_101 ⟨(ev_t rfl), (ev_t rfl), trivial⟩ rfl rfl (fun w1 _ hw => slices_DeleteFunc_Sint_int_ok w w1 _ vcache1 cache1 hw 102 [(.pointer (some ⟨g6_0, 0, none⟩))] (fun p => F_impl_planBy_1 p (choose (k16_1 : Int) (F_impl_rising cache1))) en_102 (fun w2 _ hw2 p => impl_planBy_1_ok w2 p g6_0 (choose (k16_1 : Int) (F_impl_rising cache1)) (cell_blk 2 rfl rfl hw2 (Below.refl _ _)))) (fun r10_2 => ?_)
        refine TL.op (yq (y_assign (ev_t rfl))) rfl rfl rfl ?_
        refine TL.nil ?_
        refine TN.seq ?_
        refine TC.region ?_
        refine TL.op (yq (y_move (ev_t rfl))) rfl rfl rfl ?_
        refine TL.op (yq (y_move (ev_t rfl))) rfl rfl rfl ?_
        refine TL.buildI (zs := [.tmp 38]) (qs := [(reqs.getD k16_1 0)]) slT_22 rfl ⟨(ev_t rfl), trivial⟩ rfl (by decide) rfl (fun v11_2 => ?_)
        refine TL.appendI 4 (ev_t rfl) (ev_t rfl) rfl slT_22 (ri_row 0 rfl) (by first | omega | (simp [-List.getD_eq_getElem?_getD] <;> omega)) rfl (fun v11_3 => ?_)
        refine TL.op (yq (y_assign (ev_t rfl))) rfl rfl rfl ?_
        refine TL.nil ?_
        refine TN.seq ?_
        refine TC.region ?_
        refine TL.op (yq (y_move (ev_t rfl))) rfl rfl rfl ?_
        refine TL.op (yq (y_ldb 2 (ev_t rfl) one_3 rfl rfl)) rfl rfl rfl ?_
        refine TL.buildI (zs := [.tmp 42]) (qs := [(choose (k16_1 : Int) (F_impl_rising cache1))]) slT_22 rfl ⟨(ev_t rfl), trivial⟩ rfl (by decide) rfl (fun v12_2 => ?_)
        refine TL.appendI 4 (ev_t rfl) (ev_t rfl) rfl slT_22 (ri_row 0 rfl) (by first | omega | (simp [-List.getD_eq_getElem?_getD] <;> omega)) rfl (fun v12_3 => ?_)
        refine TL.op (yq (y_assign (ev_t rfl))) rfl rfl rfl ?_
        refine TL.nil ?_
        refine TN.blockN ?_
        refine TN.seq ?_
        refine TC.region ?_
        refine TL.op (yq (y_add (ev_t rfl) ev_c (by unfold In64; omega))) rfl rfl rfl ?_
        refine TL.op (yq (y_move (ev_t rfl))) rfl rfl rfl ?_
        refine TL.nil ?_
        exact TN.hand (mf1, ((F_slices_DeleteFunc_Sint_int cache1 (fun p => F_impl_planBy_1 p (choose (k16_1 : Int) (F_impl_rising cache1)))) ++ ([(reqs.getD k16_1 0)])), (out1 ++ ([(choose (k16_1 : Int) (F_impl_rising cache1))])), (k16_1 + 1), v11_3, v12_3) ⟨(by first | omega | (simp [-List.getD_eq_getElem?_getD] <;> omega)), (by first | omega | (simp [-List.getD_eq_getElem?_getD] <;> omega)), (by first | omega | (simp [-List.getD_eq_getElem?_getD] <;> omega)), (by first | exact hi1_3 | exact nodup_push hi1_3 hnc | exact nodup_del_push hi1_3 hnc), (by omega), hL1⟩ (Nat.lt_succ_self _) ⟨rfl, rfl, rfl, rfl, rfl, rfl, rfl, trivial⟩ (fun w hw => Hp.sublist hw (.cons _ (.cons _ (.cons _ (.cons _ (.cons_cons _ (.cons_cons _ .slnil)))))))
      · rw [bif_neg h22] at hL1
        have q23 := (of_decide_eq_false h22)
        refine TC.skip ?_
        refine TN.seq ?_
        refine TC.region ?_
        refine TL.op (yq (y_move (ev_t rfl))) rfl rfl rfl ?_
        refine TL.op (yq (y_move (ev_t rfl))) rfl rfl rfl ?_
        refine TL.buildI (zs := [.tmp 38]) (qs := [(reqs.getD k16_1 0)]) slT_22 rfl ⟨(ev_t rfl), trivial⟩ rfl (by decide) rfl (fun v11_2 => ?_)
        refine TL.appendI 3 (ev_t rfl) (ev_t rfl) rfl slT_22 (ri_row 0 rfl) (by first | omega | (simp [-List.getD_eq_getElem?_getD] <;> omega)) rfl (fun v11_3 => ?_)
        refine TL.op (yq (y_assign (ev_t rfl))) rfl rfl rfl ?_
        refine TL.nil ?_
        refine TN.seq ?_
        refine TC.region ?_
        refine TL.op (yq (y_move (ev_t rfl))) rfl rfl rfl ?_
        refine TL.op (yq (y_ldb 1 (ev_t rfl) one_3 rfl rfl)) rfl rfl rfl ?_
        refine TL.buildI (zs := [.tmp 42]) (qs := [-1]) slT_22 rfl ⟨(ev_t rfl), trivial⟩ rfl (by decide) rfl (fun v12_2 => ?_)
        refine TL.appendI 3 (ev_t rfl) (ev_t rfl) rfl slT_22 (ri_row 0 rfl) (by first | omega | (simp [-List.getD_eq_getElem?_getD] <;> omega)) rfl (fun v12_3 => ?_)
        refine TL.op (yq (y_assign (ev_t rfl))) rfl rfl rfl ?_
        refine TL.nil ?_
        refine TN.blockN ?_
        refine TN.seq ?_
        refine TC.region ?_
        refine TL.op (yq (y_add (ev_t rfl) ev_c (by unfold In64; omega))) rfl rfl rfl ?_
        refine TL.op (yq (y_move (ev_t rfl))) rfl rfl rfl ?_
        refine TL.nil ?_
        exact TN.hand (mf1, (cache1 ++ ([(reqs.getD k16_1 0)])), (out1 ++ ([-1])), (k16_1 + 1), v11_3, v12_3) ⟨(by first | omega | (simp [-List.getD_eq_getElem?_getD] <;> omega)), (by first | omega | (simp [-List.getD_eq_getElem?_getD] <;> omega)), (by first | omega | (simp [-List.getD_eq_getElem?_getD] <;> omega)), (by first | exact hi1_3 | exact nodup_push hi1_3 hnc | exact nodup_del_push hi1_3 hnc), (by omega), hL1⟩ (Nat.lt_succ_self _) ⟨rfl, rfl, rfl, rfl, rfl, rfl, rfl, trivial⟩ (fun w hw => Hp.sublist hw (.cons _ (.cons _ (.cons _ (.cons_cons _ (.cons_cons _ .slnil))))))
    · rw [bif_neg h20] at hL1
      have q21 := (not_f h20)
      refine TC.skip ?_
      refine TN.seq ?_
      refine TC.region ?_
      refine TL.op (yq (y_move (ev_t rfl))) rfl rfl rfl ?_
      refine TL.op (yq (y_ldb 0 (ev_t rfl) one_3 rfl rfl)) rfl rfl rfl ?_
      refine TL.buildI (zs := [.tmp 42]) (qs := [-1]) slT_22 rfl ⟨(ev_t rfl), trivial⟩ rfl (by decide) rfl (fun v12_2 => ?_)
      refine TL.appendI 2 (ev_t rfl) (ev_t rfl) rfl slT_22 (ri_row 0 rfl) (by first | omega | (simp [-List.getD_eq_getElem?_getD] <;> omega)) rfl (fun v12_3 => ?_)
      refine TL.op (yq (y_assign (ev_t rfl))) rfl rfl rfl ?_
      refine TL.nil ?_
      refine TN.blockN ?_
      refine TN.seq ?_
      refine TC.region ?_
      refine TL.op (yq (y_add (ev_t rfl) ev_c (by unfold In64; omega))) rfl rfl rfl ?_
      refine TL.op (yq (y_move (ev_t rfl))) rfl rfl rfl ?_
      refine TL.nil ?_
      exact TN.hand (mf1, cache1, (out1 ++ ([-1])), (k16_1 + 1), vcache1, v12_3) ⟨(by first | omega | (simp [-List.getD_eq_getElem?_getD] <;> omega)), (by first | omega | (simp [-List.getD_eq_getElem?_getD] <;> omega)), (by first | omega | (simp [-List.getD_eq_getElem?_getD] <;> omega)), (by first | exact hi1_3 | exact nodup_push hi1_3 hnc | exact nodup_del_push hi1_3 hnc), (by omega), hL1⟩ (Nat.lt_succ_self _) ⟨rfl, rfl, rfl, rfl, rfl, rfl, rfl, trivial⟩ (fun w hw => Hp.sublist hw (.cons _ (.cons _ (.cons_cons _ (.cons_cons _ .slnil)))))
  · rw [bif_neg h17] at hL1
    have q18 := (of_decide_eq_false h17)
    refine TC.exit ?_
    refine TN.thenE ?_
    refine TN.thenE ?_
    rw [← hL1, elim_next] at hF
    try dsimp only at hF
    refine TN.blockH ?_
    refine TN.seq ?_
    refine TC.seq ?_
    refine TC.region ?_
    refine TL.op (yq (y_move (ev_t rfl))) rfl rfl rfl ?_
    refine TL.op (yq (y_assign (ev_t rfl))) rfl rfl rfl ?_
    refine TL.nil ?_
    refine TN.seq ?_
    refine TC.ret ?_
    subst hF
    exact TN.ret1 rfl (ev_t rfl) (fun w' hw => ⟨vout1, rfl, Hp.sublist hw (.cons_cons _ (.cons _ .slnil))⟩)

end Go.Proofs.Ytlhmmhlfledleaa
