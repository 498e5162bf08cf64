/-
  Walks of functions of the program: each computes its plain function. No condition but the bounds that are typed.
-/
import Derived.Test.YtcfjjnajeccbhaaFnG
import Derived.Test.YtcfjjnajeccbhaaDefH
import Derived.Test.YtcfjjnajeccbhaaLawServe
namespace Go.Proofs.Ytcfjjnajeccbhaa
open Go Go.RowKit

set_option maxRecDepth 4000 in
set_option maxHeartbeats 1000000 in
theorem impl_isServed_ok (w : World) (vm : Value) (um : List Value) (m : List (List Int)) (hm : RII w vm um m) (va : Value) (a : List Int) (ha : RI w va a) (vreqs : Value) (reqs : List Int) (hreqs : RI w vreqs reqs)  :
    Calls Try.prog 88 ([(.agg #[vm]), va, vreqs] : List Value).toArray w (Ret (.bool (F_impl_isServed m a reqs)) (Hp w [])) := by
  obtain ⟨rz, hF⟩ : ∃ rz, (F_impl_isServed m a reqs) = rz := ⟨_, rfl⟩
  rw [hF]
  unfold F_impl_isServed at hF
  have hlen_m := argT_len hm
  have hlen_a := arg_len ha
  have hlen_reqs := arg_len hreqs
  refine calls_tc Try.func88 rfl rfl rfl ?_
  change TC _ _ _ _ (Hp w []) [(0, (.agg #[vm])), (1, va), (2, vreqs)]
  refine TC.seq ?_
  refine TC.region ?_
  refine TL.box (ev_t rfl) rfl (fun g0_0 => ?_)
  refine TL.op (yq (y_assign ev_c)) rfl rfl rfl ?_
  refine TL.nil ?_
  refine TN.seq ?_
  refine TC.seq ?_
  refine TC.region ?_
  refine TL.op (yq (y_ldagg (cs := [vm]) 0 (ev_t rfl) agg_29 rfl)) rfl rfl rfl ?_
  refine TL.op (y_call (vs := [(.agg #[vm])]) (v := (.bool (F_impl_IsMetric m))) en_55 ⟨(ev_t rfl), trivial⟩ (fun w hw => impl_IsMetric_ok w vm um m ((rii_arg hm) w hw))) rfl rfl rfl ?_
  refine TL.op (yq (y_move (ev_t rfl))) rfl rfl rfl ?_
  refine TL.opw (w_t rfl rfl rfl) (fun hg => yq (y_ldagg (cs := [vm]) 0 (ev_t rfl) agg_29 rfl)) rfl rfl ?_
  refine TL.opw (w_t rfl rfl rfl) (fun hg => yq (y_move (ev_t rfl))) rfl rfl ?_
  refine TL.opw (w_t rfl rfl rfl) (fun hg => y_call (vs := [(.agg #[vm]), va]) (v := (.bool (F_impl_Metric_isConfig m a))) en_56 ⟨(ev_g rfl hg), (ev_g rfl hg), trivial⟩ (fun w hw => impl_Metric_isConfig_ok w vm um m ((rii_arg hm) w hw) va a ((ri_arg ha) w hw))) rfl rfl ?_
  refine TL.op (yq (y_and (ev_t rfl) (fun hq => (ev_g rfl hq)))) rfl rfl rfl ?_
  refine TL.op (yq (y_move (ev_t rfl))) rfl rfl rfl ?_
  refine TL.opw (w_t rfl rfl rfl) (fun hg => yq (y_move (ev_t rfl))) rfl rfl ?_
  refine TL.opw (w_t rfl rfl rfl) (fun hg => yq (y_len (ev_g rfl hg) Try.underlying25 (fun w hw => ((ri_arg hreqs) w hw).ln))) rfl rfl ?_
  refine TL.opw (w_t rfl rfl rfl) (fun hg => yq (y_leq (ev_g rfl hg) ev_c)) rfl rfl ?_
  refine TL.op (yq (y_and (ev_t rfl) (fun hq => (ev_g rfl hq)))) rfl rfl rfl ?_
  refine TL.op (yq (y_move (ev_t rfl))) rfl rfl rfl ?_
  refine TL.opw (w_t rfl rfl rfl) (fun hg => yq (y_fa (fa_29_0 g0_0) (ev_t rfl))) rfl rfl ?_
  refine TL.opw (w_t rfl rfl rfl) (fun hg => yq (y_ldb 0 (ev_g rfl hg) one_22 rfl rfl)) rfl rfl ?_
  refine TL.opw (w_t rfl rfl rfl) (fun hg => yq (y_len (ev_g rfl hg) Try.underlying22 (fun w hw => ((fun w hw => ((rii_arg hm) w hw).1) w hw).ln))) rfl rfl ?_
  refine TL.opw (w_t rfl rfl rfl) (fun hg => yq (y_move (ev_t rfl))) rfl rfl ?_
  refine TL.opw (w_t rfl rfl rfl) (fun hg => y_call (vs := [(.int .i64 (m.length : Int)), vreqs]) (v := (.bool (F_impl_areBelow (m.length : Int) reqs))) en_102 ⟨(ev_g rfl hg), (ev_g rfl hg), trivial⟩ (fun w hw => impl_areBelow_ok w (m.length : Int) vreqs reqs ((ri_arg hreqs) w hw) (by first | assumption | omega | grind) (by first | assumption | omega | grind))) rfl rfl ?_
  refine TL.op (yq (y_and (ev_t rfl) (fun hq => (ev_g rfl hq)))) rfl rfl rfl ?_
  refine TL.op (yq (y_assign (ev_t rfl))) rfl rfl rfl ?_
  refine TL.nil ?_
  refine TN.seq ?_
  refine TC.ret ?_
  subst hF
  exact TN.ret1 rfl (ev_t rfl) (fun w' hw => ⟨rfl, Hp.sublist hw (List.nil_sublist _)⟩)

set_option maxRecDepth 4000 in
set_option maxHeartbeats 1000000 in
theorem spec_l6Start_ok (w : World) (vm : Value) (um : List Value) (m : List (List Int)) (hm : RII w vm um m) (vstart : Value) (start : List Int) (hstart : RI w vstart start) (vreqs : Value) (reqs : List Int) (hreqs : RI w vreqs reqs)  :
    Calls Try.prog 86 ([(.agg #[vm]), vstart, vreqs] : List Value).toArray w (Ret (.bool (F_spec_l6Start m start reqs)) (Hp w [])) := by
  obtain ⟨rz, hF⟩ : ∃ rz, (F_spec_l6Start m start reqs) = rz := ⟨_, rfl⟩
  rw [hF]
  unfold F_spec_l6Start at hF
  have hlen_m := argT_len hm
  have hlen_start := arg_len hstart
  have hlen_reqs := arg_len hreqs
  refine calls_tc Try.func86 rfl rfl rfl ?_
  change TC _ _ _ _ (Hp w []) [(0, (.agg #[vm])), (1, vstart), (2, vreqs)]
  refine TC.seq ?_
  refine TC.region ?_
  refine TL.box (ev_t rfl) rfl (fun g0_0 => ?_)
  refine TL.op (yq (y_assign ev_c)) rfl rfl rfl ?_
  refine TL.nil ?_
  refine TN.seq ?_
  refine TC.seq ?_
  refine TC.region ?_
  refine TL.op (yq (y_ldagg (cs := [vm]) 0 (ev_t rfl) agg_29 rfl)) rfl rfl rfl ?_
  refine TL.op (y_call (vs := [(.agg #[vm])]) (v := (.bool (F_spec_l6Good m))) en_53 ⟨(ev_t rfl), trivial⟩ (fun w hw => spec_l6Good_ok w vm um m ((rii_arg hm) w hw))) rfl rfl rfl ?_
  refine TL.op (yq (y_move (ev_t rfl))) rfl rfl rfl ?_
  refine TL.opw (w_t rfl rfl rfl) (fun hg => yq (y_fa (fa_29_0 g0_0) (ev_t rfl))) rfl rfl ?_
  refine TL.opw (w_t rfl rfl rfl) (fun hg => yq (y_ldb 0 (ev_g rfl hg) one_22 rfl rfl)) rfl rfl ?_
  refine TL.opw (w_t rfl rfl rfl) (fun hg => yq (y_len (ev_g rfl hg) Try.underlying22 (fun w hw => ((fun w hw => ((rii_arg hm) w hw).1) w hw).ln))) rfl rfl ?_
  refine TL.opw (w_t rfl rfl rfl) (fun hg => yq (y_move (ev_t rfl))) rfl rfl ?_
  refine TL.opw (w_t rfl rfl rfl) (fun hg => y_call (vs := [(.int .i64 (m.length : Int)), vstart]) (v := (.bool (F_spec_l6Config (m.length : Int) start))) en_54 ⟨(ev_g rfl hg), (ev_g rfl hg), trivial⟩ (fun w hw => spec_l6Config_ok w (m.length : Int) vstart start ((ri_arg hstart) w hw) (by first | assumption | omega | grind) (by first | assumption | omega | grind))) rfl rfl ?_
  refine TL.op (yq (y_and (ev_t rfl) (fun hq => (ev_g rfl hq)))) rfl rfl rfl ?_
  refine TL.op (yq (y_move (ev_t rfl))) rfl rfl rfl ?_
  refine TL.opw (w_t rfl rfl rfl) (fun hg => yq (y_move (ev_t rfl))) rfl rfl ?_
  refine TL.opw (w_t rfl rfl rfl) (fun hg => yq (y_len (ev_g rfl hg) Try.underlying25 (fun w hw => ((ri_arg hreqs) w hw).ln))) rfl rfl ?_
  refine TL.opw (w_t rfl rfl rfl) (fun hg => yq (y_leq (ev_g rfl hg) ev_c)) rfl rfl ?_
  refine TL.op (yq (y_and (ev_t rfl) (fun hq => (ev_g rfl hq)))) rfl rfl rfl ?_
  refine TL.op (yq (y_move (ev_t rfl))) rfl rfl rfl ?_
  refine TL.opw (w_t rfl rfl rfl) (fun hg => yq (y_fa (fa_29_0 g0_0) (ev_t rfl))) rfl rfl ?_
  refine TL.opw (w_t rfl rfl rfl) (fun hg => yq (y_ldb 0 (ev_g rfl hg) one_22 rfl rfl)) rfl rfl ?_
  refine TL.opw (w_t rfl rfl rfl) (fun hg => yq (y_len (ev_g rfl hg) Try.underlying22 (fun w hw => ((fun w hw => ((rii_arg hm) w hw).1) w hw).ln))) rfl rfl ?_
  refine TL.opw (w_t rfl rfl rfl) (fun hg => yq (y_move (ev_t rfl))) rfl rfl ?_
  refine TL.opw (w_t rfl rfl rfl) (fun hg => y_call (vs := [(.int .i64 (m.length : Int)), vreqs]) (v := (.bool (F_spec_l6List (m.length : Int) reqs))) en_99 ⟨(ev_g rfl hg), (ev_g rfl hg), trivial⟩ (fun w hw => spec_l6List_ok w (m.length : Int) vreqs reqs ((ri_arg hreqs) w hw) (by first | assumption | omega | grind) (by first | assumption | omega | grind))) rfl rfl ?_
  refine TL.op (yq (y_and (ev_t rfl) (fun hq => (ev_g rfl hq)))) rfl rfl rfl ?_
  refine TL.op (yq (y_assign (ev_t rfl))) rfl rfl rfl ?_
  refine TL.nil ?_
  refine TN.seq ?_
  refine TC.ret ?_
  subst hF
  exact TN.ret1 rfl (ev_t rfl) (fun w' hw => ⟨rfl, Hp.sublist hw (List.nil_sublist _)⟩)

set_option maxRecDepth 4000 in
set_option maxHeartbeats 1000000 in
theorem impl_ScheduleMoves_ok (w : World) (vm : Value) (um : List Value) (m : List (List Int)) (hm : RII w vm um m) (vstart : Value) (start : List Int) (hstart : RI w vstart start) (vreqs : Value) (reqs : List Int) (hreqs : RI w vreqs reqs) (vconfigs : Value) (uconfigs : List Value) (configs : List (List Int)) (hconfigs : RII w vconfigs uconfigs configs)  :
    Calls Try.prog 44 ([(.agg #[vm]), vstart, vreqs, vconfigs] : List Value).toArray w (Ret (.tuple #[(.int .i64 ((F_impl_ScheduleMoves m start reqs configs).1)), (.bool ((F_impl_ScheduleMoves m start reqs configs).2))]) (Hp w [])) := by
  obtain ⟨rz, hF⟩ : ∃ rz, (F_impl_ScheduleMoves m start reqs configs) = rz := ⟨_, rfl⟩
  rw [hF]
  unfold F_impl_ScheduleMoves at hF
  have hlen_m := argT_len hm
  have hlen_start := arg_len hstart
  have hlen_reqs := arg_len hreqs
  have hlen_configs := argT_len hconfigs
  refine calls_tc Try.func44 rfl rfl rfl ?_
  change TC _ _ _ _ (Hp w []) [(0, (.agg #[vm])), (1, vstart), (2, vreqs), (3, vconfigs)]
  refine TC.seq ?_
  refine TC.region ?_
  refine TL.box (ev_t rfl) rfl (fun g0_0 => ?_)
  refine TL.op (yq (y_assign ev_c)) rfl rfl rfl ?_
  refine TL.op (yq (y_assign ev_c)) rfl rfl rfl ?_
  refine TL.nil ?_
  refine TN.seq ?_
  refine TC.seq ?_
  refine TC.seq ?_
  refine TC.region ?_
  refine TL.op (yq (y_ldagg (cs := [vm]) 0 (ev_t rfl) agg_29 rfl)) rfl rfl rfl ?_
  refine TL.op (yq (y_move (ev_t rfl))) rfl rfl rfl ?_
  refine TL.op (yq (y_move (ev_t rfl))) rfl rfl rfl ?_
  refine TL.op (y_call (vs := [(.agg #[vm]), vstart, vreqs]) (v := (.bool (F_impl_isServed m start reqs))) en_88 ⟨(ev_t rfl), (ev_t rfl), (ev_t rfl), trivial⟩ (fun w hw => impl_isServed_ok w vm um m ((rii_arg hm) w hw) vstart start ((ri_arg hstart) w hw) vreqs reqs ((ri_arg hreqs) w hw))) rfl rfl rfl ?_
  refine TL.op (yq (y_not (ev_t rfl))) rfl rfl rfl ?_
  refine TL.op (yq (y_move (ev_t rfl))) rfl rfl rfl ?_
  refine TL.opw (w_f rfl rfl rfl) (fun hg => yq (y_move (ev_t rfl))) rfl rfl ?_
  refine TL.opw (w_f rfl rfl rfl) (fun hg => yq (y_len (ev_g rfl hg) Try.underlying22 (fun w hw => ((fun w hw => ((rii_arg hconfigs) w hw).1) w hw).ln))) rfl rfl ?_
  refine TL.opw (w_f rfl rfl rfl) (fun hg => yq (y_move (ev_t rfl))) rfl rfl ?_
  refine TL.opw (w_f rfl rfl rfl) (fun hg => yq (y_len (ev_g rfl hg) Try.underlying25 (fun w hw => ((ri_arg hreqs) w hw).ln))) rfl rfl ?_
  refine TL.opw (w_f rfl rfl rfl) (fun hg => yq (y_neq (ev_g rfl hg) (ev_g rfl hg))) rfl rfl ?_
  refine TL.op (yq (y_or (ev_t rfl) (fun hq => (ev_g rfl hq)))) rfl rfl rfl ?_
  refine TL.nil ?_
  refine TN.seq ?_
  refine TC.cond (b := ((!(F_impl_isServed m start reqs)) || (!decide ((configs.length : Int) = (reqs.length : Int))))) (ev_t rfl) (fun h21 => ?_) (fun h21 => ?_)
  · rw [bif_pos h21] at hF
    have q22 := ((or_t h21).imp (fun h => (not_t h)) (fun h => (of_decide_eq_false (not_t h))))
    refine TC.seq ?_
    refine TC.region ?_
    refine TL.op (yq (y_assign ev_c)) rfl rfl rfl ?_
    refine TL.op (yq (y_assign ev_c)) rfl rfl rfl ?_
    refine TL.nil ?_
    refine TN.seq ?_
    refine TC.ret ?_
    refine TN.thenR ?_
    subst hF
    exact TN.ret2 rfl (ev_t rfl) (ev_t rfl) (fun w' hw => ⟨rfl, Hp.sublist hw (List.nil_sublist _)⟩)
  · rw [bif_neg h21] at hF
    have q22 := (and_imp (or_f h21) (fun h => (isServed_t (not_f h))) (fun h => (of_decide_eq_true (not_f h))))
    have hS := q22.1
    have hT := hS.tab
    have hr60 := hS.r60
    refine TC.skip ?_
    refine TN.seq ?_
    refine TC.seq ?_
    refine TC.region ?_
    refine TL.op (yq (y_assign ev_c)) rfl rfl rfl ?_
    refine TL.nil ?_
    refine TN.seq ?_
    refine TC.seq ?_
    refine TC.seq ?_
    refine TC.region ?_
    refine TL.op (yq (y_move (ev_t rfl))) rfl rfl rfl ?_
    refine TL.op (yq (y_len (ev_t rfl) Try.underlying22 (fun w hw => ((fun w hw => ((rii_arg hconfigs) w hw).1) w hw).ln))) rfl rfl rfl ?_
    refine TL.op (yq (y_move ev_c)) rfl rfl rfl ?_
    refine TL.nil ?_
    refine TN.seq ?_
    refine TC.block ?_
    obtain ⟨c23, hc24⟩ : ∃ c, F_impl_ScheduleMoves_L1 m reqs configs ((configs.length - 0) + 1) (start, 0, 0) = c := ⟨_, rfl⟩
    rw [hc24] at hF
    refine TC.loop (ι := Nat × List Int × Int × Nat × Value) (fun (fu1, start1, sum1, k27_1, vstart1) => [(1, vstart1), (2, vreqs), (4, (.pointer (some ⟨g0_0, 0, none⟩))), (10, (.int .i64 sum1)), (25, vconfigs), (26, (.int .i64 (configs.length : Int))), (27, (.int .i64 (k27_1 : Int)))]) (fun (fu1, start1, sum1, k27_1, vstart1) => Hp w [.blk g0_0 29 [vm]]) (fun (fu1, start1, sum1, k27_1, vstart1) => (k27_1 ≤ configs.length) ∧ (0 ≤ sum1) ∧ (sum1 ≤ 297 * (k27_1 : Int)) ∧ (Cf m.length start1) ∧ (start1.length = start.length) ∧ (RI w vstart1 start1) ∧ configs.length - k27_1 < fu1 ∧ F_impl_ScheduleMoves_L1 m reqs configs fu1 (start1, sum1, k27_1) = c23) (fun (fu1, start1, sum1, k27_1, vstart1) => fu1) ((configs.length - 0) + 1, start, 0, 0, vstart) ⟨(by first | omega | (simp [-List.getD_eq_getElem?_getD] <;> omega)), (by first | omega | (simp [-List.getD_eq_getElem?_getD] <;> omega)), (by first | omega | (simp [-List.getD_eq_getElem?_getD] <;> omega)), hS.cf, rfl, hstart, (by omega), hc24⟩ ⟨rfl, rfl, rfl, rfl, rfl, rfl, rfl, trivial⟩ (fun w hw => hw) ?_
    rintro ⟨fu1, start1, sum1, k27_1, vstart1⟩ hJ1
    obtain ⟨hi1_0, hi1_1, hi1_2, hi1_3, hi1_4, hrstart1, hmu1, hL1⟩ : (k27_1 ≤ configs.length) ∧ (0 ≤ sum1) ∧ (sum1 ≤ 297 * (k27_1 : Int)) ∧ (Cf m.length start1) ∧ (start1.length = start.length) ∧ (RI w vstart1 start1) ∧ configs.length - k27_1 < fu1 ∧ F_impl_ScheduleMoves_L1 m reqs configs fu1 (start1, sum1, k27_1) = c23 := hJ1
    change TC _ _ _ _ (Hp w [.blk g0_0 29 [vm]]) [(1, vstart1), (2, vreqs), (4, (.pointer (some ⟨g0_0, 0, none⟩))), (10, (.int .i64 sum1)), (25, vconfigs), (26, (.int .i64 (configs.length : Int))), (27, (.int .i64 (k27_1 : Int)))]
    obtain ⟨mf1, rfl⟩ : ∃ m, fu1 = m + 1 := ⟨fu1 - 1, by omega⟩
    rw [F_impl_ScheduleMoves_L1_s] at hL1
    refine TC.seq ?_
    refine TC.region ?_
    refine TL.op (yq (y_lss (ev_t rfl) (ev_t rfl))) rfl rfl rfl ?_
    refine TL.nil ?_
    refine TN.seq ?_
    refine TC.seq ?_
    refine TC.cond (b := decide ((k27_1 : Int) < (configs.length : Int))) (ev_t rfl) (fun h25 => ?_) (fun h25 => ?_)
    · rw [bif_pos h25] at hL1
      have q26 := (of_decide_eq_true h25)
      refine TC.skip ?_
      refine TN.seq ?_
      refine TC.seq ?_
      refine TC.block ?_
      refine TC.seq ?_
      refine TC.region ?_
      refine TL.op (yq (y_move (ev_t rfl))) rfl rfl rfl ?_
      have hb27 : k27_1 < configs.length := (by first | omega | (simp only [List.length_set, List.length_append, List.length_cons, List.length_nil, List.length_replicate]; omega))
      refine TL.op (yq (y_idx (k := k27_1) (ev_t rfl) (ev_t rfl) (by omega) slT_22 (fun w hw => ((rii_arg hconfigs) w hw).1) hb27)) rfl rfl rfl ?_
      have ha28 := hconfigs.row (i := k27_1) hb27
      refine TL.op (yq (y_ldA (ev_t rfl) one_25 (rii_arg hconfigs) hb27)) rfl rfl rfl ?_
      refine TL.op (yq (y_assign (ev_t rfl))) rfl rfl rfl ?_
      refine TL.op (yq (y_assign (ev_t rfl))) rfl rfl rfl ?_
      refine TL.nil ?_
      refine TN.seq ?_
      refine TC.seq ?_
      refine TC.seq ?_
      refine TC.region ?_
      refine TL.op (yq (y_ldagg (cs := [vm]) 0 (ev_t rfl) agg_29 rfl)) rfl rfl rfl ?_
      refine TL.op (yq (y_move (ev_t rfl))) rfl rfl rfl ?_
      refine TL.op (y_call (vs := [(.agg #[vm]), (uconfigs.getD k27_1 undef)]) (v := (.bool (F_impl_Metric_isConfig m (configs.getD k27_1 [])))) en_56 ⟨(ev_t rfl), (ev_t rfl), trivial⟩ (fun w hw => impl_Metric_isConfig_ok w vm um m ((rii_arg hm) w hw) (uconfigs.getD k27_1 undef) (configs.getD k27_1 []) ((ri_arg ha28) w hw))) rfl rfl rfl ?_
      refine TL.op (yq (y_not (ev_t rfl))) rfl rfl rfl ?_
      refine TL.op (yq (y_move (ev_t rfl))) rfl rfl rfl ?_
      refine TL.opw (w_f rfl rfl rfl) (fun hg => yq (y_move (ev_t rfl))) rfl rfl ?_
      refine TL.opw (w_f rfl rfl rfl) (fun hg => yq (y_len (ev_g rfl hg) Try.underlying25 (fun w hw => ((ri_arg ha28) w hw).ln))) rfl rfl ?_
      refine TL.opw (w_f rfl rfl rfl) (fun hg => yq (y_move (ev_t rfl))) rfl rfl ?_
      refine TL.opw (w_f rfl rfl rfl) (fun hg => yq (y_len (ev_g rfl hg) Try.underlying25 (fun w hw => ((ri_arg hrstart1) w hw).ln))) rfl rfl ?_
      refine TL.opw (w_f rfl rfl rfl) (fun hg => yq (y_neq (ev_g rfl hg) (ev_g rfl hg))) rfl rfl ?_
      refine TL.op (yq (y_or (ev_t rfl) (fun hq => (ev_g rfl hq)))) rfl rfl rfl ?_
      refine TL.op (yq (y_move (ev_t rfl))) rfl rfl rfl ?_
      refine TL.opw (w_f rfl rfl rfl) (fun hg => yq (y_move (ev_t rfl))) rfl rfl ?_
      refine TL.opw (w_f rfl rfl rfl) (fun hg => yq (y_move (ev_t rfl))) rfl rfl ?_
      refine TL.opw (w_f rfl rfl rfl) (fun hg => yq (y_move (ev_t rfl))) rfl rfl ?_
      refine TL.opw (w_f rfl rfl rfl) (fun hg => yq (y_idx (k := k27_1) (ev_g rfl hg) (ev_g rfl hg) (by omega) slT_25 (ri_arg hreqs) (show k27_1 < reqs.length by have hgf := (and_imp (or_f (not_t hg)) (fun h => (isConfig_t (not_f h))) (fun h => (of_decide_eq_true (not_f h)))); omega))) rfl rfl ?_
      refine TL.opw (w_f rfl rfl rfl) (fun hg => yq (y_ldi (ev_g rfl hg) one_3 (ri_arg hreqs) (show k27_1 < reqs.length by have hgf := (and_imp (or_f (not_t hg)) (fun h => (isConfig_t (not_f h))) (fun h => (of_decide_eq_true (not_f h)))); omega))) rfl rfl ?_
      refine TL.opw (w_f rfl rfl rfl) (fun hg => y_call (vs := [(uconfigs.getD k27_1 undef), (.int .i64 (reqs.getD k27_1 0))]) (v := (.bool (F_slices_Contains_Sint_int (configs.getD k27_1 []) (reqs.getD k27_1 0)))) en_89 ⟨(ev_g rfl hg), (ev_g rfl hg), trivial⟩ (fun w hw => slices_Contains_Sint_int_ok w (uconfigs.getD k27_1 undef) (configs.getD k27_1 []) ((ri_arg ha28) w hw) (reqs.getD k27_1 0))) rfl rfl ?_
      refine TL.opw (w_f rfl rfl rfl) (fun hg => yq (y_not (ev_g rfl hg))) rfl rfl ?_
      refine TL.op (yq (y_or (ev_t rfl) (fun hq => (ev_g rfl hq)))) rfl rfl rfl ?_
      refine TL.nil ?_
      refine TN.seq ?_
      refine TC.cond (b := (((!(F_impl_Metric_isConfig m (configs.getD k27_1 []))) || (!decide (((configs.getD k27_1 []).length : Int) = (start1.length : Int)))) || (!(F_slices_Contains_Sint_int (configs.getD k27_1 []) (reqs.getD k27_1 0))))) (ev_t rfl) (fun h29 => ?_) (fun h29 => ?_)
      · rw [bif_pos h29] at hL1
        have q30 := ((or_t h29).imp (fun h => ((or_t h).imp (fun h => (not_t h)) (fun h => (of_decide_eq_false (not_t h))))) (fun h => (not_t h)))
        refine TC.seq ?_
        refine TC.region ?_
        refine TL.op (yq (y_assign ev_c)) rfl rfl rfl ?_
        refine TL.op (yq (y_assign ev_c)) rfl rfl rfl ?_
        refine TL.nil ?_
        refine TN.seq ?_
        refine TC.ret ?_
        refine TN.thenR ?_
        refine TN.blockR ?_
        refine TN.thenR ?_
        refine TN.thenR ?_
        rw [← hL1, elim_ret] at hF
        refine TN.blockR ?_
        refine TN.thenR ?_
        subst hF
        exact TN.ret2 rfl (ev_t rfl) (ev_t rfl) (fun w' hw => ⟨rfl, Hp.sublist hw (List.nil_sublist _)⟩)
      · rw [bif_neg h29] at hL1
        have q30 := (and_imp (or_f h29) (fun h => (and_imp (or_f h) (fun h => (isConfig_t (not_f h))) (fun h => (of_decide_eq_true (not_f h))))) (fun h => (not_f h)))
        have hc2 := q30.1.1
        have hmc := moveCost_le hS.tp hi1_3 hc2 (by omega)
        refine TC.skip ?_
        refine TN.seq ?_
        refine TC.seq ?_
        refine TC.region ?_
        refine TL.op (yq (y_move (ev_t rfl))) rfl rfl rfl ?_
        refine TL.op (yq (y_ldagg (cs := [vm]) 0 (ev_t rfl) agg_29 rfl)) rfl rfl rfl ?_
        refine TL.op (yq (y_move (ev_t rfl))) rfl rfl rfl ?_
        refine TL.op (yq (y_move (ev_t rfl))) rfl rfl rfl ?_
        refine TL.op (y_call (vs := [(.agg #[vm]), vstart1, (uconfigs.getD k27_1 undef)]) (v := (.int .i64 (F_impl_Metric_moveCost m start1 (configs.getD k27_1 [])))) en_81 ⟨(ev_t rfl), (ev_t rfl), (ev_t rfl), trivial⟩ (fun w hw => impl_Metric_moveCost_ok w vm um m ((rii_arg hm) w hw) vstart1 start1 ((ri_arg hrstart1) w hw) (uconfigs.getD k27_1 undef) (configs.getD k27_1 []) ((ri_arg ha28) w hw) (by first | assumption | omega | grind) (by first | assumption | omega | grind) (by first | assumption | omega | grind) (by first | assumption | omega | grind))) rfl rfl rfl ?_
        refine TL.op (yq (y_add (ev_t rfl) (ev_t rfl) (by unfold In64; omega))) rfl rfl rfl ?_
        refine TL.op (yq (y_assign (ev_t rfl))) rfl rfl rfl ?_
        refine TL.nil ?_
        refine TN.seq ?_
        refine TC.region ?_
        refine TL.op (yq (y_move (ev_t rfl))) rfl rfl rfl ?_
        refine TL.op (yq (y_assign (ev_t rfl))) rfl rfl rfl ?_
        refine TL.nil ?_
        refine TN.blockN ?_
        refine TN.seq ?_
        refine TC.region ?_
        refine TL.op (yq (y_add (ev_t rfl) ev_c (by unfold In64; omega))) rfl rfl rfl ?_
        refine TL.op (yq (y_move (ev_t rfl))) rfl rfl rfl ?_
        refine TL.nil ?_
        exact TN.hand (mf1, (configs.getD k27_1 []), sum1 + (F_impl_Metric_moveCost m start1 (configs.getD k27_1 [])), (k27_1 + 1), (uconfigs.getD k27_1 undef)) ⟨(by first | omega | (simp [-List.getD_eq_getElem?_getD] <;> omega)), (by first | omega | (simp [-List.getD_eq_getElem?_getD] <;> omega)), (by first | omega | (simp [-List.getD_eq_getElem?_getD] <;> omega)), hc2, (by first | omega | (simp [-List.getD_eq_getElem?_getD] <;> omega)), ha28, (by omega), hL1⟩ (Nat.lt_succ_self _) ⟨rfl, rfl, rfl, rfl, rfl, rfl, rfl, trivial⟩ (fun w hw => hw)
    · rw [bif_neg h25] at hL1
      have q26 := (of_decide_eq_false h25)
      refine TC.exit ?_
      refine TN.thenE ?_
      refine TN.thenE ?_
      rw [← hL1, elim_next] at hF
      try dsimp only at hF
      refine TN.blockH ?_
      refine TN.seq ?_
      refine TC.seq ?_
      refine TC.region ?_
      refine TL.op (yq (y_move (ev_t rfl))) rfl rfl rfl ?_
      refine TL.op (yq (y_assign (ev_t rfl))) rfl rfl rfl ?_
      refine TL.op (yq (y_assign ev_c)) rfl rfl rfl ?_
      refine TL.nil ?_
      refine TN.seq ?_
      refine TC.ret ?_
      subst hF
      exact TN.ret2 rfl (ev_t rfl) (ev_t rfl) (fun w' hw => ⟨rfl, Hp.sublist hw (List.nil_sublist _)⟩)

set_option maxRecDepth 4000 in
set_option maxHeartbeats 1000000 in
theorem spec_ScheduleMoves_ok (w : World) (vm : Value) (um : List Value) (m : List (List Int)) (hm : RII w vm um m) (vstart : Value) (start : List Int) (hstart : RI w vstart start) (vreqs : Value) (reqs : List Int) (hreqs : RI w vreqs reqs) (vconfigs : Value) (uconfigs : List Value) (configs : List (List Int)) (hconfigs : RII w vconfigs uconfigs configs)  :
    Calls Try.prog 42 ([(.agg #[vm]), vstart, vreqs, vconfigs] : List Value).toArray w (Ret (.tuple #[(.int .i64 ((F_spec_ScheduleMoves m start reqs configs).1)), (.bool ((F_spec_ScheduleMoves m start reqs configs).2))]) (Hp w [])) := by
  obtain ⟨rz, hF⟩ : ∃ rz, (F_spec_ScheduleMoves m start reqs configs) = rz := ⟨_, rfl⟩
  rw [hF]
  unfold F_spec_ScheduleMoves at hF
  have hlen_m := argT_len hm
  have hlen_start := arg_len hstart
  have hlen_reqs := arg_len hreqs
  have hlen_configs := argT_len hconfigs
  refine calls_tc Try.func42 rfl rfl rfl ?_
  change TC _ _ _ _ (Hp w []) [(0, (.agg #[vm])), (1, vstart), (2, vreqs), (3, vconfigs)]
  refine TC.seq ?_
  refine TC.region ?_
  refine TL.box (ev_t rfl) rfl (fun g0_0 => ?_)
  refine TL.op (yq (y_assign ev_c)) rfl rfl rfl ?_
  refine TL.op (yq (y_assign ev_c)) rfl rfl rfl ?_
  refine TL.nil ?_
  refine TN.seq ?_
  refine TC.seq ?_
  refine TC.seq ?_
  refine TC.region ?_
  refine TL.op (yq (y_ldagg (cs := [vm]) 0 (ev_t rfl) agg_29 rfl)) rfl rfl rfl ?_
  refine TL.op (yq (y_move (ev_t rfl))) rfl rfl rfl ?_
  refine TL.op (yq (y_move (ev_t rfl))) rfl rfl rfl ?_
  refine TL.op (y_call (vs := [(.agg #[vm]), vstart, vreqs]) (v := (.bool (F_spec_l6Start m start reqs))) en_86 ⟨(ev_t rfl), (ev_t rfl), (ev_t rfl), trivial⟩ (fun w hw => spec_l6Start_ok w vm um m ((rii_arg hm) w hw) vstart start ((ri_arg hstart) w hw) vreqs reqs ((ri_arg hreqs) w hw))) rfl rfl rfl ?_
  refine TL.op (yq (y_not (ev_t rfl))) rfl rfl rfl ?_
  refine TL.op (yq (y_move (ev_t rfl))) rfl rfl rfl ?_
  refine TL.opw (w_f rfl rfl rfl) (fun hg => yq (y_move (ev_t rfl))) rfl rfl ?_
  refine TL.opw (w_f rfl rfl rfl) (fun hg => yq (y_len (ev_g rfl hg) Try.underlying22 (fun w hw => ((fun w hw => ((rii_arg hconfigs) w hw).1) w hw).ln))) rfl rfl ?_
  refine TL.opw (w_f rfl rfl rfl) (fun hg => yq (y_move (ev_t rfl))) rfl rfl ?_
  refine TL.opw (w_f rfl rfl rfl) (fun hg => yq (y_len (ev_g rfl hg) Try.underlying25 (fun w hw => ((ri_arg hreqs) w hw).ln))) rfl rfl ?_
  refine TL.opw (w_f rfl rfl rfl) (fun hg => yq (y_neq (ev_g rfl hg) (ev_g rfl hg))) rfl rfl ?_
  refine TL.op (yq (y_or (ev_t rfl) (fun hq => (ev_g rfl hq)))) rfl rfl rfl ?_
  refine TL.nil ?_
  refine TN.seq ?_
  refine TC.cond (b := ((!(F_spec_l6Start m start reqs)) || (!decide ((configs.length : Int) = (reqs.length : Int))))) (ev_t rfl) (fun h33 => ?_) (fun h33 => ?_)
  · rw [bif_pos h33] at hF
    have q34 := ((or_t h33).imp (fun h => (not_t h)) (fun h => (of_decide_eq_false (not_t h))))
    refine TC.seq ?_
    refine TC.region ?_
    refine TL.op (yq (y_assign ev_c)) rfl rfl rfl ?_
    refine TL.op (yq (y_assign ev_c)) rfl rfl rfl ?_
    refine TL.nil ?_
    refine TN.seq ?_
    refine TC.ret ?_
    refine TN.thenR ?_
    subst hF
    exact TN.ret2 rfl (ev_t rfl) (ev_t rfl) (fun w' hw => ⟨rfl, Hp.sublist hw (List.nil_sublist _)⟩)
  · rw [bif_neg h33] at hF
    have q34 := (and_imp (or_f h33) (fun h => (l6Start_t (not_f h))) (fun h => (of_decide_eq_true (not_f h))))
    have hS := q34.1
    have hT := hS.tab
    have hr60 := hS.r60
    refine TC.skip ?_
    refine TN.seq ?_
    refine TC.seq ?_
    refine TC.region ?_
    refine TL.op (yq (y_move (ev_t rfl))) rfl rfl rfl ?_
    refine TL.op (yq (y_assign ev_c)) rfl rfl rfl ?_
    refine TL.op (yq (y_assign (ev_t rfl))) rfl rfl rfl ?_
    refine TL.nil ?_
    refine TN.seq ?_
    refine TC.seq ?_
    refine TC.seq ?_
    refine TC.region ?_
    refine TL.op (yq (y_assign ev_c)) rfl rfl rfl ?_
    refine TL.nil ?_
    refine TN.seq ?_
    refine TC.block ?_
    obtain ⟨c35, hc36⟩ : ∃ c, F_spec_ScheduleMoves_L1 m start reqs configs ((reqs.length - 0) + 1) (0, start, 0) = c := ⟨_, rfl⟩
    rw [hc36] at hF
    refine TC.loop (ι := Nat × Int × List Int × Nat × Value) (fun (fu1, k10_1, k11_1, k12_1, vk11_1) => [(1, vstart), (2, vreqs), (3, vconfigs), (4, (.pointer (some ⟨g0_0, 0, none⟩))), (10, (.int .i64 k10_1)), (11, vk11_1), (12, (.int .i64 (k12_1 : Int)))]) (fun (fu1, k10_1, k11_1, k12_1, vk11_1) => Hp w [.blk g0_0 29 [vm]]) (fun (fu1, k10_1, k11_1, k12_1, vk11_1) => (k12_1 ≤ reqs.length) ∧ (0 ≤ k10_1) ∧ (k10_1 ≤ 297 * (k12_1 : Int)) ∧ (Cf m.length k11_1) ∧ (k11_1.length = start.length) ∧ (RI w vk11_1 k11_1) ∧ reqs.length - k12_1 < fu1 ∧ F_spec_ScheduleMoves_L1 m start reqs configs fu1 (k10_1, k11_1, k12_1) = c35) (fun (fu1, k10_1, k11_1, k12_1, vk11_1) => fu1) ((reqs.length - 0) + 1, 0, start, 0, vstart) ⟨(by first | omega | (simp [-List.getD_eq_getElem?_getD] <;> omega)), (by first | omega | (simp [-List.getD_eq_getElem?_getD] <;> omega)), (by first | omega | (simp [-List.getD_eq_getElem?_getD] <;> omega)), hS.cf, rfl, hstart, (by omega), hc36⟩ ⟨rfl, rfl, rfl, rfl, rfl, rfl, rfl, trivial⟩ (fun w hw => hw) ?_
    rintro ⟨fu1, k10_1, k11_1, k12_1, vk11_1⟩ hJ1
    obtain ⟨hi1_0, hi1_1, hi1_2, hi1_3, hi1_4, hrk11_1, hmu1, hL1⟩ : (k12_1 ≤ reqs.length) ∧ (0 ≤ k10_1) ∧ (k10_1 ≤ 297 * (k12_1 : Int)) ∧ (Cf m.length k11_1) ∧ (k11_1.length = start.length) ∧ (RI w vk11_1 k11_1) ∧ reqs.length - k12_1 < fu1 ∧ F_spec_ScheduleMoves_L1 m start reqs configs fu1 (k10_1, k11_1, k12_1) = c35 := hJ1
    change TC _ _ _ _ (Hp w [.blk g0_0 29 [vm]]) [(1, vstart), (2, vreqs), (3, vconfigs), (4, (.pointer (some ⟨g0_0, 0, none⟩))), (10, (.int .i64 k10_1)), (11, vk11_1), (12, (.int .i64 (k12_1 : Int)))]
    obtain ⟨mf1, rfl⟩ : ∃ m, fu1 = m + 1 := ⟨fu1 - 1, by omega⟩
    rw [F_spec_ScheduleMoves_L1_s] at hL1
    refine TC.seq ?_
    refine TC.seq ?_
    refine TC.region ?_
    refine TL.op (yq (y_move (ev_t rfl))) rfl rfl rfl ?_
    refine TL.op (yq (y_move (ev_t rfl))) rfl rfl rfl ?_
    refine TL.op (yq (y_len (ev_t rfl) Try.underlying25 (fun w hw => ((ri_arg hreqs) w hw).ln))) rfl rfl rfl ?_
    refine TL.op (yq (y_lss (ev_t rfl) (ev_t rfl))) rfl rfl rfl ?_
    refine TL.nil ?_
    refine TN.seq ?_
    refine TC.cond (b := decide ((k12_1 : Int) < (reqs.length : Int))) (ev_t rfl) (fun h37 => ?_) (fun h37 => ?_)
    · rw [bif_pos h37] at hL1
      have q38 := (of_decide_eq_true h37)
      refine TC.skip ?_
      refine TN.seq ?_
      refine TC.seq ?_
      refine TC.block ?_
      refine TC.seq ?_
      refine TC.seq ?_
      refine TC.regionQ (by kernel_rfl) (by kernel_rfl) dr_hp ?_
      refine TQ.op (yq (y_fa (fa_29_0 g0_0) (ev_t rfl))) rfl rfl rfl ?_
      refine TQ.op (yq (y_ldb 0 (ev_t rfl) one_22 rfl rfl)) rfl rfl rfl ?_
      refine TQ.op (yq (y_len (ev_t rfl) Try.underlying22 (fun w hw => ((fun w hw => ((rii_arg hm) w hw).1) w hw).ln))) rfl rfl rfl ?_
      refine TQ.op (yq (y_move (ev_t rfl))) rfl rfl rfl ?_
      refine TQ.op (yq (y_move (ev_t rfl))) rfl rfl rfl ?_
      have hb39 : k12_1 < configs.length := (by first | omega | (simp only [List.length_set, List.length_append, List.length_cons, List.length_nil, List.length_replicate]; omega))
      refine TQ.op (yq (y_idx (k := k12_1) (ev_t rfl) (ev_t rfl) (by omega) slT_22 (fun w hw => ((rii_arg hconfigs) w hw).1) hb39)) rfl rfl rfl ?_
      have ha40 := hconfigs.row (i := k12_1) hb39
      refine TQ.op (yq (y_ldA (ev_t rfl) one_25 (rii_arg hconfigs) hb39)) rfl rfl rfl ?_
      refine TQ.op (y_call (vs := [(.int .i64 (m.length : Int)), (uconfigs.getD k12_1 undef)]) (v := (.bool (F_spec_l6Config (m.length : Int) (configs.getD k12_1 [])))) en_54 ⟨(ev_t rfl), (ev_t rfl), trivial⟩ (fun w hw => spec_l6Config_ok w (m.length : Int) (uconfigs.getD k12_1 undef) (configs.getD k12_1 []) ((ri_arg ha40) w hw) (by first | assumption | omega | grind) (by first | assumption | omega | grind))) rfl rfl rfl ?_
      refine TQ.op (yq (y_not (ev_t rfl))) rfl rfl rfl ?_
      refine TQ.op (yq (y_move (ev_t rfl))) rfl rfl rfl ?_
      refine TQ.opw (w_f rfl rfl rfl) (fun hg => yq (y_move (ev_t rfl))) rfl rfl ?_
      refine TQ.opw (w_f rfl rfl rfl) (fun hg => yq (y_move (ev_t rfl))) rfl rfl ?_
      refine TQ.opw (w_f rfl rfl rfl) (fun hg => yq (y_idx (k := k12_1) (ev_g rfl hg) (ev_g rfl hg) (by omega) slT_22 (fun w hw => ((rii_arg hconfigs) w hw).1) (show k12_1 < configs.length by have hgf := (l6Config_t (not_f (not_t hg))); omega))) rfl rfl ?_
      refine TQ.opw (w_f rfl rfl rfl) (fun hg => yq (y_ldA (ev_g rfl hg) one_25 (rii_arg hconfigs) (show k12_1 < configs.length by have hgf := (l6Config_t (not_f (not_t hg))); omega))) rfl rfl ?_
      refine TQ.opw (w_f rfl rfl rfl) (fun hg => yq (y_len (ev_g rfl hg) Try.underlying25 (fun w hw => ((ri_arg (hconfigs.row (i := k12_1) (show k12_1 < configs.length by have hgf := (l6Config_t (not_f (not_t hg))); omega))) w hw).ln))) rfl rfl ?_
      refine TQ.opw (w_f rfl rfl rfl) (fun hg => yq (y_move (ev_t rfl))) rfl rfl ?_
      refine TQ.opw (w_f rfl rfl rfl) (fun hg => yq (y_len (ev_g rfl hg) Try.underlying25 (fun w hw => ((ri_arg hstart) w hw).ln))) rfl rfl ?_
      refine TQ.opw (w_f rfl rfl rfl) (fun hg => yq (y_neq (ev_g rfl hg) (ev_g rfl hg))) rfl rfl ?_
      refine TQ.op (yq (y_or (ev_t rfl) (fun hq => (ev_g rfl hq)))) rfl rfl rfl ?_
      refine TQ.op (yq (y_move (ev_t rfl))) rfl rfl rfl ?_
      refine TQ.opw (w_f rfl rfl rfl) (fun hg => yq (y_move (ev_t rfl))) rfl rfl ?_
      refine TQ.opw (w_f rfl rfl rfl) (fun hg => yq (y_move (ev_t rfl))) rfl rfl ?_
      refine TQ.opw (w_f rfl rfl rfl) (fun hg => yq (y_idx (k := k12_1) (ev_g rfl hg) (ev_g rfl hg) (by omega) slT_22 (fun w hw => ((rii_arg hconfigs) w hw).1) (show k12_1 < configs.length by have hgf := (and_imp (or_f (not_t hg)) (fun h => (l6Config_t (not_f h))) (fun h => (of_decide_eq_true (not_f h)))); omega))) rfl rfl ?_
      refine TQ.opw (w_f rfl rfl rfl) (fun hg => yq (y_ldA (ev_g rfl hg) one_25 (rii_arg hconfigs) (show k12_1 < configs.length by have hgf := (and_imp (or_f (not_t hg)) (fun h => (l6Config_t (not_f h))) (fun h => (of_decide_eq_true (not_f h)))); omega))) rfl rfl ?_
      refine TQ.opw (w_f rfl rfl rfl) (fun hg => yq (y_move (ev_t rfl))) rfl rfl ?_
      refine TQ.opw (w_f rfl rfl rfl) (fun hg => yq (y_move (ev_t rfl))) rfl rfl ?_
      refine TQ.opw (w_f rfl rfl rfl) (fun hg => yq (y_idx (k := k12_1) (ev_g rfl hg) (ev_g rfl hg) (by omega) slT_25 (ri_arg hreqs) (show k12_1 < reqs.length by have hgf := (and_imp (or_f (not_t hg)) (fun h => (l6Config_t (not_f h))) (fun h => (of_decide_eq_true (not_f h)))); omega))) rfl rfl ?_
      refine TQ.opw (w_f rfl rfl rfl) (fun hg => yq (y_ldi (ev_g rfl hg) one_3 (ri_arg hreqs) (show k12_1 < reqs.length by have hgf := (and_imp (or_f (not_t hg)) (fun h => (l6Config_t (not_f h))) (fun h => (of_decide_eq_true (not_f h)))); omega))) rfl rfl ?_
      refine TQ.opw (w_f rfl rfl rfl) (fun hg => y_call (vs := [(uconfigs.getD k12_1 undef), (.int .i64 (reqs.getD k12_1 0))]) (v := (.bool (F_spec_l1Has (configs.getD k12_1 []) (reqs.getD k12_1 0)))) en_87 ⟨(ev_g rfl hg), (ev_g rfl hg), trivial⟩ (fun w hw => spec_l1Has_ok w (uconfigs.getD k12_1 undef) (configs.getD k12_1 []) ((ri_arg (hconfigs.row (i := k12_1) (show k12_1 < configs.length by have hgf := (and_imp (or_f (not_t hg)) (fun h => (l6Config_t (not_f h))) (fun h => (of_decide_eq_true (not_f h)))); omega))) w hw) (reqs.getD k12_1 0))) rfl rfl ?_
      refine TQ.opw (w_f rfl rfl rfl) (fun hg => yq (y_not (ev_g rfl hg))) rfl rfl ?_
      refine TQ.op (yq (y_or (ev_t rfl) (fun hq => (ev_g rfl hq)))) rfl rfl rfl ?_
      refine TQ.nil ?_
      refine TN.seq ?_
      refine TC.cond (b := (((!(F_spec_l6Config (m.length : Int) (configs.getD k12_1 []))) || (!decide (((configs.getD k12_1 []).length : Int) = (start.length : Int)))) || (!(F_spec_l1Has (configs.getD k12_1 []) (reqs.getD k12_1 0))))) (ev_t rfl) (fun h41 => ?_) (fun h41 => ?_)
      · rw [bif_pos h41] at hL1
        have q42 := ((or_t h41).imp (fun h => ((or_t h).imp (fun h => (not_t h)) (fun h => (of_decide_eq_false (not_t h))))) (fun h => (l1Has_f (not_t h))))
        refine TC.seq ?_
        refine TC.region ?_
        refine TL.op (yq (y_assign ev_c)) rfl rfl rfl ?_
        refine TL.op (yq (y_assign ev_c)) rfl rfl rfl ?_
        refine TL.nil ?_
        refine TN.seq ?_
        refine TC.ret ?_
        refine TN.thenR ?_
        refine TN.blockR ?_
        refine TN.thenR ?_
        refine TN.thenR ?_
        rw [← hL1, elim_ret] at hF
        refine TN.blockR ?_
        refine TN.thenR ?_
        subst hF
        exact TN.ret2 rfl (ev_t rfl) (ev_t rfl) (fun w' hw => ⟨rfl, Hp.sublist hw (List.nil_sublist _)⟩)
      · rw [bif_neg h41] at hL1
        have q42 := (and_imp (or_f h41) (fun h => (and_imp (or_f h) (fun h => (l6Config_t (not_f h))) (fun h => (of_decide_eq_true (not_f h))))) (fun h => (not_f h)))
        have hc2 := q42.1.1
        have hmc := l6Move_le hS.tp hi1_3 hc2 (by omega)
        refine TC.skip ?_
        refine TN.seq ?_
        refine TC.seq ?_
        refine TC.regionQ (by kernel_rfl) (by kernel_rfl) dr_hp ?_
        refine TQ.op (yq (y_move (ev_t rfl))) rfl rfl rfl ?_
        refine TQ.op (yq (y_ldagg (cs := [vm]) 0 (ev_t rfl) agg_29 rfl)) rfl rfl rfl ?_
        refine TQ.op (yq (y_move (ev_t rfl))) rfl rfl rfl ?_
        refine TQ.op (yq (y_move (ev_t rfl))) rfl rfl rfl ?_
        refine TQ.op (yq (y_move (ev_t rfl))) rfl rfl rfl ?_
        have hb43 : k12_1 < configs.length := (by first | omega | (simp only [List.length_set, List.length_append, List.length_cons, List.length_nil, List.length_replicate]; omega))
        refine TQ.op (yq (y_idx (k := k12_1) (ev_t rfl) (ev_t rfl) (by omega) slT_22 (fun w hw => ((rii_arg hconfigs) w hw).1) hb43)) rfl rfl rfl ?_
        have ha44 := hconfigs.row (i := k12_1) hb43
        refine TQ.op (yq (y_ldA (ev_t rfl) one_25 (rii_arg hconfigs) hb43)) rfl rfl rfl ?_
        refine TQ.op (y_call (vs := [(.agg #[vm]), vk11_1, (uconfigs.getD k12_1 undef)]) (v := (.int .i64 (F_spec_l6Move m k11_1 (configs.getD k12_1 [])))) en_79 ⟨(ev_t rfl), (ev_t rfl), (ev_t rfl), trivial⟩ (fun w hw => spec_l6Move_ok w vm um m ((rii_arg hm) w hw) vk11_1 k11_1 ((ri_arg hrk11_1) w hw) (uconfigs.getD k12_1 undef) (configs.getD k12_1 []) ((ri_arg ha44) w hw) (by first | assumption | omega | grind) (by first | assumption | omega | grind) (by first | assumption | omega | grind) (by first | assumption | omega | grind))) rfl rfl rfl ?_
        refine TQ.op (yq (y_add (ev_t rfl) (ev_t rfl) (by unfold In64; omega))) rfl rfl rfl ?_
        refine TQ.op (yq (y_assign (ev_t rfl))) rfl rfl rfl ?_
        refine TQ.nil ?_
        refine TN.seq ?_
        refine TC.region ?_
        refine TL.op (yq (y_move (ev_t rfl))) rfl rfl rfl ?_
        refine TL.op (yq (y_move (ev_t rfl))) rfl rfl rfl ?_
        have hb45 : k12_1 < configs.length := (by first | omega | (simp only [List.length_set, List.length_append, List.length_cons, List.length_nil, List.length_replicate]; omega))
        refine TL.op (yq (y_idx (k := k12_1) (ev_t rfl) (ev_t rfl) (by omega) slT_22 (fun w hw => ((rii_arg hconfigs) w hw).1) hb45)) rfl rfl rfl ?_
        have ha46 := hconfigs.row (i := k12_1) hb45
        refine TL.op (yq (y_ldA (ev_t rfl) one_25 (rii_arg hconfigs) hb45)) rfl rfl rfl ?_
        refine TL.op (yq (y_assign (ev_t rfl))) rfl rfl rfl ?_
        refine TL.nil ?_
        refine TN.blockN ?_
        refine TN.seq ?_
        refine TC.region ?_
        refine TL.op (yq (y_move (ev_t rfl))) rfl rfl rfl ?_
        refine TL.op (yq (y_add (ev_t rfl) ev_c (by unfold In64; omega))) rfl rfl rfl ?_
        refine TL.op (yq (y_assign (ev_t rfl))) rfl rfl rfl ?_
        refine TL.nil ?_
        exact TN.hand (mf1, k10_1 + (F_spec_l6Move m k11_1 (configs.getD k12_1 [])), (configs.getD k12_1 []), (k12_1 + 1), (uconfigs.getD k12_1 undef)) ⟨(by first | omega | (simp [-List.getD_eq_getElem?_getD] <;> omega)), (by first | omega | (simp [-List.getD_eq_getElem?_getD] <;> omega)), (by first | omega | (simp [-List.getD_eq_getElem?_getD] <;> omega)), hc2, (by first | omega | (simp [-List.getD_eq_getElem?_getD] <;> omega)), ha46, (by omega), hL1⟩ (Nat.lt_succ_self _) ⟨rfl, rfl, rfl, rfl, rfl, rfl, rfl, trivial⟩ (fun w hw => hw)
    · rw [bif_neg h37] at hL1
      have q38 := (of_decide_eq_false h37)
      refine TC.exit ?_
      refine TN.thenE ?_
      refine TN.thenE ?_
      rw [← hL1, elim_next] at hF
      try dsimp only at hF
      refine TN.blockH ?_
      refine TN.seq ?_
      refine TC.seq ?_
      refine TC.region ?_
      refine TL.op (yq (y_move (ev_t rfl))) rfl rfl rfl ?_
      refine TL.op (yq (y_assign (ev_t rfl))) rfl rfl rfl ?_
      refine TL.op (yq (y_assign ev_c)) rfl rfl rfl ?_
      refine TL.nil ?_
      refine TN.seq ?_
      refine TC.ret ?_
      subst hF
      exact TN.ret2 rfl (ev_t rfl) (ev_t rfl) (fun w' hw => ⟨rfl, Hp.sublist hw (List.nil_sublist _)⟩)

set_option maxRecDepth 4000 in
set_option maxHeartbeats 1000000 in
theorem laws_FnExactScheduleMoves_ok (w : World) (vm : Value) (um : List Value) (m : List (List Int)) (hm : RII w vm um m) (vstart : Value) (start : List Int) (hstart : RI w vstart start) (vreqs : Value) (reqs : List Int) (hreqs : RI w vreqs reqs) (vconfigs : Value) (uconfigs : List Value) (configs : List (List Int)) (hconfigs : RII w vconfigs uconfigs configs)  :
    Calls Try.prog 10 ([(.agg #[vm]), vstart, vreqs, vconfigs] : List Value).toArray w (Ret (.bool (F_laws_FnExactScheduleMoves m start reqs configs)) (Hp w [])) := by
  obtain ⟨rz, hF⟩ : ∃ rz, (F_laws_FnExactScheduleMoves m start reqs configs) = rz := ⟨_, rfl⟩
  rw [hF]
  unfold F_laws_FnExactScheduleMoves at hF
  have hta := toIntS_eq start
  have htb := toIntS_eq reqs
  have htc := toIntSS_eq configs
  have hlen_m := argT_len hm
  have hlen_start := arg_len hstart
  have hlen_reqs := arg_len hreqs
  have hlen_configs := argT_len hconfigs
  refine calls_tc Try.func10 rfl rfl rfl ?_
  change TC _ _ _ _ (Hp w []) [(0, (.agg #[vm])), (1, vstart), (2, vreqs), (3, vconfigs)]
  refine TC.seq ?_
  refine TC.region ?_
  refine TL.box (ev_t rfl) rfl (fun g0_0 => ?_)
  refine TL.op (yq (y_assign ev_c)) rfl rfl rfl ?_
  refine TL.nil ?_
  refine TN.seq ?_
  refine TC.seq ?_
  refine TC.seq ?_
  refine TC.region ?_
  refine TL.op (yq (y_move (ev_t rfl))) rfl rfl rfl ?_
  refine TL.op (yq (y_len (ev_t rfl) Try.underlying25 (fun w hw => ((ri_arg hstart) w hw).ln))) rfl rfl rfl ?_
  refine TL.op (yq (y_gtr (ev_t rfl) ev_c)) rfl rfl rfl ?_
  refine TL.nil ?_
  refine TN.seq ?_
  refine TC.cond (b := decide (1048576 < (start.length : Int))) (ev_t rfl) (fun h19 => ?_) (fun h19 => ?_)
  · rw [bif_pos h19] at hF
    have q20 := (of_decide_eq_true h19)
    refine TC.seq ?_
    refine TC.region ?_
    refine TL.op (yq (y_assign ev_c)) rfl rfl rfl ?_
    refine TL.nil ?_
    refine TN.seq ?_
    refine TC.ret ?_
    refine TN.thenR ?_
    subst hF
    exact TN.ret1 rfl (ev_t rfl) (fun w' hw => ⟨rfl, Hp.sublist hw (List.nil_sublist _)⟩)
  · rw [bif_neg h19] at hF
    have q20 := (of_decide_eq_false h19)
    refine TC.skip ?_
    refine TN.seq ?_
    refine TC.seq ?_
    refine TC.seq ?_
    refine TC.region ?_
    refine TL.op (yq (y_move (ev_t rfl))) rfl rfl rfl ?_
    refine TL.op (yq (y_len (ev_t rfl) Try.underlying25 (fun w hw => ((ri_arg hreqs) w hw).ln))) rfl rfl rfl ?_
    refine TL.op (yq (y_gtr (ev_t rfl) ev_c)) rfl rfl rfl ?_
    refine TL.nil ?_
    refine TN.seq ?_
    refine TC.cond (b := decide (1048576 < (reqs.length : Int))) (ev_t rfl) (fun h21 => ?_) (fun h21 => ?_)
    · rw [bif_pos h21] at hF
      have q22 := (of_decide_eq_true h21)
      refine TC.seq ?_
      refine TC.region ?_
      refine TL.op (yq (y_assign ev_c)) rfl rfl rfl ?_
      refine TL.nil ?_
      refine TN.seq ?_
      refine TC.ret ?_
      refine TN.thenR ?_
      subst hF
      exact TN.ret1 rfl (ev_t rfl) (fun w' hw => ⟨rfl, Hp.sublist hw (List.nil_sublist _)⟩)
    · rw [bif_neg h21] at hF
      have q22 := (of_decide_eq_false h21)
      refine TC.skip ?_
      refine TN.seq ?_
      refine TC.seq ?_
      refine TC.region ?_
      refine TL.op (yq (y_assign ev_c)) rfl rfl rfl ?_
      refine TL.nil ?_
      refine TN.seq ?_
      refine TC.seq ?_
      refine TC.region ?_
      refine TL.op (yq (y_ldagg (cs := [vm]) 0 (ev_t rfl) agg_24 rfl)) rfl rfl rfl ?_
      refine TL.op (yq (y_move (ev_t rfl))) rfl rfl rfl ?_
      refine TL.op (y_call (vs := [(.agg #[vm]), (.int .i64 1048576)]) (v := (.int .i64 (F_laws_szMetric m 1048576))) en_15 ⟨(ev_t rfl), (ev_t rfl), trivial⟩ (fun w hw => laws_szMetric_ok w vm um m ((rii_arg hm) w hw) 1048576 (by first | assumption | omega | grind) (by first | assumption | omega | grind))) rfl rfl rfl ?_
      refine TL.op (yq (y_assign (ev_t rfl))) rfl rfl rfl ?_
      refine TL.nil ?_
      refine TN.seq ?_
      refine TC.seq ?_
      refine TC.seq ?_
      refine TC.region ?_
      refine TL.op (yq (y_move (ev_t rfl))) rfl rfl rfl ?_
      refine TL.op (yq (y_lss (ev_t rfl) ev_c)) rfl rfl rfl ?_
      refine TL.nil ?_
      refine TN.seq ?_
      refine TC.cond (b := decide ((F_laws_szMetric m 1048576) < 0)) (ev_t rfl) (fun h23 => ?_) (fun h23 => ?_)
      · rw [bif_pos h23] at hF
        have q24 := (of_decide_eq_true h23)
        refine TC.seq ?_
        refine TC.region ?_
        refine TL.op (yq (y_assign ev_c)) rfl rfl rfl ?_
        refine TL.nil ?_
        refine TN.seq ?_
        refine TC.ret ?_
        refine TN.thenR ?_
        subst hF
        exact TN.ret1 rfl (ev_t rfl) (fun w' hw => ⟨rfl, Hp.sublist hw (List.nil_sublist _)⟩)
      · rw [bif_neg h23] at hF
        have q24 := (of_decide_eq_false h23)
        have hsz := szMetric_t (m := m) (left := 1048576) (by omega)
        have hsz1 : ∀ i, (m.getD i []).length ≤ 1048576 := fun i => by have := hsz.2 i; omega
        have hsz2 : m.length + total m ≤ 1048576 := by have := hsz.1; omega
        have htm := toMetric_eq m
        have hsze := szMetric_e (m := m) (left := 1048576) (by omega)
        refine TC.skip ?_
        refine TN.seq ?_
        refine TC.seq ?_
        refine TC.region ?_
        refine TL.op (yq (y_move (ev_t rfl))) rfl rfl rfl ?_
        refine TL.op (yq (y_move (ev_t rfl))) rfl rfl rfl ?_
        refine TL.op (y_call (vs := [vconfigs, (.int .i64 (F_laws_szMetric m 1048576))]) (v := (.int .i64 (F_laws_szIntSS configs (F_laws_szMetric m 1048576)))) en_41 ⟨(ev_t rfl), (ev_t rfl), trivial⟩ (fun w hw => laws_szIntSS_ok w vconfigs uconfigs configs ((rii_arg hconfigs) w hw) (F_laws_szMetric m 1048576) (by first | assumption | omega | grind) (by first | assumption | omega | grind))) rfl rfl rfl ?_
        refine TL.op (yq (y_assign (ev_t rfl))) rfl rfl rfl ?_
        refine TL.nil ?_
        refine TN.seq ?_
        refine TC.seq ?_
        refine TC.seq ?_
        refine TC.region ?_
        refine TL.op (yq (y_move (ev_t rfl))) rfl rfl rfl ?_
        refine TL.op (yq (y_lss (ev_t rfl) ev_c)) rfl rfl rfl ?_
        refine TL.nil ?_
        refine TN.seq ?_
        refine TC.cond (b := decide ((F_laws_szIntSS configs (F_laws_szMetric m 1048576)) < 0)) (ev_t rfl) (fun h25 => ?_) (fun h25 => ?_)
        · rw [bif_pos h25] at hF
          have q26 := (of_decide_eq_true h25)
          refine TC.seq ?_
          refine TC.region ?_
          refine TL.op (yq (y_assign ev_c)) rfl rfl rfl ?_
          refine TL.nil ?_
          refine TN.seq ?_
          refine TC.ret ?_
          refine TN.thenR ?_
          subst hF
          exact TN.ret1 rfl (ev_t rfl) (fun w' hw => ⟨rfl, Hp.sublist hw (List.nil_sublist _)⟩)
        · rw [bif_neg h25] at hF
          have q26 := (of_decide_eq_false h25)
          have hss := szIntSS_t configs (F_laws_szMetric m 1048576) (by omega)
          have hss1 : ∀ i, (configs.getD i []).length ≤ 1048576 := fun i => by have := row_le_total configs i; omega
          refine TC.skip ?_
          refine TN.seq ?_
          refine TC.seq ?_
          refine TC.region ?_
          refine TL.op (yq (y_ldagg (cs := [vm]) 0 (ev_t rfl) agg_24 rfl)) rfl rfl rfl ?_
          refine TL.callr (ι := Value × List Value) (vs := [(.agg #[vm])]) (fun i => (.agg #[i.1])) (fun i => [tabI 25 3 i.1 i.2 (F_laws_toMetric m)]) en_17 ⟨(ev_t rfl), trivial⟩ rfl (fun w hw => laws_toMetric_ok w vm um m ((rii_arg hm) w hw) (by first | assumption | omega | grind) (by first | assumption | omega | grind)) (fun r12_1 => ?_)
          refine TL.op (yq (y_move (ev_t rfl))) rfl rfl rfl ?_
          refine TL.callr (ι := Value) (vs := [vstart]) (fun i => i) (fun i => [rowI 3 i (F_laws_toIntS start)]) en_18 ⟨(ev_t rfl), trivial⟩ rfl (fun w hw => laws_toIntS_ok w vstart start ((ri_arg hstart) w hw) (by first | assumption | omega | grind)) (fun r12_3 => ?_)
          refine TL.op (yq (y_move (ev_t rfl))) rfl rfl rfl ?_
          refine TL.callr (ι := Value) (vs := [vreqs]) (fun i => i) (fun i => [rowI 3 i (F_laws_toIntS reqs)]) en_18 ⟨(ev_t rfl), trivial⟩ rfl (fun w hw => laws_toIntS_ok w vreqs reqs ((ri_arg hreqs) w hw) (by first | assumption | omega | grind)) (fun r12_5 => ?_)
          refine TL.op (yq (y_move (ev_t rfl))) rfl rfl rfl ?_
          refine TL.callr (ι := Value × List Value) (vs := [vconfigs]) (fun i => i.1) (fun i => [tabI 25 3 i.1 i.2 (F_laws_toIntSS configs)]) en_43 ⟨(ev_t rfl), trivial⟩ rfl (fun w hw => laws_toIntSS_ok w vconfigs uconfigs configs ((rii_arg hconfigs) w hw) (by first | assumption | omega | grind) (by first | assumption | omega | grind)) (fun r12_7 => ?_)
          refine TL.op (y_call (vs := [(.agg #[r12_1.1]), r12_3, r12_5, r12_7.1]) (v := (.tuple #[(.int .i64 ((F_spec_ScheduleMoves (F_laws_toMetric m) (F_laws_toIntS start) (F_laws_toIntS reqs) (F_laws_toIntSS configs)).1)), (.bool ((F_spec_ScheduleMoves (F_laws_toMetric m) (F_laws_toIntS start) (F_laws_toIntS reqs) (F_laws_toIntSS configs)).2))])) en_42 ⟨(ev_t rfl), (ev_t rfl), (ev_t rfl), (ev_t rfl), trivial⟩ (fun w hw => spec_ScheduleMoves_ok w r12_1.1 r12_1.2 (F_laws_toMetric m) ((rii_tab 3 rfl) w hw) r12_3 (F_laws_toIntS start) ((ri_row 2 rfl) w hw) r12_5 (F_laws_toIntS reqs) ((ri_row 1 rfl) w hw) r12_7.1 r12_7.2 (F_laws_toIntSS configs) ((rii_tab 0 rfl) w hw))) rfl rfl rfl ?_
          refine TL.op (yq (y_move (ev_t rfl))) rfl rfl rfl ?_
          refine TL.op (yq (y_extract (ev_t rfl) rfl)) rfl rfl rfl ?_
          refine TL.op (yq (y_extract (ev_t rfl) rfl)) rfl rfl rfl ?_
          refine TL.op (yq (y_assign (ev_t rfl))) rfl rfl rfl ?_
          refine TL.op (yq (y_assign (ev_t rfl))) rfl rfl rfl ?_
          refine TL.nil ?_
          refine TN.seq ?_
          refine TC.seq ?_
          refine TC.region ?_
          refine TL.op (yq (y_ldagg (cs := [vm]) 4 (ev_t rfl) agg_24 rfl)) rfl rfl rfl ?_
          refine TL.callr (ι := Value × List Value) (vs := [(.agg #[vm])]) (fun i => (.agg #[i.1])) (fun i => [tabI 25 3 i.1 i.2 (F_laws_toMetric m)]) en_17 ⟨(ev_t rfl), trivial⟩ rfl (fun w hw => laws_toMetric_ok w vm um m ((rii_arg hm) w hw) (by first | assumption | omega | grind) (by first | assumption | omega | grind)) (fun r13_1 => ?_)
          refine TL.alloc (u := (.agg #[(.slice none 0 0)])) (by kernel_rfl) rfl (fun g13_2 => ?_)
          refine TL.storeAgg (cs := [(.slice none 0 0)]) (us := [r13_1.1]) 0 (ev_t rfl) (ev_t rfl) agg_29 rfl rfl (fun w hw => (ocs_cons (ln_one ((fun w hw => ((rii_tab 1 rfl) w hw).1) w hw).ln) ocs_nil)) ?_
          refine TL.nil ?_
          refine TN.seq ?_
          refine TC.seq ?_
          refine TC.region ?_
          refine TL.op (yq (y_move (ev_t rfl))) rfl rfl rfl ?_
          refine TL.callr (ι := Value) (vs := [vstart]) (fun i => i) (fun i => [rowI 3 i (F_laws_toIntS start)]) en_18 ⟨(ev_t rfl), trivial⟩ rfl (fun w hw => laws_toIntS_ok w vstart start ((ri_arg hstart) w hw) (by first | assumption | omega | grind)) (fun r14_1 => ?_)
          refine TL.op (yq (y_assign (ev_t rfl))) rfl rfl rfl ?_
          refine TL.nil ?_
          refine TN.seq ?_
          refine TC.seq ?_
          refine TC.region ?_
          refine TL.op (yq (y_move (ev_t rfl))) rfl rfl rfl ?_
          refine TL.callr (ι := Value) (vs := [vreqs]) (fun i => i) (fun i => [rowI 3 i (F_laws_toIntS reqs)]) en_18 ⟨(ev_t rfl), trivial⟩ rfl (fun w hw => laws_toIntS_ok w vreqs reqs ((ri_arg hreqs) w hw) (by first | assumption | omega | grind)) (fun r15_1 => ?_)
          refine TL.op (yq (y_assign (ev_t rfl))) rfl rfl rfl ?_
          refine TL.nil ?_
          refine TN.seq ?_
          refine TC.seq ?_
          refine TC.region ?_
          refine TL.op (yq (y_move (ev_t rfl))) rfl rfl rfl ?_
          refine TL.callr (ι := Value × List Value) (vs := [vconfigs]) (fun i => i.1) (fun i => [tabI 25 3 i.1 i.2 (F_laws_toIntSS configs)]) en_43 ⟨(ev_t rfl), trivial⟩ rfl (fun w hw => laws_toIntSS_ok w vconfigs uconfigs configs ((rii_arg hconfigs) w hw) (by first | assumption | omega | grind) (by first | assumption | omega | grind)) (fun r16_1 => ?_)
          refine TL.op (yq (y_assign (ev_t rfl))) rfl rfl rfl ?_
          refine TL.nil ?_
          refine TN.seq ?_
          refine TC.seq ?_
          refine TC.region ?_
          refine TL.op (yq (y_ldagg (cs := [r13_1.1]) 3 (ev_t rfl) agg_29 rfl)) rfl rfl rfl ?_
          refine TL.op (yq (y_move (ev_t rfl))) rfl rfl rfl ?_
          refine TL.op (yq (y_move (ev_t rfl))) rfl rfl rfl ?_
          refine TL.op (yq (y_move (ev_t rfl))) rfl rfl rfl ?_
          refine TL.op (y_call (vs := [(.agg #[r13_1.1]), r14_1, r15_1, r16_1.1]) (v := (.tuple #[(.int .i64 ((F_impl_ScheduleMoves (F_laws_toMetric m) (F_laws_toIntS start) (F_laws_toIntS reqs) (F_laws_toIntSS configs)).1)), (.bool ((F_impl_ScheduleMoves (F_laws_toMetric m) (F_laws_toIntS start) (F_laws_toIntS reqs) (F_laws_toIntSS configs)).2))])) en_44 ⟨(ev_t rfl), (ev_t rfl), (ev_t rfl), (ev_t rfl), trivial⟩ (fun w hw => impl_ScheduleMoves_ok w r13_1.1 r13_1.2 (F_laws_toMetric m) ((rii_tab 4 rfl) w hw) r14_1 (F_laws_toIntS start) ((ri_row 2 rfl) w hw) r15_1 (F_laws_toIntS reqs) ((ri_row 1 rfl) w hw) r16_1.1 r16_1.2 (F_laws_toIntSS configs) ((rii_tab 0 rfl) w hw))) rfl rfl rfl ?_
          refine TL.op (yq (y_move (ev_t rfl))) rfl rfl rfl ?_
          refine TL.op (yq (y_extract (ev_t rfl) rfl)) rfl rfl rfl ?_
          refine TL.op (yq (y_extract (ev_t rfl) rfl)) rfl rfl rfl ?_
          refine TL.op (yq (y_assign (ev_t rfl))) rfl rfl rfl ?_
          refine TL.op (yq (y_assign (ev_t rfl))) rfl rfl rfl ?_
          refine TL.nil ?_
          refine TN.seq ?_
          refine TC.seq ?_
          refine TC.seq ?_
          refine TC.region ?_
          refine TL.op (yq (y_move (ev_t rfl))) rfl rfl rfl ?_
          refine TL.op (yq (y_move (ev_t rfl))) rfl rfl rfl ?_
          refine TL.op (yq (y_neq (ev_t rfl) (ev_t rfl))) rfl rfl rfl ?_
          refine TL.op (yq (y_move (ev_t rfl))) rfl rfl rfl ?_
          refine TL.opw (w_f rfl rfl rfl) (fun hg => yq (y_move (ev_t rfl))) rfl rfl ?_
          refine TL.opw (w_f rfl rfl rfl) (fun hg => yq (y_move (ev_t rfl))) rfl rfl ?_
          refine TL.opw (w_f rfl rfl rfl) (fun hg => yq (y_bneq (ev_g rfl hg) (ev_g rfl hg) Try.underlying4)) rfl rfl ?_
          refine TL.op (yq (y_or (ev_t rfl) (fun hq => (ev_g rfl hq)))) rfl rfl rfl ?_
          refine TL.nil ?_
          refine TN.seq ?_
          refine TC.cond (b := ((!decide ((F_impl_ScheduleMoves (F_laws_toMetric m) (F_laws_toIntS start) (F_laws_toIntS reqs) (F_laws_toIntSS configs)).1 = (F_spec_ScheduleMoves (F_laws_toMetric m) (F_laws_toIntS start) (F_laws_toIntS reqs) (F_laws_toIntSS configs)).1)) || (((F_impl_ScheduleMoves (F_laws_toMetric m) (F_laws_toIntS start) (F_laws_toIntS reqs) (F_laws_toIntSS configs)).2) != ((F_spec_ScheduleMoves (F_laws_toMetric m) (F_laws_toIntS start) (F_laws_toIntS reqs) (F_laws_toIntSS configs)).2)))) (ev_t rfl) (fun h27 => ?_) (fun h27 => ?_)
          · rw [bif_pos h27] at hF
            have q28 := ((or_t h27).imp (fun h => (of_decide_eq_false (not_t h))) (fun h => h))
            refine TC.seq ?_
            refine TC.region ?_
            refine TL.op (yq (y_assign ev_c)) rfl rfl rfl ?_
            refine TL.nil ?_
            refine TN.seq ?_
            refine TC.ret ?_
            refine TN.thenR ?_
            subst hF
            exact TN.ret1 rfl (ev_t rfl) (fun w' hw => ⟨rfl, Hp.sublist hw (List.nil_sublist _)⟩)
          · rw [bif_neg h27] at hF
            have q28 := (and_imp (or_f h27) (fun h => (of_decide_eq_true (not_f h))) (fun h => h))
            refine TC.skip ?_
            refine TN.seq ?_
            refine TC.seq ?_
            refine TC.seq ?_
            refine TC.regionH 5 (Hp w [tabI 25 3 r16_1.1 r16_1.2 (F_laws_toIntSS configs), rowI 3 r15_1 (F_laws_toIntS reqs), rowI 3 r14_1 (F_laws_toIntS start), .blk g13_2 29 [r13_1.1], tabI 25 3 r13_1.1 r13_1.2 (F_laws_toMetric m), tabI 25 3 r12_7.1 r12_7.2 (F_laws_toIntSS configs), rowI 3 r12_5 (F_laws_toIntS reqs), rowI 3 r12_3 (F_laws_toIntS start), tabI 25 3 r12_1.1 r12_1.2 (F_laws_toMetric m), .blk g0_0 24 [vm]]) rfl (by kernel_rfl) dr_hp (fun w hw => hw) ?_
            refine TH.take 0 rfl (by kernel_rfl) (y_ldagg (cs := [r13_1.1]) 3 (ev_t rfl) agg_29 rfl) rfl rfl rfl ?_
            refine TH.take 1 rfl (by kernel_rfl) (y_ldagg (cs := [vm]) 9 (ev_t rfl) agg_24 rfl) rfl rfl rfl ?_
            refine TH.loud 2 rfl (by kernel_rfl) ?_
            refine TL.callr (ι := Value × List Value) (vs := [(.agg #[vm])]) (fun i => (.agg #[i.1])) (fun i => [tabI 25 3 i.1 i.2 (F_laws_toMetric m)]) en_17 ⟨(ev_t rfl), trivial⟩ rfl (fun w hw => laws_toMetric_ok w vm um m ((rii_arg hm) w hw) (by first | assumption | omega | grind) (by first | assumption | omega | grind)) (fun r20_2 => ?_)
            refine TL.nil ?_
            refine TH.back (fun w hw => Hp.sublist hw (.cons _ (.cons_cons _ (.cons_cons _ (.cons_cons _ (.cons_cons _ (.cons_cons _ (.cons_cons _ (.cons_cons _ (.cons_cons _ (.cons_cons _ (.cons_cons _ .slnil)))))))))))) ?_
            refine TH.loud 3 rfl (by kernel_rfl) ?_
            refine TL.op (y_call (vs := [(.agg #[r13_1.1]), (.agg #[r20_2.1])]) (v := (.bool (F_laws_eqMetric (F_laws_toMetric m) (F_laws_toMetric m)))) en_20 ⟨(ev_t rfl), (ev_t rfl), trivial⟩ (fun w hw => laws_eqMetric_ok w r13_1.1 r13_1.2 (F_laws_toMetric m) ((rii_tab 5 rfl) w hw) r20_2.1 r20_2.2 (F_laws_toMetric m) ((rii_tab 0 rfl) w hw))) rfl rfl rfl ?_
            refine TL.nil ?_
            refine TH.back (fun w hw => Hp.sublist hw (.cons _ (.cons_cons _ (.cons_cons _ (.cons_cons _ (.cons_cons _ (.cons_cons _ (.cons_cons _ (.cons_cons _ (.cons_cons _ (.cons_cons _ (.cons_cons _ .slnil)))))))))))) ?_
            refine TH.take 4 rfl (by kernel_rfl) (y_not (ev_t rfl)) rfl rfl rfl ?_
            refine TH.done (by kernel_rfl) ?_
            refine TN.seq ?_
            refine TC.cond (b := !(F_laws_eqMetric (F_laws_toMetric m) (F_laws_toMetric m))) (ev_t rfl) (fun h29 => ?_) (fun h29 => ?_)
            · rw [bif_pos h29] at hF
              have q30 := (not_t h29)
              refine TC.seq ?_
              refine TC.region ?_
              refine TL.op (yq (y_assign ev_c)) rfl rfl rfl ?_
              refine TL.nil ?_
              refine TN.seq ?_
              refine TC.ret ?_
              refine TN.thenR ?_
              subst hF
              exact TN.ret1 rfl (ev_t rfl) (fun w' hw => ⟨rfl, Hp.sublist hw (List.nil_sublist _)⟩)
            · rw [bif_neg h29] at hF
              have q30 := (not_f h29)
              refine TC.skip ?_
              refine TN.seq ?_
              refine TC.seq ?_
              refine TC.seq ?_
              refine TC.region ?_
              refine TL.op (yq (y_move (ev_t rfl))) rfl rfl rfl ?_
              refine TL.op (yq (y_move (ev_t rfl))) rfl rfl rfl ?_
              refine TL.callr (ι := Value) (vs := [vstart]) (fun i => i) (fun i => [rowI 3 i (F_laws_toIntS start)]) en_18 ⟨(ev_t rfl), trivial⟩ rfl (fun w hw => laws_toIntS_ok w vstart start ((ri_arg hstart) w hw) (by first | assumption | omega | grind)) (fun r22_2 => ?_)
              refine TL.op (y_call (vs := [r14_1, r22_2]) (v := (.bool (F_laws_eqIntS (F_laws_toIntS start) (F_laws_toIntS start)))) en_21 ⟨(ev_t rfl), (ev_t rfl), trivial⟩ (fun w hw => laws_eqIntS_ok w r14_1 (F_laws_toIntS start) ((ri_row 4 rfl) w hw) r22_2 (F_laws_toIntS start) ((ri_row 0 rfl) w hw))) rfl rfl rfl ?_
              refine TL.op (yq (y_not (ev_t rfl))) rfl rfl rfl ?_
              refine TL.nil ?_
              refine TN.seq ?_
              refine TC.cond (b := !(F_laws_eqIntS (F_laws_toIntS start) (F_laws_toIntS start))) (ev_t rfl) (fun h31 => ?_) (fun h31 => ?_)
              · rw [bif_pos h31] at hF
                have q32 := (not_t h31)
                refine TC.seq ?_
                refine TC.region ?_
                refine TL.op (yq (y_assign ev_c)) rfl rfl rfl ?_
                refine TL.nil ?_
                refine TN.seq ?_
                refine TC.ret ?_
                refine TN.thenR ?_
                subst hF
                exact TN.ret1 rfl (ev_t rfl) (fun w' hw => ⟨rfl, Hp.sublist hw (List.nil_sublist _)⟩)
              · rw [bif_neg h31] at hF
                have q32 := (not_f h31)
                refine TC.skip ?_
                refine TN.seq ?_
                refine TC.seq ?_
                refine TC.seq ?_
                refine TC.region ?_
                refine TL.op (yq (y_move (ev_t rfl))) rfl rfl rfl ?_
                refine TL.op (yq (y_move (ev_t rfl))) rfl rfl rfl ?_
                refine TL.callr (ι := Value) (vs := [vreqs]) (fun i => i) (fun i => [rowI 3 i (F_laws_toIntS reqs)]) en_18 ⟨(ev_t rfl), trivial⟩ rfl (fun w hw => laws_toIntS_ok w vreqs reqs ((ri_arg hreqs) w hw) (by first | assumption | omega | grind)) (fun r24_2 => ?_)
                refine TL.op (y_call (vs := [r15_1, r24_2]) (v := (.bool (F_laws_eqIntS (F_laws_toIntS reqs) (F_laws_toIntS reqs)))) en_21 ⟨(ev_t rfl), (ev_t rfl), trivial⟩ (fun w hw => laws_eqIntS_ok w r15_1 (F_laws_toIntS reqs) ((ri_row 4 rfl) w hw) r24_2 (F_laws_toIntS reqs) ((ri_row 0 rfl) w hw))) rfl rfl rfl ?_
                refine TL.op (yq (y_not (ev_t rfl))) rfl rfl rfl ?_
                refine TL.nil ?_
                refine TN.seq ?_
                refine TC.cond (b := !(F_laws_eqIntS (F_laws_toIntS reqs) (F_laws_toIntS reqs))) (ev_t rfl) (fun h33 => ?_) (fun h33 => ?_)
                · rw [bif_pos h33] at hF
                  have q34 := (not_t h33)
                  refine TC.seq ?_
                  refine TC.region ?_
                  refine TL.op (yq (y_assign ev_c)) rfl rfl rfl ?_
                  refine TL.nil ?_
                  refine TN.seq ?_
                  refine TC.ret ?_
                  refine TN.thenR ?_
                  subst hF
                  exact TN.ret1 rfl (ev_t rfl) (fun w' hw => ⟨rfl, Hp.sublist hw (List.nil_sublist _)⟩)
                · rw [bif_neg h33] at hF
                  have q34 := (not_f h33)
                  refine TC.skip ?_
                  refine TN.seq ?_
                  refine TC.seq ?_
                  refine TC.seq ?_
                  refine TC.region ?_
                  refine TL.op (yq (y_move (ev_t rfl))) rfl rfl rfl ?_
                  refine TL.op (yq (y_move (ev_t rfl))) rfl rfl rfl ?_
                  refine TL.callr (ι := Value × List Value) (vs := [vconfigs]) (fun i => i.1) (fun i => [tabI 25 3 i.1 i.2 (F_laws_toIntSS configs)]) en_43 ⟨(ev_t rfl), trivial⟩ rfl (fun w hw => laws_toIntSS_ok w vconfigs uconfigs configs ((rii_arg hconfigs) w hw) (by first | assumption | omega | grind) (by first | assumption | omega | grind)) (fun r26_2 => ?_)
                  refine TL.op (y_call (vs := [r16_1.1, r26_2.1]) (v := (.bool (F_laws_eqIntSS (F_laws_toIntSS configs) (F_laws_toIntSS configs)))) en_31 ⟨(ev_t rfl), (ev_t rfl), trivial⟩ (fun w hw => laws_eqIntSS_ok w r16_1.1 r16_1.2 (F_laws_toIntSS configs) ((rii_tab 4 rfl) w hw) r26_2.1 r26_2.2 (F_laws_toIntSS configs) ((rii_tab 0 rfl) w hw))) rfl rfl rfl ?_
                  refine TL.op (yq (y_not (ev_t rfl))) rfl rfl rfl ?_
                  refine TL.nil ?_
                  refine TN.seq ?_
                  refine TC.cond (b := !(F_laws_eqIntSS (F_laws_toIntSS configs) (F_laws_toIntSS configs))) (ev_t rfl) (fun h35 => ?_) (fun h35 => ?_)
                  · rw [bif_pos h35] at hF
                    have q36 := (not_t h35)
                    refine TC.seq ?_
                    refine TC.region ?_
                    refine TL.op (yq (y_assign ev_c)) rfl rfl rfl ?_
                    refine TL.nil ?_
                    refine TN.seq ?_
                    refine TC.ret ?_
                    refine TN.thenR ?_
                    subst hF
                    exact TN.ret1 rfl (ev_t rfl) (fun w' hw => ⟨rfl, Hp.sublist hw (List.nil_sublist _)⟩)
                  · rw [bif_neg h35] at hF
                    have q36 := (not_f h35)
                    refine TC.skip ?_
                    refine TN.seq ?_
                    refine TC.seq ?_
                    refine TC.region ?_
                    refine TL.op (yq (y_assign ev_c)) rfl rfl rfl ?_
                    refine TL.nil ?_
                    refine TN.seq ?_
                    refine TC.ret ?_
                    subst hF
                    exact TN.ret1 rfl (ev_t rfl) (fun w' hw => ⟨rfl, Hp.sublist hw (List.nil_sublist _)⟩)

set_option maxRecDepth 4000 in
set_option maxHeartbeats 1000000 in
theorem impl_arePlaces_ok (w : World) (vl : Value) (l : List Int) (hl : RI w vl l) (many : Int)  :
    Calls Try.prog 71 ([vl, (.int .i64 many)] : List Value).toArray w (Ret (.bool (F_impl_arePlaces l many)) (Hp w [])) := by
  obtain ⟨rz, hF⟩ : ∃ rz, (F_impl_arePlaces l many) = rz := ⟨_, rfl⟩
  rw [hF]
  unfold F_impl_arePlaces at hF
  have hlen_l := arg_len hl
  refine calls_tc Try.func71 rfl rfl rfl ?_
  change TC _ _ _ _ (Hp w []) [(0, vl), (1, (.int .i64 many))]
  refine TC.seq ?_
  refine TC.region ?_
  refine TL.op (yq (y_assign ev_c)) rfl rfl rfl ?_
  refine TL.nil ?_
  refine TN.seq ?_
  refine TC.seq ?_
  refine TC.region ?_
  refine TL.op (yq (y_move (ev_t rfl))) rfl rfl rfl ?_
  refine TL.op (yq (y_len (ev_t rfl) Try.underlying25 (fun w hw => ((ri_arg hl) w hw).ln))) rfl rfl rfl ?_
  refine TL.op (yq (y_move (ev_t rfl))) rfl rfl rfl ?_
  refine TL.op (yq (y_leq (ev_t rfl) (ev_t rfl))) rfl rfl rfl ?_
  refine TL.op (yq (y_move (ev_t rfl))) rfl rfl rfl ?_
  refine TL.opw (w_t rfl rfl rfl) (fun hg => yq (y_move (ev_t rfl))) rfl rfl ?_
  refine TL.opw (w_t rfl rfl rfl) (fun hg => y_call (vs := [(.int .i64 100), vl]) (v := (.bool (F_impl_areBelow 100 l))) en_102 ⟨ev_c, (ev_g rfl hg), trivial⟩ (fun w hw => impl_areBelow_ok w 100 vl l ((ri_arg hl) w hw) (by first | assumption | omega | grind) (by first | assumption | omega | grind))) rfl rfl ?_
  refine TL.op (yq (y_and (ev_t rfl) (fun hq => (ev_g rfl hq)))) rfl rfl rfl ?_
  refine TL.op (yq (y_assign (ev_t rfl))) rfl rfl rfl ?_
  refine TL.nil ?_
  refine TN.seq ?_
  refine TC.ret ?_
  subst hF
  exact TN.ret1 rfl (ev_t rfl) (fun w' hw => ⟨rfl, hw⟩)

set_option maxRecDepth 4000 in
set_option maxHeartbeats 1000000 in
theorem impl_CoverRun_ok (w : World) (vrow : Value) (row : List Int) (hrow : RI w vrow row) (vreqs : Value) (reqs : List Int) (hreqs : RI w vreqs reqs)  :
    Calls Try.prog 30 ([vrow, vreqs] : List Value).toArray w (fun e w' => ∃ i : Value × List Value, e = .returned (.tuple #[i.1, (.int .i64 ((F_impl_CoverRun row reqs).2.1)), (.bool ((F_impl_CoverRun row reqs).2.2))]) ∧ Hp w [tabI 25 3 i.1 i.2 ((F_impl_CoverRun row reqs).1)] w') := by
  obtain ⟨rz, hF⟩ : ∃ rz, (F_impl_CoverRun row reqs) = rz := ⟨_, rfl⟩
  rw [hF]
  unfold F_impl_CoverRun at hF
  have hlen_row := arg_len hrow
  have hlen_reqs := arg_len hreqs
  refine calls_tc Try.func30 rfl rfl rfl ?_
  change TC _ _ _ _ (Hp w []) [(0, vrow), (1, vreqs)]
  refine TC.seq ?_
  refine TC.region ?_
  refine TL.op (yq (y_assign ev_c)) rfl rfl rfl ?_
  refine TL.op (yq (y_assign ev_c)) rfl rfl rfl ?_
  refine TL.op (yq (y_assign ev_c)) rfl rfl rfl ?_
  refine TL.nil ?_
  refine TN.seq ?_
  refine TC.seq ?_
  refine TC.seq ?_
  refine TC.region ?_
  refine TL.op (yq (y_move (ev_t rfl))) rfl rfl rfl ?_
  refine TL.op (y_call (vs := [vrow]) (v := (.bool (F_impl_isRow row))) en_70 ⟨(ev_t rfl), trivial⟩ (fun w hw => impl_isRow_ok w vrow row ((ri_arg hrow) w hw))) rfl rfl rfl ?_
  refine TL.op (yq (y_not (ev_t rfl))) rfl rfl rfl ?_
  refine TL.op (yq (y_move (ev_t rfl))) rfl rfl rfl ?_
  refine TL.opw (w_f rfl rfl rfl) (fun hg => yq (y_move (ev_t rfl))) rfl rfl ?_
  refine TL.opw (w_f rfl rfl rfl) (fun hg => y_call (vs := [vreqs, (.int .i64 60)]) (v := (.bool (F_impl_arePlaces reqs 60))) en_71 ⟨(ev_g rfl hg), ev_c, trivial⟩ (fun w hw => impl_arePlaces_ok w vreqs reqs ((ri_arg hreqs) w hw) 60)) rfl rfl ?_
  refine TL.opw (w_f rfl rfl rfl) (fun hg => yq (y_not (ev_g rfl hg))) rfl rfl ?_
  refine TL.op (yq (y_or (ev_t rfl) (fun hq => (ev_g rfl hq)))) rfl rfl rfl ?_
  refine TL.nil ?_
  refine TN.seq ?_
  refine TC.cond (b := ((!(F_impl_isRow row)) || (!(F_impl_arePlaces reqs 60)))) (ev_t rfl) (fun h12 => ?_) (fun h12 => ?_)
  · rw [bif_pos h12] at hF
    have q13 := ((or_t h12).imp (fun h => (not_t h)) (fun h => (not_t h)))
    refine TC.seq ?_
    refine TC.region ?_
    refine TL.op (yq (y_assign ev_c)) rfl rfl rfl ?_
    refine TL.op (yq (y_assign ev_c)) rfl rfl rfl ?_
    refine TL.op (yq (y_assign ev_c)) rfl rfl rfl ?_
    refine TL.nil ?_
    refine TN.seq ?_
    refine TC.ret ?_
    refine TN.thenR ?_
    subst hF
    refine TN.cls (fun w hw => hw.nilTab 25 3) ?_
    exact TN.ret3 rfl (ev_t rfl) (ev_t rfl) (ev_t rfl) (fun w' hw => ⟨((.slice none 0 0), []), rfl, hw⟩)
  · rw [bif_neg h12] at hF
    have q13 := (and_imp (or_f h12) (fun h => (isRow_t (not_f h))) (fun h => (arePlaces_t (not_f h))))
    have hR := q13.1
    have hP := q13.2
    refine TC.skip ?_
    refine TN.seq ?_
    refine TC.seq ?_
    refine TC.region ?_
    refine TL.buildSlice (zs := []) (vs := []) slT_22 rfl trivial (by simp) rfl (by decide) rfl (fun v3_0 => ?_)
    refine TL.cls (fun w hw => hw.emptyTab 3) ?_
    refine TL.op (yq (y_assign (ev_t rfl))) rfl rfl rfl ?_
    refine TL.nil ?_
    refine TN.seq ?_
    refine TC.seq ?_
    refine TC.region ?_
    refine TL.op (yq (y_assign ev_c)) rfl rfl rfl ?_
    refine TL.nil ?_
    refine TN.seq ?_
    refine TC.seq ?_
    refine TC.seq ?_
    refine TC.region ?_
    refine TL.op (yq (y_move (ev_t rfl))) rfl rfl rfl ?_
    refine TL.op (yq (y_len (ev_t rfl) Try.underlying25 (fun w hw => ((ri_arg hreqs) w hw).ln))) rfl rfl rfl ?_
    refine TL.op (yq (y_move ev_c)) rfl rfl rfl ?_
    refine TL.nil ?_
    refine TN.seq ?_
    refine TC.block ?_
    refine TC.cls (fun w hw => hw.nil 0 1) ?_
    obtain ⟨c15, hc16⟩ : ∃ c, F_impl_CoverRun_L1 reqs ((reqs.length - 0) + 1) (row, ([]), 0, 0) = c := ⟨_, rfl⟩
    rw [hc16] at hF
    refine TC.loop (ι := Nat × List Int × List (List Int) × Int × Nat × Value × Bool × Value × List Value) (fun (fu1, row1, out1, sum1, k23_1, vrow1, orow1, vout1, uout1) => [(0, vrow1), (7, vout1), (8, (.int .i64 sum1)), (21, vreqs), (22, (.int .i64 (reqs.length : Int))), (23, (.int .i64 (k23_1 : Int)))]) (fun (fu1, row1, out1, sum1, k23_1, vrow1, orow1, vout1, uout1) => Hp w [optI 3 orow1 vrow1 row1, tabI 25 3 vout1 uout1 out1]) (fun (fu1, row1, out1, sum1, k23_1, vrow1, orow1, vout1, uout1) => (k23_1 ≤ reqs.length) ∧ (0 ≤ sum1) ∧ (sum1 ≤ 297 * (k23_1 : Int)) ∧ (Row row1) ∧ (out1.length ≤ k23_1) ∧ (orow1 = false → RI w vrow1 row1) ∧ reqs.length - k23_1 < fu1 ∧ F_impl_CoverRun_L1 reqs fu1 (row1, out1, sum1, k23_1) = c15) (fun (fu1, row1, out1, sum1, k23_1, vrow1, orow1, vout1, uout1) => fu1) ((reqs.length - 0) + 1, row, [], 0, 0, vrow, false, v3_0, []) ⟨(by first | omega | (simp [-List.getD_eq_getElem?_getD] <;> omega)), (by first | omega | (simp [-List.getD_eq_getElem?_getD] <;> omega)), (by first | omega | (simp [-List.getD_eq_getElem?_getD] <;> omega)), hR, (by first | omega | (simp [-List.getD_eq_getElem?_getD] <;> omega)), (fun _ => hrow), (by omega), hc16⟩ ⟨rfl, rfl, rfl, rfl, rfl, rfl, trivial⟩ (fun w hw => hw) ?_
    rintro ⟨fu1, row1, out1, sum1, k23_1, vrow1, orow1, vout1, uout1⟩ hJ1
    obtain ⟨hi1_0, hi1_1, hi1_2, hi1_3, hi1_4, hrrow1, hmu1, hL1⟩ : (k23_1 ≤ reqs.length) ∧ (0 ≤ sum1) ∧ (sum1 ≤ 297 * (k23_1 : Int)) ∧ (Row row1) ∧ (out1.length ≤ k23_1) ∧ (orow1 = false → RI w vrow1 row1) ∧ reqs.length - k23_1 < fu1 ∧ F_impl_CoverRun_L1 reqs fu1 (row1, out1, sum1, k23_1) = c15 := hJ1
    change TC _ _ _ _ (Hp w [optI 3 orow1 vrow1 row1, tabI 25 3 vout1 uout1 out1]) [(0, vrow1), (7, vout1), (8, (.int .i64 sum1)), (21, vreqs), (22, (.int .i64 (reqs.length : Int))), (23, (.int .i64 (k23_1 : Int)))]
    obtain ⟨mf1, rfl⟩ : ∃ m, fu1 = m + 1 := ⟨fu1 - 1, by omega⟩
    rw [F_impl_CoverRun_L1_s] at hL1
    have hre := hP.2 k23_1
    have hlr := hi1_3.1
    refine TC.seq ?_
    refine TC.region ?_
    refine TL.op (yq (y_lss (ev_t rfl) (ev_t rfl))) rfl rfl rfl ?_
    refine TL.nil ?_
    refine TN.seq ?_
    refine TC.seq ?_
    refine TC.cond (b := decide ((k23_1 : Int) < (reqs.length : Int))) (ev_t rfl) (fun h17 => ?_) (fun h17 => ?_)
    · rw [bif_pos h17] at hL1
      have q18 := (of_decide_eq_true h17)
      have hcr := covered_row row1 (reqs.getD k23_1 0) hi1_3 (by omega) (by omega)
      have hrd := rowDistance_le hi1_3 hcr.1
      have hcl := hcr.2
      have hcR := hcr.1
      have hre0 := hre (by omega)
      refine TC.skip ?_
      refine TN.seq ?_
      refine TC.seq ?_
      refine TC.block ?_
      refine TC.seq ?_
      refine TC.region ?_
      have hb19 : k23_1 < reqs.length := (by first | omega | (simp only [List.length_set, List.length_append, List.length_cons, List.length_nil, List.length_replicate]; omega))
      refine TL.op (yq (y_idx (k := k23_1) (ev_t rfl) (ev_t rfl) (by omega) slT_25 (ri_arg hreqs) hb19)) rfl rfl rfl ?_
      refine TL.op (yq (y_ldi (ev_t rfl) one_3 (ri_arg hreqs) hb19)) rfl rfl rfl ?_
      refine TL.op (yq (y_assign (ev_t rfl))) rfl rfl rfl ?_
      refine TL.nil ?_
      refine TN.seq ?_
      refine TC.seq ?_
      refine TC.region ?_
      refine TL.op (yq (y_move (ev_t rfl))) rfl rfl rfl ?_
      refine TL.op (yq (y_move (ev_t rfl))) rfl rfl rfl ?_
      refine TL.callr (ι := Value) (vs := [vrow1, (.int .i64 (reqs.getD k23_1 0))]) (fun i => i) (fun i => [rowI 3 i (F_impl_covered row1 (reqs.getD k23_1 0))]) en_72 ⟨(ev_t rfl), (ev_t rfl), trivial⟩ rfl (fun w hw => impl_covered_ok w vrow1 row1 ((ri_opt 0 rfl hrrow1) w hw) (reqs.getD k23_1 0) (by first | assumption | omega | grind) (by first | assumption | omega | grind) (by first | assumption | omega | grind)) (fun r8_2 => ?_)
      refine TL.op (yq (y_assign (ev_t rfl))) rfl rfl rfl ?_
      refine TL.nil ?_
      refine TN.seq ?_
      refine TC.seq ?_
      refine TC.region ?_
      refine TL.op (yq (y_move (ev_t rfl))) rfl rfl rfl ?_
      refine TL.op (yq (y_move (ev_t rfl))) rfl rfl rfl ?_
      refine TL.op (yq (y_move (ev_t rfl))) rfl rfl rfl ?_
      refine TL.op (y_call (vs := [vrow1, r8_2]) (v := (.int .i64 (F_impl_rowDistance row1 (F_impl_covered row1 (reqs.getD k23_1 0))))) en_73 ⟨(ev_t rfl), (ev_t rfl), trivial⟩ (fun w hw => impl_rowDistance_ok w vrow1 row1 ((ri_opt 1 rfl hrrow1) w hw) r8_2 (F_impl_covered row1 (reqs.getD k23_1 0)) ((ri_row 0 rfl) w hw) (by first | assumption | omega | grind) (by first | assumption | omega | grind) (by first | assumption | omega | grind))) rfl rfl rfl ?_
      refine TL.op (yq (y_add (ev_t rfl) (ev_t rfl) (by unfold In64; omega))) rfl rfl rfl ?_
      refine TL.op (yq (y_assign (ev_t rfl))) rfl rfl rfl ?_
      refine TL.nil ?_
      refine TN.seq ?_
      refine TC.seq ?_
      refine TC.region ?_
      refine TL.op (yq (y_move (ev_t rfl))) rfl rfl rfl ?_
      refine TL.op (yq (y_move (ev_t rfl))) rfl rfl rfl ?_
      refine TL.callr (ι := Value) (vs := [r8_2]) (fun i => i) (fun i => [rowI 3 i (F_impl_covered row1 (reqs.getD k23_1 0))]) en_74 ⟨(ev_t rfl), trivial⟩ rfl (fun w hw => slices_Clone_Sint_int_ok w r8_2 (F_impl_covered row1 (reqs.getD k23_1 0)) ((ri_row 0 rfl) w hw) (by first | assumption | omega | grind)) (fun r10_2 => ?_)
      refine TL.buildU slT_22 (ev_t rfl) (fun w hw => ((ri_row 0 rfl) w hw).ln) rfl (fun v10_3 => ?_)
      refine TL.appendT 4 1 rfl (ev_t rfl) (ev_t rfl) rfl rfl slT_22 (rd_row 0 rfl) (by first | omega | (simp [-List.getD_eq_getElem?_getD] <;> omega)) rfl (fun v10_4 => ?_)
      refine TL.op (yq (y_assign (ev_t rfl))) rfl rfl rfl ?_
      refine TL.nil ?_
      refine TN.seq ?_
      refine TC.region ?_
      refine TL.op (yq (y_move (ev_t rfl))) rfl rfl rfl ?_
      refine TL.op (yq (y_assign (ev_t rfl))) rfl rfl rfl ?_
      refine TL.nil ?_
      refine TN.blockN ?_
      refine TN.seq ?_
      refine TC.region ?_
      refine TL.op (yq (y_add (ev_t rfl) ev_c (by unfold In64; omega))) rfl rfl rfl ?_
      refine TL.op (yq (y_move (ev_t rfl))) rfl rfl rfl ?_
      refine TL.nil ?_
      exact TN.hand (mf1, (F_impl_covered row1 (reqs.getD k23_1 0)), (out1 ++ [(F_impl_covered row1 (reqs.getD k23_1 0))]), sum1 + (F_impl_rowDistance row1 (F_impl_covered row1 (reqs.getD k23_1 0))), (k23_1 + 1), r8_2, true, v10_4, (uout1 ++ [r10_2])) ⟨(by first | omega | (simp [-List.getD_eq_getElem?_getD] <;> omega)), (by first | omega | (simp [-List.getD_eq_getElem?_getD] <;> omega)), (by first | omega | (simp [-List.getD_eq_getElem?_getD] <;> omega)), hcr.1, (by first | omega | (simp [-List.getD_eq_getElem?_getD] <;> omega)), (fun h => by cases h), (by omega), hL1⟩ (Nat.lt_succ_self _) ⟨rfl, rfl, rfl, rfl, rfl, rfl, trivial⟩ (fun w hw => Hp.sublist hw (.cons _ (.cons _ (.cons_cons _ (.cons _ (.cons_cons _ .slnil))))))
    · rw [bif_neg h17] at hL1
      have q18 := (of_decide_eq_false h17)
      refine TC.exit ?_
      refine TN.thenE ?_
      refine TN.thenE ?_
      rw [← hL1, elim_next] at hF
      try dsimp only at hF
      refine TN.blockH ?_
      refine TN.seq ?_
      refine TC.seq ?_
      refine TC.region ?_
      refine TL.op (yq (y_move (ev_t rfl))) rfl rfl rfl ?_
      refine TL.op (yq (y_move (ev_t rfl))) rfl rfl rfl ?_
      refine TL.op (yq (y_assign (ev_t rfl))) rfl rfl rfl ?_
      refine TL.op (yq (y_assign (ev_t rfl))) rfl rfl rfl ?_
      refine TL.op (yq (y_assign ev_c)) rfl rfl rfl ?_
      refine TL.nil ?_
      refine TN.seq ?_
      refine TC.ret ?_
      subst hF
      exact TN.ret3 rfl (ev_t rfl) (ev_t rfl) (ev_t rfl) (fun w' hw => ⟨(vout1, uout1), rfl, Hp.sublist hw (.cons _ (.cons_cons _ .slnil))⟩)

set_option maxRecDepth 4000 in
set_option maxHeartbeats 1000000 in
theorem spec_CoverRun_ok (w : World) (vrow : Value) (row : List Int) (hrow : RI w vrow row) (vreqs : Value) (reqs : List Int) (hreqs : RI w vreqs reqs)  :
    Calls Try.prog 29 ([vrow, vreqs] : List Value).toArray w (fun e w' => ∃ i : Value × List Value, e = .returned (.tuple #[i.1, (.int .i64 ((F_spec_CoverRun row reqs).2.1)), (.bool ((F_spec_CoverRun row reqs).2.2))]) ∧ Hp w [tabI 25 3 i.1 i.2 ((F_spec_CoverRun row reqs).1)] w') := by
  obtain ⟨rz, hF⟩ : ∃ rz, (F_spec_CoverRun row reqs) = rz := ⟨_, rfl⟩
  rw [hF]
  unfold F_spec_CoverRun at hF
  have hlen_row := arg_len hrow
  have hlen_reqs := arg_len hreqs
  refine calls_tc Try.func29 rfl rfl rfl ?_
  change TC _ _ _ _ (Hp w []) [(0, vrow), (1, vreqs)]
  refine TC.seq ?_
  refine TC.region ?_
  refine TL.op (yq (y_assign ev_c)) rfl rfl rfl ?_
  refine TL.op (yq (y_assign ev_c)) rfl rfl rfl ?_
  refine TL.op (yq (y_assign ev_c)) rfl rfl rfl ?_
  refine TL.nil ?_
  refine TN.seq ?_
  refine TC.seq ?_
  refine TC.region ?_
  refine TL.buildSlice (zs := []) (vs := []) slT_22 rfl trivial (by simp) rfl (by decide) rfl (fun v1_0 => ?_)
  refine TL.cls (fun w hw => hw.emptyTab 3) ?_
  refine TL.op (yq (y_move (ev_t rfl))) rfl rfl rfl ?_
  refine TL.op (yq (y_assign (ev_t rfl))) rfl rfl rfl ?_
  refine TL.op (yq (y_assign ev_c)) rfl rfl rfl ?_
  refine TL.op (yq (y_assign (ev_t rfl))) rfl rfl rfl ?_
  refine TL.nil ?_
  refine TN.seq ?_
  refine TC.seq ?_
  refine TC.seq ?_
  refine TC.region ?_
  refine TL.op (yq (y_move (ev_t rfl))) rfl rfl rfl ?_
  refine TL.op (y_call (vs := [vrow]) (v := (.bool (F_spec_l6Row row))) en_66 ⟨(ev_t rfl), trivial⟩ (fun w hw => spec_l6Row_ok w vrow row ((ri_arg hrow) w hw))) rfl rfl rfl ?_
  refine TL.op (yq (y_not (ev_t rfl))) rfl rfl rfl ?_
  refine TL.op (yq (y_move (ev_t rfl))) rfl rfl rfl ?_
  refine TL.opw (w_f rfl rfl rfl) (fun hg => yq (y_move (ev_t rfl))) rfl rfl ?_
  refine TL.opw (w_f rfl rfl rfl) (fun hg => yq (y_len (ev_g rfl hg) Try.underlying25 (fun w hw => ((ri_arg hreqs) w hw).ln))) rfl rfl ?_
  refine TL.opw (w_f rfl rfl rfl) (fun hg => yq (y_gtr (ev_g rfl hg) ev_c)) rfl rfl ?_
  refine TL.op (yq (y_or (ev_t rfl) (fun hq => (ev_g rfl hq)))) rfl rfl rfl ?_
  refine TL.op (yq (y_move (ev_t rfl))) rfl rfl rfl ?_
  refine TL.opw (w_f rfl rfl rfl) (fun hg => yq (y_move (ev_t rfl))) rfl rfl ?_
  refine TL.opw (w_f rfl rfl rfl) (fun hg => y_call (vs := [vreqs]) (v := (.bool (F_spec_l6Places reqs))) en_67 ⟨(ev_g rfl hg), trivial⟩ (fun w hw => spec_l6Places_ok w vreqs reqs ((ri_arg hreqs) w hw))) rfl rfl ?_
  refine TL.opw (w_f rfl rfl rfl) (fun hg => yq (y_not (ev_g rfl hg))) rfl rfl ?_
  refine TL.op (yq (y_or (ev_t rfl) (fun hq => (ev_g rfl hq)))) rfl rfl rfl ?_
  refine TL.nil ?_
  refine TN.seq ?_
  refine TC.cond (b := (((!(F_spec_l6Row row)) || (decide (60 < (reqs.length : Int)))) || (!(F_spec_l6Places reqs)))) (ev_t rfl) (fun h12 => ?_) (fun h12 => ?_)
  · rw [bif_pos h12] at hF
    have q13 := ((or_t h12).imp (fun h => ((or_t h).imp (fun h => (not_t h)) (fun h => (of_decide_eq_true h)))) (fun h => (not_t h)))
    refine TC.seq ?_
    refine TC.region ?_
    refine TL.op (yq (y_move (ev_t rfl))) rfl rfl rfl ?_
    refine TL.op (yq (y_assign (ev_t rfl))) rfl rfl rfl ?_
    refine TL.op (yq (y_assign ev_c)) rfl rfl rfl ?_
    refine TL.op (yq (y_assign ev_c)) rfl rfl rfl ?_
    refine TL.nil ?_
    refine TN.seq ?_
    refine TC.ret ?_
    refine TN.thenR ?_
    subst hF
    exact TN.ret3 rfl (ev_t rfl) (ev_t rfl) (ev_t rfl) (fun w' hw => ⟨(v1_0, []), rfl, hw⟩)
  · rw [bif_neg h12] at hF
    have q13 := (and_imp (or_f h12) (fun h => (and_imp (or_f h) (fun h => (l6Row_t (not_f h))) (fun h => (of_decide_eq_false h)))) (fun h => (not_f h)))
    have hR := q13.1.1
    have hr60 := q13.1.2
    have hP := placesOf_t q13.2
    refine TC.skip ?_
    refine TN.seq ?_
    refine TC.seq ?_
    refine TC.seq ?_
    refine TC.region ?_
    refine TL.op (yq (y_assign ev_c)) rfl rfl rfl ?_
    refine TL.nil ?_
    refine TN.seq ?_
    refine TC.block ?_
    refine TC.cls (fun w hw => hw.nil 0 1) ?_
    obtain ⟨c14, hc15⟩ : ∃ c, F_spec_CoverRun_L1 reqs ((reqs.length - 0) + 1) (([]), 0, row, 0) = c := ⟨_, rfl⟩
    rw [hc15] at hF
    refine TC.loop (ι := Nat × List (List Int) × Int × List Int × Nat × Value × List Value × Value × Bool) (fun (fu1, out1, sum1, now1, i1, vout1, uout1, vnow1, onow1) => [(1, vreqs), (7, vout1), (8, (.int .i64 sum1)), (9, vnow1), (10, (.int .i64 (i1 : Int)))]) (fun (fu1, out1, sum1, now1, i1, vout1, uout1, vnow1, onow1) => Hp w [optI 3 onow1 vnow1 now1, tabI 25 3 vout1 uout1 out1]) (fun (fu1, out1, sum1, now1, i1, vout1, uout1, vnow1, onow1) => (i1 ≤ reqs.length) ∧ (0 ≤ sum1) ∧ (sum1 ≤ 297 * (i1 : Int)) ∧ (Row now1) ∧ (out1.length ≤ i1) ∧ (onow1 = false → RI w vnow1 now1) ∧ reqs.length - i1 < fu1 ∧ F_spec_CoverRun_L1 reqs fu1 (out1, sum1, now1, i1) = c14) (fun (fu1, out1, sum1, now1, i1, vout1, uout1, vnow1, onow1) => fu1) ((reqs.length - 0) + 1, [], 0, row, 0, v1_0, [], vrow, false) ⟨(by first | omega | (simp [-List.getD_eq_getElem?_getD] <;> omega)), (by first | omega | (simp [-List.getD_eq_getElem?_getD] <;> omega)), (by first | omega | (simp [-List.getD_eq_getElem?_getD] <;> omega)), hR, (by first | omega | (simp [-List.getD_eq_getElem?_getD] <;> omega)), (fun _ => hrow), (by omega), hc15⟩ ⟨rfl, rfl, rfl, rfl, rfl, trivial⟩ (fun w hw => hw) ?_
    rintro ⟨fu1, out1, sum1, now1, i1, vout1, uout1, vnow1, onow1⟩ hJ1
    obtain ⟨hi1_0, hi1_1, hi1_2, hi1_3, hi1_4, hrnow1, hmu1, hL1⟩ : (i1 ≤ reqs.length) ∧ (0 ≤ sum1) ∧ (sum1 ≤ 297 * (i1 : Int)) ∧ (Row now1) ∧ (out1.length ≤ i1) ∧ (onow1 = false → RI w vnow1 now1) ∧ reqs.length - i1 < fu1 ∧ F_spec_CoverRun_L1 reqs fu1 (out1, sum1, now1, i1) = c14 := hJ1
    change TC _ _ _ _ (Hp w [optI 3 onow1 vnow1 now1, tabI 25 3 vout1 uout1 out1]) [(1, vreqs), (7, vout1), (8, (.int .i64 sum1)), (9, vnow1), (10, (.int .i64 (i1 : Int)))]
    obtain ⟨mf1, rfl⟩ : ∃ m, fu1 = m + 1 := ⟨fu1 - 1, by omega⟩
    rw [F_spec_CoverRun_L1_s] at hL1
    have hre := hP i1
    have hlr := hi1_3.1
    refine TC.seq ?_
    refine TC.seq ?_
    refine TC.region ?_
    refine TL.op (yq (y_move (ev_t rfl))) rfl rfl rfl ?_
    refine TL.op (yq (y_move (ev_t rfl))) rfl rfl rfl ?_
    refine TL.op (yq (y_len (ev_t rfl) Try.underlying25 (fun w hw => ((ri_arg hreqs) w hw).ln))) rfl rfl rfl ?_
    refine TL.op (yq (y_lss (ev_t rfl) (ev_t rfl))) rfl rfl rfl ?_
    refine TL.nil ?_
    refine TN.seq ?_
    refine TC.cond (b := decide ((i1 : Int) < (reqs.length : Int))) (ev_t rfl) (fun h16 => ?_) (fun h16 => ?_)
    · rw [bif_pos h16] at hL1
      have q17 := (of_decide_eq_true h16)
      have hcr := l6Cover_row (row := now1) (r := reqs.getD i1 0) hi1_3 (by omega) (by omega)
      have hcl := hcr.2
      have hre0 := hre (by omega)
      refine TC.skip ?_
      refine TN.seq ?_
      refine TC.seq ?_
      refine TC.block ?_
      refine TC.seq ?_
      refine TC.region ?_
      refine TL.op (yq (y_move (ev_t rfl))) rfl rfl rfl ?_
      refine TL.op (yq (y_move (ev_t rfl))) rfl rfl rfl ?_
      refine TL.op (yq (y_move (ev_t rfl))) rfl rfl rfl ?_
      have hb18 : i1 < reqs.length := (by first | omega | (simp only [List.length_set, List.length_append, List.length_cons, List.length_nil, List.length_replicate]; omega))
      refine TL.op (yq (y_idx (k := i1) (ev_t rfl) (ev_t rfl) (by omega) slT_25 (ri_arg hreqs) hb18)) rfl rfl rfl ?_
      refine TL.op (yq (y_ldi (ev_t rfl) one_3 (ri_arg hreqs) hb18)) rfl rfl rfl ?_
      refine TL.callr (ι := Value) (vs := [vnow1, (.int .i64 (reqs.getD i1 0))]) (fun i => (.tuple #[i, (.int .i64 ((F_spec_l6Cover now1 (reqs.getD i1 0)).2))])) (fun i => [rowI 3 i ((F_spec_l6Cover now1 (reqs.getD i1 0)).1)]) en_68 ⟨(ev_t rfl), (ev_t rfl), trivial⟩ rfl (fun w hw => spec_l6Cover_ok w vnow1 now1 ((ri_opt 0 rfl hrnow1) w hw) (reqs.getD i1 0) (by first | assumption | omega | grind) (by first | assumption | omega | grind) (by first | assumption | omega | grind)) (fun r7_5 => ?_)
      refine TL.op (yq (y_move (ev_t rfl))) rfl rfl rfl ?_
      refine TL.op (yq (y_extract (ev_t rfl) rfl)) rfl rfl rfl ?_
      refine TL.op (yq (y_extract (ev_t rfl) rfl)) rfl rfl rfl ?_
      refine TL.op (yq (y_assign (ev_t rfl))) rfl rfl rfl ?_
      refine TL.op (yq (y_assign (ev_t rfl))) rfl rfl rfl ?_
      refine TL.nil ?_
      refine TN.seq ?_
      refine TC.seq ?_
      refine TC.region ?_
      refine TL.op (yq (y_move (ev_t rfl))) rfl rfl rfl ?_
      refine TL.op (yq (y_move (ev_t rfl))) rfl rfl rfl ?_
      refine TL.op (yq (y_add (ev_t rfl) (ev_t rfl) (by unfold In64; omega))) rfl rfl rfl ?_
      refine TL.op (yq (y_assign (ev_t rfl))) rfl rfl rfl ?_
      refine TL.nil ?_
      refine TN.seq ?_
      refine TC.seq ?_
      refine TC.region ?_
      refine TL.op (yq (y_move (ev_t rfl))) rfl rfl rfl ?_
      refine TL.op (yq (y_assign (ev_t rfl))) rfl rfl rfl ?_
      refine TL.nil ?_
      refine TN.seq ?_
      refine TC.region ?_
      refine TL.op (yq (y_move (ev_t rfl))) rfl rfl rfl ?_
      refine TL.op (yq (y_move (ev_t rfl))) rfl rfl rfl ?_
      refine TL.callr (ι := Value) (vs := [r7_5]) (fun i => i) (fun i => [rowI 3 i ((F_spec_l6Cover now1 (reqs.getD i1 0)).1)]) en_69 ⟨(ev_t rfl), trivial⟩ rfl (fun w hw => spec_l1Own_ok w r7_5 ((F_spec_l6Cover now1 (reqs.getD i1 0)).1) ((ri_row 0 rfl) w hw) (by first | assumption | omega | grind)) (fun r10_2 => ?_)
      refine TL.buildU slT_22 (ev_t rfl) (fun w hw => ((ri_row 0 rfl) w hw).ln) rfl (fun v10_3 => ?_)
      refine TL.appendT 4 1 rfl (ev_t rfl) (ev_t rfl) rfl rfl slT_22 (rd_row 0 rfl) (by first | omega | (simp [-List.getD_eq_getElem?_getD] <;> omega)) rfl (fun v10_4 => ?_)
      refine TL.op (yq (y_assign (ev_t rfl))) rfl rfl rfl ?_
      refine TL.nil ?_
      refine TN.blockN ?_
      refine TN.seq ?_
      refine TC.region ?_
      refine TL.op (yq (y_move (ev_t rfl))) rfl rfl rfl ?_
      refine TL.op (yq (y_add (ev_t rfl) ev_c (by unfold In64; omega))) rfl rfl rfl ?_
      refine TL.op (yq (y_assign (ev_t rfl))) rfl rfl rfl ?_
      refine TL.nil ?_
      exact TN.hand (mf1, (out1 ++ [((F_spec_l6Cover now1 (reqs.getD i1 0)).1)]), sum1 + ((F_spec_l6Cover now1 (reqs.getD i1 0)).2), (F_spec_l6Cover now1 (reqs.getD i1 0)).1, (i1 + 1), v10_4, (uout1 ++ [r10_2]), r7_5, true) ⟨(by first | omega | (simp [-List.getD_eq_getElem?_getD] <;> omega)), (by first | omega | (simp [-List.getD_eq_getElem?_getD] <;> omega)), (by first | omega | (simp [-List.getD_eq_getElem?_getD] <;> omega)), hcr.1, (by first | omega | (simp [-List.getD_eq_getElem?_getD] <;> omega)), (fun h => by cases h), (by omega), hL1⟩ (Nat.lt_succ_self _) ⟨rfl, rfl, rfl, rfl, rfl, trivial⟩ (fun w hw => Hp.sublist hw (.cons _ (.cons _ (.cons_cons _ (.cons _ (.cons_cons _ .slnil))))))
    · rw [bif_neg h16] at hL1
      have q17 := (of_decide_eq_false h16)
      refine TC.exit ?_
      refine TN.thenE ?_
      refine TN.thenE ?_
      rw [← hL1, elim_next] at hF
      try dsimp only at hF
      refine TN.blockH ?_
      refine TN.seq ?_
      refine TC.seq ?_
      refine TC.region ?_
      refine TL.op (yq (y_move (ev_t rfl))) rfl rfl rfl ?_
      refine TL.op (yq (y_move (ev_t rfl))) rfl rfl rfl ?_
      refine TL.op (yq (y_assign (ev_t rfl))) rfl rfl rfl ?_
      refine TL.op (yq (y_assign (ev_t rfl))) rfl rfl rfl ?_
      refine TL.op (yq (y_assign ev_c)) rfl rfl rfl ?_
      refine TL.nil ?_
      refine TN.seq ?_
      refine TC.ret ?_
      subst hF
      exact TN.ret3 rfl (ev_t rfl) (ev_t rfl) (ev_t rfl) (fun w' hw => ⟨(vout1, uout1), rfl, Hp.sublist hw (.cons _ (.cons_cons _ .slnil))⟩)

set_option maxRecDepth 4000 in
set_option maxHeartbeats 1000000 in
theorem laws_FnExactCoverRun_ok (w : World) (vrow : Value) (row : List Int) (hrow : RI w vrow row) (vreqs : Value) (reqs : List Int) (hreqs : RI w vreqs reqs)  :
    Calls Try.prog 6 ([vrow, vreqs] : List Value).toArray w (Ret (.bool (F_laws_FnExactCoverRun row reqs)) (Hp w [])) := by
  obtain ⟨rz, hF⟩ : ∃ rz, (F_laws_FnExactCoverRun row reqs) = rz := ⟨_, rfl⟩
  rw [hF]
  unfold F_laws_FnExactCoverRun at hF
  have hta := toIntS_eq row
  have htb := toIntS_eq reqs
  have hml := markIntS_fst row
  have hut := coverRun_total (F_laws_toIntS row) (F_laws_toIntS reqs)
  have hmt := markIntSS_total (F_impl_CoverRun (F_laws_toIntS row) (F_laws_toIntS reqs)).1 1
  have hk1 := markIntS_fst (F_laws_toIntS row) 1
  have hlen_row := arg_len hrow
  have hlen_reqs := arg_len hreqs
  refine calls_tc Try.func6 rfl rfl rfl ?_
  change TC _ _ _ _ (Hp w []) [(0, vrow), (1, vreqs)]
  refine TC.seq ?_
  refine TC.region ?_
  refine TL.op (yq (y_assign ev_c)) rfl rfl rfl ?_
  refine TL.nil ?_
  refine TN.seq ?_
  refine TC.seq ?_
  refine TC.seq ?_
  refine TC.region ?_
  refine TL.op (yq (y_move (ev_t rfl))) rfl rfl rfl ?_
  refine TL.op (yq (y_len (ev_t rfl) Try.underlying25 (fun w hw => ((ri_arg hrow) w hw).ln))) rfl rfl rfl ?_
  refine TL.op (yq (y_gtr (ev_t rfl) ev_c)) rfl rfl rfl ?_
  refine TL.nil ?_
  refine TN.seq ?_
  refine TC.cond (b := decide (1048576 < (row.length : Int))) (ev_t rfl) (fun h23 => ?_) (fun h23 => ?_)
  · rw [bif_pos h23] at hF
    have q24 := (of_decide_eq_true h23)
    refine TC.seq ?_
    refine TC.region ?_
    refine TL.op (yq (y_assign ev_c)) rfl rfl rfl ?_
    refine TL.nil ?_
    refine TN.seq ?_
    refine TC.ret ?_
    refine TN.thenR ?_
    subst hF
    exact TN.ret1 rfl (ev_t rfl) (fun w' hw => ⟨rfl, hw⟩)
  · rw [bif_neg h23] at hF
    have q24 := (of_decide_eq_false h23)
    refine TC.skip ?_
    refine TN.seq ?_
    refine TC.seq ?_
    refine TC.seq ?_
    refine TC.region ?_
    refine TL.op (yq (y_move (ev_t rfl))) rfl rfl rfl ?_
    refine TL.op (yq (y_len (ev_t rfl) Try.underlying25 (fun w hw => ((ri_arg hreqs) w hw).ln))) rfl rfl rfl ?_
    refine TL.op (yq (y_gtr (ev_t rfl) ev_c)) rfl rfl rfl ?_
    refine TL.nil ?_
    refine TN.seq ?_
    refine TC.cond (b := decide (1048576 < (reqs.length : Int))) (ev_t rfl) (fun h25 => ?_) (fun h25 => ?_)
    · rw [bif_pos h25] at hF
      have q26 := (of_decide_eq_true h25)
      refine TC.seq ?_
      refine TC.region ?_
      refine TL.op (yq (y_assign ev_c)) rfl rfl rfl ?_
      refine TL.nil ?_
      refine TN.seq ?_
      refine TC.ret ?_
      refine TN.thenR ?_
      subst hF
      exact TN.ret1 rfl (ev_t rfl) (fun w' hw => ⟨rfl, hw⟩)
    · rw [bif_neg h25] at hF
      have q26 := (of_decide_eq_false h25)
      refine TC.skip ?_
      refine TN.seq ?_
      refine TC.seq ?_
      refine TC.region ?_
      refine TL.op (yq (y_move (ev_t rfl))) rfl rfl rfl ?_
      refine TL.callr (ι := Value) (vs := [vrow]) (fun i => i) (fun i => [rowI 3 i (F_laws_toIntS row)]) en_18 ⟨(ev_t rfl), trivial⟩ rfl (fun w hw => laws_toIntS_ok w vrow row ((ri_arg hrow) w hw) (by first | assumption | omega | grind)) (fun r5_1 => ?_)
      refine TL.op (yq (y_move (ev_t rfl))) rfl rfl rfl ?_
      refine TL.callr (ι := Value) (vs := [vreqs]) (fun i => i) (fun i => [rowI 3 i (F_laws_toIntS reqs)]) en_18 ⟨(ev_t rfl), trivial⟩ rfl (fun w hw => laws_toIntS_ok w vreqs reqs ((ri_arg hreqs) w hw) (by first | assumption | omega | grind)) (fun r5_3 => ?_)
      refine TL.callr (ι := Value × List Value) (vs := [r5_1, r5_3]) (fun i => (.tuple #[i.1, (.int .i64 ((F_spec_CoverRun (F_laws_toIntS row) (F_laws_toIntS reqs)).2.1)), (.bool ((F_spec_CoverRun (F_laws_toIntS row) (F_laws_toIntS reqs)).2.2))])) (fun i => [tabI 25 3 i.1 i.2 ((F_spec_CoverRun (F_laws_toIntS row) (F_laws_toIntS reqs)).1)]) en_29 ⟨(ev_t rfl), (ev_t rfl), trivial⟩ rfl (fun w hw => spec_CoverRun_ok w r5_1 (F_laws_toIntS row) ((ri_row 1 rfl) w hw) r5_3 (F_laws_toIntS reqs) ((ri_row 0 rfl) w hw)) (fun r5_4 => ?_)
      refine TL.op (yq (y_move (ev_t rfl))) rfl rfl rfl ?_
      refine TL.op (yq (y_extract (ev_t rfl) rfl)) rfl rfl rfl ?_
      refine TL.op (yq (y_extract (ev_t rfl) rfl)) rfl rfl rfl ?_
      refine TL.op (yq (y_extract (ev_t rfl) rfl)) rfl rfl rfl ?_
      refine TL.op (yq (y_assign (ev_t rfl))) rfl rfl rfl ?_
      refine TL.op (yq (y_assign (ev_t rfl))) rfl rfl rfl ?_
      refine TL.op (yq (y_assign (ev_t rfl))) rfl rfl rfl ?_
      refine TL.nil ?_
      refine TN.seq ?_
      refine TC.seq ?_
      refine TC.region ?_
      refine TL.op (yq (y_move (ev_t rfl))) rfl rfl rfl ?_
      refine TL.callr (ι := Value) (vs := [vrow]) (fun i => i) (fun i => [rowI 3 i (F_laws_toIntS row)]) en_18 ⟨(ev_t rfl), trivial⟩ rfl (fun w hw => laws_toIntS_ok w vrow row ((ri_arg hrow) w hw) (by first | assumption | omega | grind)) (fun r6_1 => ?_)
      refine TL.op (yq (y_assign (ev_t rfl))) rfl rfl rfl ?_
      refine TL.nil ?_
      refine TN.seq ?_
      refine TC.seq ?_
      refine TC.region ?_
      refine TL.op (yq (y_move (ev_t rfl))) rfl rfl rfl ?_
      refine TL.callr (ι := Value) (vs := [vreqs]) (fun i => i) (fun i => [rowI 3 i (F_laws_toIntS reqs)]) en_18 ⟨(ev_t rfl), trivial⟩ rfl (fun w hw => laws_toIntS_ok w vreqs reqs ((ri_arg hreqs) w hw) (by first | assumption | omega | grind)) (fun r7_1 => ?_)
      refine TL.op (yq (y_assign (ev_t rfl))) rfl rfl rfl ?_
      refine TL.nil ?_
      refine TN.seq ?_
      refine TC.seq ?_
      refine TC.region ?_
      refine TL.op (yq (y_move (ev_t rfl))) rfl rfl rfl ?_
      refine TL.op (yq (y_move (ev_t rfl))) rfl rfl rfl ?_
      refine TL.callr (ι := Value × List Value) (vs := [r6_1, r7_1]) (fun i => (.tuple #[i.1, (.int .i64 ((F_impl_CoverRun (F_laws_toIntS row) (F_laws_toIntS reqs)).2.1)), (.bool ((F_impl_CoverRun (F_laws_toIntS row) (F_laws_toIntS reqs)).2.2))])) (fun i => [tabI 25 3 i.1 i.2 ((F_impl_CoverRun (F_laws_toIntS row) (F_laws_toIntS reqs)).1)]) en_30 ⟨(ev_t rfl), (ev_t rfl), trivial⟩ rfl (fun w hw => impl_CoverRun_ok w r6_1 (F_laws_toIntS row) ((ri_row 1 rfl) w hw) r7_1 (F_laws_toIntS reqs) ((ri_row 0 rfl) w hw)) (fun r8_2 => ?_)
      refine TL.op (yq (y_move (ev_t rfl))) rfl rfl rfl ?_
      refine TL.op (yq (y_extract (ev_t rfl) rfl)) rfl rfl rfl ?_
      refine TL.op (yq (y_extract (ev_t rfl) rfl)) rfl rfl rfl ?_
      refine TL.op (yq (y_extract (ev_t rfl) rfl)) rfl rfl rfl ?_
      refine TL.op (yq (y_assign (ev_t rfl))) rfl rfl rfl ?_
      refine TL.op (yq (y_assign (ev_t rfl))) rfl rfl rfl ?_
      refine TL.op (yq (y_assign (ev_t rfl))) rfl rfl rfl ?_
      refine TL.nil ?_
      refine TN.seq ?_
      refine TC.seq ?_
      refine TC.seq ?_
      refine TC.region ?_
      refine TL.op (yq (y_move (ev_t rfl))) rfl rfl rfl ?_
      refine TL.op (yq (y_move (ev_t rfl))) rfl rfl rfl ?_
      refine TL.op (y_call (vs := [r8_2.1, r5_4.1]) (v := (.bool (F_laws_eqIntSS ((F_impl_CoverRun (F_laws_toIntS row) (F_laws_toIntS reqs)).1) ((F_spec_CoverRun (F_laws_toIntS row) (F_laws_toIntS reqs)).1)))) en_31 ⟨(ev_t rfl), (ev_t rfl), trivial⟩ (fun w hw => laws_eqIntSS_ok w r8_2.1 r8_2.2 ((F_impl_CoverRun (F_laws_toIntS row) (F_laws_toIntS reqs)).1) ((rii_tab 0 rfl) w hw) r5_4.1 r5_4.2 ((F_spec_CoverRun (F_laws_toIntS row) (F_laws_toIntS reqs)).1) ((rii_tab 3 rfl) w hw))) rfl rfl rfl ?_
      refine TL.op (yq (y_not (ev_t rfl))) rfl rfl rfl ?_
      refine TL.op (yq (y_move (ev_t rfl))) rfl rfl rfl ?_
      refine TL.opw (w_f rfl rfl rfl) (fun hg => yq (y_move (ev_t rfl))) rfl rfl ?_
      refine TL.opw (w_f rfl rfl rfl) (fun hg => yq (y_move (ev_t rfl))) rfl rfl ?_
      refine TL.opw (w_f rfl rfl rfl) (fun hg => yq (y_neq (ev_g rfl hg) (ev_g rfl hg))) rfl rfl ?_
      refine TL.op (yq (y_or (ev_t rfl) (fun hq => (ev_g rfl hq)))) rfl rfl rfl ?_
      refine TL.op (yq (y_move (ev_t rfl))) rfl rfl rfl ?_
      refine TL.opw (w_f rfl rfl rfl) (fun hg => yq (y_move (ev_t rfl))) rfl rfl ?_
      refine TL.opw (w_f rfl rfl rfl) (fun hg => yq (y_move (ev_t rfl))) rfl rfl ?_
      refine TL.opw (w_f rfl rfl rfl) (fun hg => yq (y_bneq (ev_g rfl hg) (ev_g rfl hg) Try.underlying4)) rfl rfl ?_
      refine TL.op (yq (y_or (ev_t rfl) (fun hq => (ev_g rfl hq)))) rfl rfl rfl ?_
      refine TL.nil ?_
      refine TN.seq ?_
      refine TC.cond (b := (((!(F_laws_eqIntSS ((F_impl_CoverRun (F_laws_toIntS row) (F_laws_toIntS reqs)).1) ((F_spec_CoverRun (F_laws_toIntS row) (F_laws_toIntS reqs)).1))) || (!decide ((F_impl_CoverRun (F_laws_toIntS row) (F_laws_toIntS reqs)).2.1 = (F_spec_CoverRun (F_laws_toIntS row) (F_laws_toIntS reqs)).2.1))) || (((F_impl_CoverRun (F_laws_toIntS row) (F_laws_toIntS reqs)).2.2) != ((F_spec_CoverRun (F_laws_toIntS row) (F_laws_toIntS reqs)).2.2)))) (ev_t rfl) (fun h27 => ?_) (fun h27 => ?_)
      · rw [bif_pos h27] at hF
        have q28 := ((or_t h27).imp (fun h => ((or_t h).imp (fun h => (not_t h)) (fun h => (of_decide_eq_false (not_t h))))) (fun h => h))
        refine TC.seq ?_
        refine TC.region ?_
        refine TL.op (yq (y_assign ev_c)) rfl rfl rfl ?_
        refine TL.nil ?_
        refine TN.seq ?_
        refine TC.ret ?_
        refine TN.thenR ?_
        subst hF
        exact TN.ret1 rfl (ev_t rfl) (fun w' hw => ⟨rfl, Hp.sublist hw (List.nil_sublist _)⟩)
      · rw [bif_neg h27] at hF
        have q28 := (and_imp (or_f h27) (fun h => (and_imp (or_f h) (fun h => (not_f h)) (fun h => (of_decide_eq_true (not_f h))))) (fun h => h))
        refine TC.skip ?_
        refine TN.seq ?_
        refine TC.seq ?_
        refine TC.seq ?_
        refine TC.region ?_
        refine TL.op (yq (y_move (ev_t rfl))) rfl rfl rfl ?_
        refine TL.op (yq (y_move (ev_t rfl))) rfl rfl rfl ?_
        refine TL.callr (ι := Value) (vs := [vrow]) (fun i => i) (fun i => [rowI 3 i (F_laws_toIntS row)]) en_18 ⟨(ev_t rfl), trivial⟩ rfl (fun w hw => laws_toIntS_ok w vrow row ((ri_arg hrow) w hw) (by first | assumption | omega | grind)) (fun r11_2 => ?_)
        refine TL.op (y_call (vs := [r6_1, r11_2]) (v := (.bool (F_laws_eqIntS (F_laws_toIntS row) (F_laws_toIntS row)))) en_21 ⟨(ev_t rfl), (ev_t rfl), trivial⟩ (fun w hw => laws_eqIntS_ok w r6_1 (F_laws_toIntS row) ((ri_row 3 rfl) w hw) r11_2 (F_laws_toIntS row) ((ri_row 0 rfl) w hw))) rfl rfl rfl ?_
        refine TL.op (yq (y_not (ev_t rfl))) rfl rfl rfl ?_
        refine TL.nil ?_
        refine TN.seq ?_
        refine TC.cond (b := !(F_laws_eqIntS (F_laws_toIntS row) (F_laws_toIntS row))) (ev_t rfl) (fun h29 => ?_) (fun h29 => ?_)
        · rw [bif_pos h29] at hF
          have q30 := (not_t h29)
          refine TC.seq ?_
          refine TC.region ?_
          refine TL.op (yq (y_assign ev_c)) rfl rfl rfl ?_
          refine TL.nil ?_
          refine TN.seq ?_
          refine TC.ret ?_
          refine TN.thenR ?_
          subst hF
          exact TN.ret1 rfl (ev_t rfl) (fun w' hw => ⟨rfl, Hp.sublist hw (List.nil_sublist _)⟩)
        · rw [bif_neg h29] at hF
          have q30 := (not_f h29)
          refine TC.skip ?_
          refine TN.seq ?_
          refine TC.seq ?_
          refine TC.seq ?_
          refine TC.region ?_
          refine TL.op (yq (y_move (ev_t rfl))) rfl rfl rfl ?_
          refine TL.op (yq (y_move (ev_t rfl))) rfl rfl rfl ?_
          refine TL.callr (ι := Value) (vs := [vreqs]) (fun i => i) (fun i => [rowI 3 i (F_laws_toIntS reqs)]) en_18 ⟨(ev_t rfl), trivial⟩ rfl (fun w hw => laws_toIntS_ok w vreqs reqs ((ri_arg hreqs) w hw) (by first | assumption | omega | grind)) (fun r13_2 => ?_)
          refine TL.op (y_call (vs := [r7_1, r13_2]) (v := (.bool (F_laws_eqIntS (F_laws_toIntS reqs) (F_laws_toIntS reqs)))) en_21 ⟨(ev_t rfl), (ev_t rfl), trivial⟩ (fun w hw => laws_eqIntS_ok w r7_1 (F_laws_toIntS reqs) ((ri_row 3 rfl) w hw) r13_2 (F_laws_toIntS reqs) ((ri_row 0 rfl) w hw))) rfl rfl rfl ?_
          refine TL.op (yq (y_not (ev_t rfl))) rfl rfl rfl ?_
          refine TL.nil ?_
          refine TN.seq ?_
          refine TC.cond (b := !(F_laws_eqIntS (F_laws_toIntS reqs) (F_laws_toIntS reqs))) (ev_t rfl) (fun h31 => ?_) (fun h31 => ?_)
          · rw [bif_pos h31] at hF
            have q32 := (not_t h31)
            refine TC.seq ?_
            refine TC.region ?_
            refine TL.op (yq (y_assign ev_c)) rfl rfl rfl ?_
            refine TL.nil ?_
            refine TN.seq ?_
            refine TC.ret ?_
            refine TN.thenR ?_
            subst hF
            exact TN.ret1 rfl (ev_t rfl) (fun w' hw => ⟨rfl, Hp.sublist hw (List.nil_sublist _)⟩)
          · rw [bif_neg h31] at hF
            have q32 := (not_f h31)
            refine TC.skip ?_
            refine TN.seq ?_
            refine TC.seq ?_
            refine TC.region ?_
            refine TL.op (yq (y_assign ev_c)) rfl rfl rfl ?_
            refine TL.nil ?_
            refine TN.seq ?_
            refine TC.seq ?_
            refine TC.region ?_
            refine TL.op (yq (y_move (ev_t rfl))) rfl rfl rfl ?_
            refine TL.op (yq (y_move (ev_t rfl))) rfl rfl rfl ?_
            refine TL.callm (ι := Unit) 4 (vs := [r6_1, (.int .i64 1)]) (fun _ => (.int .i64 ((F_laws_markIntS (F_laws_toIntS row) 1).1))) (fun _ => rowI 3 r6_1 ((F_laws_markIntS (F_laws_toIntS row) 1).2)) en_27 ⟨(ev_t rfl), (ev_t rfl), trivial⟩ rfl rfl (fun w1 fr1 hw => laws_markIntS_ok w w1 fr1 r6_1 (F_laws_toIntS row) hw 1 (by first | assumption | omega | grind) (by first | assumption | omega | grind)) (fun _ => ?_)
            refine TL.op (yq (y_assign (ev_t rfl))) rfl rfl rfl ?_
            refine TL.nil ?_
            refine TN.seq ?_
            refine TC.seq ?_
            refine TC.region ?_
            refine TL.op (yq (y_move (ev_t rfl))) rfl rfl rfl ?_
            refine TL.op (yq (y_move (ev_t rfl))) rfl rfl rfl ?_
            refine TL.callm (ι := Unit) 3 (vs := [r7_1, (.int .i64 ((F_laws_markIntS (F_laws_toIntS row) 1).1))]) (fun _ => (.int .i64 ((F_laws_markIntS (F_laws_toIntS reqs) ((F_laws_markIntS (F_laws_toIntS row) 1).1)).1))) (fun _ => rowI 3 r7_1 ((F_laws_markIntS (F_laws_toIntS reqs) ((F_laws_markIntS (F_laws_toIntS row) 1).1)).2)) en_27 ⟨(ev_t rfl), (ev_t rfl), trivial⟩ rfl rfl (fun w1 fr1 hw => laws_markIntS_ok w w1 fr1 r7_1 (F_laws_toIntS reqs) hw ((F_laws_markIntS (F_laws_toIntS row) 1).1) (by first | assumption | omega | grind) (by first | assumption | omega | grind)) (fun _ => ?_)
            refine TL.op (yq (y_assign (ev_t rfl))) rfl rfl rfl ?_
            refine TL.nil ?_
            refine TN.seq ?_
            refine TC.seq ?_
            refine TC.seq ?_
            refine TC.region ?_
            refine TL.op (yq (y_move (ev_t rfl))) rfl rfl rfl ?_
            refine TL.op (yq (y_lss (ev_t rfl) ev_c)) rfl rfl rfl ?_
            refine TL.op (yq (y_move (ev_t rfl))) rfl rfl rfl ?_
            refine TL.opw (w_f rfl rfl rfl) (fun hg => yq (y_move (ev_t rfl))) rfl rfl ?_
            refine TL.opw (w_f rfl rfl rfl) (fun hg => yq (y_move (ev_t rfl))) rfl rfl ?_
            refine TL.opw (w_f rfl rfl rfl) (fun hg => y_call (vs := [r8_2.1, r5_4.1]) (v := (.bool (F_laws_eqIntSS ((F_impl_CoverRun (F_laws_toIntS row) (F_laws_toIntS reqs)).1) ((F_spec_CoverRun (F_laws_toIntS row) (F_laws_toIntS reqs)).1)))) en_31 ⟨(ev_g rfl hg), (ev_g rfl hg), trivial⟩ (fun w hw => laws_eqIntSS_ok w r8_2.1 r8_2.2 ((F_impl_CoverRun (F_laws_toIntS row) (F_laws_toIntS reqs)).1) ((rii_tab 2 rfl) w hw) r5_4.1 r5_4.2 ((F_spec_CoverRun (F_laws_toIntS row) (F_laws_toIntS reqs)).1) ((rii_tab 5 rfl) w hw))) rfl rfl ?_
            refine TL.opw (w_f rfl rfl rfl) (fun hg => yq (y_not (ev_g rfl hg))) rfl rfl ?_
            refine TL.op (yq (y_or (ev_t rfl) (fun hq => (ev_g rfl hq)))) rfl rfl rfl ?_
            refine TL.op (yq (y_move (ev_t rfl))) rfl rfl rfl ?_
            refine TL.opw (w_f rfl rfl rfl) (fun hg => yq (y_move (ev_t rfl))) rfl rfl ?_
            refine TL.opw (w_f rfl rfl rfl) (fun hg => yq (y_move (ev_t rfl))) rfl rfl ?_
            refine TL.opw (w_f rfl rfl rfl) (fun hg => yq (y_neq (ev_g rfl hg) (ev_g rfl hg))) rfl rfl ?_
            refine TL.op (yq (y_or (ev_t rfl) (fun hq => (ev_g rfl hq)))) rfl rfl rfl ?_
            refine TL.op (yq (y_move (ev_t rfl))) rfl rfl rfl ?_
            refine TL.opw (w_f rfl rfl rfl) (fun hg => yq (y_move (ev_t rfl))) rfl rfl ?_
            refine TL.opw (w_f rfl rfl rfl) (fun hg => yq (y_move (ev_t rfl))) rfl rfl ?_
            refine TL.opw (w_f rfl rfl rfl) (fun hg => yq (y_bneq (ev_g rfl hg) (ev_g rfl hg) Try.underlying4)) rfl rfl ?_
            refine TL.op (yq (y_or (ev_t rfl) (fun hq => (ev_g rfl hq)))) rfl rfl rfl ?_
            refine TL.nil ?_
            refine TN.seq ?_
            refine TC.cond (b := ((((decide ((F_laws_markIntS (F_laws_toIntS reqs) ((F_laws_markIntS (F_laws_toIntS row) 1).1)).1 < 0)) || (!(F_laws_eqIntSS ((F_impl_CoverRun (F_laws_toIntS row) (F_laws_toIntS reqs)).1) ((F_spec_CoverRun (F_laws_toIntS row) (F_laws_toIntS reqs)).1)))) || (!decide ((F_impl_CoverRun (F_laws_toIntS row) (F_laws_toIntS reqs)).2.1 = (F_spec_CoverRun (F_laws_toIntS row) (F_laws_toIntS reqs)).2.1))) || (((F_impl_CoverRun (F_laws_toIntS row) (F_laws_toIntS reqs)).2.2) != ((F_spec_CoverRun (F_laws_toIntS row) (F_laws_toIntS reqs)).2.2)))) (ev_t rfl) (fun h33 => ?_) (fun h33 => ?_)
            · rw [bif_pos h33] at hF
              have q34 := ((or_t h33).imp (fun h => ((or_t h).imp (fun h => ((or_t h).imp (fun h => (of_decide_eq_true h)) (fun h => (not_t h)))) (fun h => (of_decide_eq_false (not_t h))))) (fun h => h))
              refine TC.seq ?_
              refine TC.region ?_
              refine TL.op (yq (y_assign ev_c)) rfl rfl rfl ?_
              refine TL.nil ?_
              refine TN.seq ?_
              refine TC.ret ?_
              refine TN.thenR ?_
              subst hF
              exact TN.ret1 rfl (ev_t rfl) (fun w' hw => ⟨rfl, Hp.sublist hw (List.nil_sublist _)⟩)
            · rw [bif_neg h33] at hF
              have q34 := (and_imp (or_f h33) (fun h => (and_imp (or_f h) (fun h => (and_imp (or_f h) (fun h => (of_decide_eq_false h)) (fun h => (not_f h)))) (fun h => (of_decide_eq_true (not_f h))))) (fun h => h))
              refine TC.skip ?_
              refine TN.seq ?_
              refine TC.seq ?_
              refine TC.region ?_
              refine TL.op (yq (y_assign ev_c)) rfl rfl rfl ?_
              refine TL.nil ?_
              refine TN.seq ?_
              refine TC.seq ?_
              refine TC.region ?_
              refine TL.op (yq (y_move (ev_t rfl))) rfl rfl rfl ?_
              refine TL.op (yq (y_move (ev_t rfl))) rfl rfl rfl ?_
              refine TL.callm (ι := Unit) 2 (vs := [r8_2.1, (.int .i64 1)]) (fun _ => (.int .i64 ((F_laws_markIntSS ((F_impl_CoverRun (F_laws_toIntS row) (F_laws_toIntS reqs)).1) 1).1))) (fun _ => tabI 25 3 r8_2.1 r8_2.2 ((F_laws_markIntSS ((F_impl_CoverRun (F_laws_toIntS row) (F_laws_toIntS reqs)).1) 1).2)) en_32 ⟨(ev_t rfl), (ev_t rfl), trivial⟩ rfl rfl (fun w1 fr1 hw => laws_markIntSS_ok w w1 fr1 r8_2.1 r8_2.2 ((F_impl_CoverRun (F_laws_toIntS row) (F_laws_toIntS reqs)).1) hw 1 (by first | assumption | omega | grind) (by first | assumption | omega | grind)) (fun _ => ?_)
              refine TL.op (yq (y_assign (ev_t rfl))) rfl rfl rfl ?_
              refine TL.nil ?_
              refine TN.seq ?_
              refine TC.seq ?_
              refine TC.region ?_
              refine TL.op (yq (y_assign ev_c)) rfl rfl rfl ?_
              refine TL.nil ?_
              refine TN.seq ?_
              refine TC.seq ?_
              refine TC.region ?_
              refine TL.op (yq (y_move (ev_t rfl))) rfl rfl rfl ?_
              refine TL.op (yq (y_move (ev_t rfl))) rfl rfl rfl ?_
              refine TL.op (y_call (vs := [r8_2.1, (.int .i64 1)]) (v := (.int .i64 (F_laws_heldIntSS ((F_laws_markIntSS ((F_impl_CoverRun (F_laws_toIntS row) (F_laws_toIntS reqs)).1) 1).2) 1))) en_33 ⟨(ev_t rfl), (ev_t rfl), trivial⟩ (fun w hw => laws_heldIntSS_ok w r8_2.1 r8_2.2 ((F_laws_markIntSS ((F_impl_CoverRun (F_laws_toIntS row) (F_laws_toIntS reqs)).1) 1).2) ((rii_tab 2 rfl) w hw) 1 (by first | assumption | omega | grind) (by first | assumption | omega | grind))) rfl rfl rfl ?_
              refine TL.op (yq (y_assign (ev_t rfl))) rfl rfl rfl ?_
              refine TL.nil ?_
              refine TN.seq ?_
              refine TC.seq ?_
              refine TC.seq ?_
              refine TC.region ?_
              refine TL.op (yq (y_move (ev_t rfl))) rfl rfl rfl ?_
              refine TL.op (yq (y_lss (ev_t rfl) ev_c)) rfl rfl rfl ?_
              refine TL.nil ?_
              refine TN.seq ?_
              refine TC.cond (b := decide ((F_laws_heldIntSS ((F_laws_markIntSS ((F_impl_CoverRun (F_laws_toIntS row) (F_laws_toIntS reqs)).1) 1).2) 1) < 0)) (ev_t rfl) (fun h35 => ?_) (fun h35 => ?_)
              · rw [bif_pos h35] at hF
                have q36 := (of_decide_eq_true h35)
                refine TC.seq ?_
                refine TC.region ?_
                refine TL.op (yq (y_assign ev_c)) rfl rfl rfl ?_
                refine TL.nil ?_
                refine TN.seq ?_
                refine TC.ret ?_
                refine TN.thenR ?_
                subst hF
                exact TN.ret1 rfl (ev_t rfl) (fun w' hw => ⟨rfl, Hp.sublist hw (List.nil_sublist _)⟩)
              · rw [bif_neg h35] at hF
                have q36 := (of_decide_eq_false h35)
                refine TC.skip ?_
                refine TN.seq ?_
                refine TC.seq ?_
                refine TC.seq ?_
                refine TC.region ?_
                refine TL.op (yq (y_move (ev_t rfl))) rfl rfl rfl ?_
                refine TL.op (yq (y_move (ev_t rfl))) rfl rfl rfl ?_
                refine TL.op (yq (y_neq (ev_t rfl) (ev_t rfl))) rfl rfl rfl ?_
                refine TL.nil ?_
                refine TN.seq ?_
                refine TC.cond (b := !decide ((F_laws_heldIntSS ((F_laws_markIntSS ((F_impl_CoverRun (F_laws_toIntS row) (F_laws_toIntS reqs)).1) 1).2) 1) = (F_laws_markIntSS ((F_impl_CoverRun (F_laws_toIntS row) (F_laws_toIntS reqs)).1) 1).1)) (ev_t rfl) (fun h37 => ?_) (fun h37 => ?_)
                · rw [bif_pos h37] at hF
                  have q38 := (of_decide_eq_false (not_t h37))
                  refine TC.seq ?_
                  refine TC.region ?_
                  refine TL.op (yq (y_assign ev_c)) rfl rfl rfl ?_
                  refine TL.nil ?_
                  refine TN.seq ?_
                  refine TC.ret ?_
                  refine TN.thenR ?_
                  subst hF
                  exact TN.ret1 rfl (ev_t rfl) (fun w' hw => ⟨rfl, Hp.sublist hw (List.nil_sublist _)⟩)
                · rw [bif_neg h37] at hF
                  have q38 := (of_decide_eq_true (not_f h37))
                  refine TC.skip ?_
                  refine TN.seq ?_
                  refine TC.seq ?_
                  refine TC.region ?_
                  refine TL.op (yq (y_move (ev_t rfl))) rfl rfl rfl ?_
                  refine TL.callr (ι := Value) (vs := [vrow]) (fun i => i) (fun i => [rowI 3 i (F_laws_toIntS row)]) en_18 ⟨(ev_t rfl), trivial⟩ rfl (fun w hw => laws_toIntS_ok w vrow row ((ri_arg hrow) w hw) (by first | assumption | omega | grind)) (fun r28_1 => ?_)
                  refine TL.op (yq (y_move (ev_t rfl))) rfl rfl rfl ?_
                  refine TL.callr (ι := Value) (vs := [vreqs]) (fun i => i) (fun i => [rowI 3 i (F_laws_toIntS reqs)]) en_18 ⟨(ev_t rfl), trivial⟩ rfl (fun w hw => laws_toIntS_ok w vreqs reqs ((ri_arg hreqs) w hw) (by first | assumption | omega | grind)) (fun r28_3 => ?_)
                  refine TL.callr (ι := Value × List Value) (vs := [r28_1, r28_3]) (fun i => (.tuple #[i.1, (.int .i64 ((F_impl_CoverRun (F_laws_toIntS row) (F_laws_toIntS reqs)).2.1)), (.bool ((F_impl_CoverRun (F_laws_toIntS row) (F_laws_toIntS reqs)).2.2))])) (fun i => [tabI 25 3 i.1 i.2 ((F_impl_CoverRun (F_laws_toIntS row) (F_laws_toIntS reqs)).1)]) en_30 ⟨(ev_t rfl), (ev_t rfl), trivial⟩ rfl (fun w hw => impl_CoverRun_ok w r28_1 (F_laws_toIntS row) ((ri_row 1 rfl) w hw) r28_3 (F_laws_toIntS reqs) ((ri_row 0 rfl) w hw)) (fun r28_4 => ?_)
                  refine TL.op (yq (y_move (ev_t rfl))) rfl rfl rfl ?_
                  refine TL.op (yq (y_extract (ev_t rfl) rfl)) rfl rfl rfl ?_
                  refine TL.op (yq (y_extract (ev_t rfl) rfl)) rfl rfl rfl ?_
                  refine TL.op (yq (y_extract (ev_t rfl) rfl)) rfl rfl rfl ?_
                  refine TL.op (yq (y_assign (ev_t rfl))) rfl rfl rfl ?_
                  refine TL.op (yq (y_assign (ev_t rfl))) rfl rfl rfl ?_
                  refine TL.op (yq (y_assign (ev_t rfl))) rfl rfl rfl ?_
                  refine TL.nil ?_
                  refine TN.seq ?_
                  refine TC.seq ?_
                  refine TC.seq ?_
                  refine TC.region ?_
                  refine TL.op (yq (y_move (ev_t rfl))) rfl rfl rfl ?_
                  refine TL.op (yq (y_move (ev_t rfl))) rfl rfl rfl ?_
                  refine TL.op (y_call (vs := [r28_4.1, r5_4.1]) (v := (.bool (F_laws_eqIntSS ((F_impl_CoverRun (F_laws_toIntS row) (F_laws_toIntS reqs)).1) ((F_spec_CoverRun (F_laws_toIntS row) (F_laws_toIntS reqs)).1)))) en_31 ⟨(ev_t rfl), (ev_t rfl), trivial⟩ (fun w hw => laws_eqIntSS_ok w r28_4.1 r28_4.2 ((F_impl_CoverRun (F_laws_toIntS row) (F_laws_toIntS reqs)).1) ((rii_tab 0 rfl) w hw) r5_4.1 r5_4.2 ((F_spec_CoverRun (F_laws_toIntS row) (F_laws_toIntS reqs)).1) ((rii_tab 8 rfl) w hw))) rfl rfl rfl ?_
                  refine TL.op (yq (y_not (ev_t rfl))) rfl rfl rfl ?_
                  refine TL.op (yq (y_move (ev_t rfl))) rfl rfl rfl ?_
                  refine TL.opw (w_f rfl rfl rfl) (fun hg => yq (y_move (ev_t rfl))) rfl rfl ?_
                  refine TL.opw (w_f rfl rfl rfl) (fun hg => yq (y_move (ev_t rfl))) rfl rfl ?_
                  refine TL.opw (w_f rfl rfl rfl) (fun hg => yq (y_neq (ev_g rfl hg) (ev_g rfl hg))) rfl rfl ?_
                  refine TL.op (yq (y_or (ev_t rfl) (fun hq => (ev_g rfl hq)))) rfl rfl rfl ?_
                  refine TL.op (yq (y_move (ev_t rfl))) rfl rfl rfl ?_
                  refine TL.opw (w_f rfl rfl rfl) (fun hg => yq (y_move (ev_t rfl))) rfl rfl ?_
                  refine TL.opw (w_f rfl rfl rfl) (fun hg => yq (y_move (ev_t rfl))) rfl rfl ?_
                  refine TL.opw (w_f rfl rfl rfl) (fun hg => yq (y_bneq (ev_g rfl hg) (ev_g rfl hg) Try.underlying4)) rfl rfl ?_
                  refine TL.op (yq (y_or (ev_t rfl) (fun hq => (ev_g rfl hq)))) rfl rfl rfl ?_
                  refine TL.nil ?_
                  refine TN.seq ?_
                  refine TC.condF (ev_t rfl) h27 ?_
                  refine TC.skip ?_
                  refine TN.seq ?_
                  refine TC.seq ?_
                  refine TC.region ?_
                  refine TL.op (yq (y_assign ev_c)) rfl rfl rfl ?_
                  refine TL.nil ?_
                  refine TN.seq ?_
                  refine TC.seq ?_
                  refine TC.region ?_
                  refine TL.op (yq (y_move (ev_t rfl))) rfl rfl rfl ?_
                  refine TL.op (yq (y_move (ev_t rfl))) rfl rfl rfl ?_
                  refine TL.op (y_call (vs := [r8_2.1, (.int .i64 1)]) (v := (.int .i64 (F_laws_heldIntSS ((F_laws_markIntSS ((F_impl_CoverRun (F_laws_toIntS row) (F_laws_toIntS reqs)).1) 1).2) 1))) en_33 ⟨(ev_t rfl), (ev_t rfl), trivial⟩ (fun w hw => laws_heldIntSS_ok w r8_2.1 r8_2.2 ((F_laws_markIntSS ((F_impl_CoverRun (F_laws_toIntS row) (F_laws_toIntS reqs)).1) 1).2) ((rii_tab 5 rfl) w hw) 1 (by first | assumption | omega | grind) (by first | assumption | omega | grind))) rfl rfl rfl ?_
                  refine TL.op (yq (y_assign (ev_t rfl))) rfl rfl rfl ?_
                  refine TL.nil ?_
                  refine TN.seq ?_
                  refine TC.seq ?_
                  refine TC.seq ?_
                  refine TC.region ?_
                  refine TL.op (yq (y_move (ev_t rfl))) rfl rfl rfl ?_
                  refine TL.op (yq (y_lss (ev_t rfl) ev_c)) rfl rfl rfl ?_
                  refine TL.nil ?_
                  refine TN.seq ?_
                  refine TC.condF (ev_t rfl) h35 ?_
                  refine TC.skip ?_
                  refine TN.seq ?_
                  refine TC.seq ?_
                  refine TC.seq ?_
                  refine TC.region ?_
                  refine TL.op (yq (y_move (ev_t rfl))) rfl rfl rfl ?_
                  refine TL.op (yq (y_move (ev_t rfl))) rfl rfl rfl ?_
                  refine TL.op (yq (y_neq (ev_t rfl) (ev_t rfl))) rfl rfl rfl ?_
                  refine TL.nil ?_
                  refine TN.seq ?_
                  refine TC.condF (ev_t rfl) h37 ?_
                  refine TC.skip ?_
                  refine TN.seq ?_
                  refine TC.seq ?_
                  refine TC.region ?_
                  refine TL.op (yq (y_assign ev_c)) rfl rfl rfl ?_
                  refine TL.nil ?_
                  refine TN.seq ?_
                  refine TC.ret ?_
                  subst hF
                  exact TN.ret1 rfl (ev_t rfl) (fun w' hw => ⟨rfl, Hp.sublist hw (List.nil_sublist _)⟩)


end Go.Proofs.Ytcfjjnajeccbhaa
