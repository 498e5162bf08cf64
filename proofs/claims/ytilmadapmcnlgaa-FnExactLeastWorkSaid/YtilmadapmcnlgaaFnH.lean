/-
  Walks of functions of the program: each computes its plain function. No condition but the bounds that are typed.
-/
import Derived.Test.YtilmadapmcnlgaaFnG
import Derived.Test.YtilmadapmcnlgaaDefH
import Derived.Test.YtilmadapmcnlgaaLawServe
namespace Go.Proofs.Ytilmadapmcnlgaa
open Go Go.RowKit

set_option maxRecDepth 4000 in
set_option maxHeartbeats 1000000 in
theorem impl_isServed_ok (w : World) (vm : Value) (um : List Value) (m : List (List Int)) (hm : RII w vm um m) (va : Value) (a : List Int) (ha : RI w va a) (vreqs : Value) (reqs : List Int) (hreqs : RI w vreqs reqs)  :
    Calls Try.prog 67 ([(.agg #[vm]), va, vreqs] : List Value).toArray w (Ret (.bool (F_impl_isServed m a reqs)) (Hp w [])) := by
  obtain ⟨rz, hF⟩ : ∃ rz, (F_impl_isServed m a reqs) = rz := ⟨_, rfl⟩
  rw [hF]
  unfold F_impl_isServed at hF
  have hlen_m := argT_len hm
  have hlen_a := arg_len ha
  have hlen_reqs := arg_len hreqs
  refine calls_tc Try.func67 rfl rfl rfl ?_
  change TC _ _ _ _ (Hp w []) [(0, (.agg #[vm])), (1, va), (2, vreqs)]
  refine TC.seq ?_
  refine TC.region ?_
  refine TL.box (ev_t rfl) rfl (fun g0_0 => ?_)
  refine TL.op (yq (y_assign ev_c)) rfl rfl rfl ?_
  refine TL.nil ?_
  refine TN.seq ?_
  refine TC.seq ?_
  refine TC.region ?_
  refine TL.op (yq (y_ldagg (cs := [vm]) 0 (ev_t rfl) agg_29 rfl)) rfl rfl rfl ?_
  refine TL.op (y_call (vs := [(.agg #[vm])]) (v := (.bool (F_impl_IsMetric m))) en_77 ⟨(ev_t rfl), trivial⟩ (fun w hw => impl_IsMetric_ok w vm um m ((rii_arg hm) w hw))) rfl rfl rfl ?_
  refine TL.op (yq (y_move (ev_t rfl))) rfl rfl rfl ?_
  refine TL.opw (w_t rfl rfl rfl) (fun hg => yq (y_ldagg (cs := [vm]) 0 (ev_t rfl) agg_29 rfl)) rfl rfl ?_
  refine TL.opw (w_t rfl rfl rfl) (fun hg => yq (y_move (ev_t rfl))) rfl rfl ?_
  refine TL.opw (w_t rfl rfl rfl) (fun hg => y_call (vs := [(.agg #[vm]), va]) (v := (.bool (F_impl_Metric_isConfig m a))) en_70 ⟨(ev_g rfl hg), (ev_g rfl hg), trivial⟩ (fun w hw => impl_Metric_isConfig_ok w vm um m ((rii_arg hm) w hw) va a ((ri_arg ha) w hw))) rfl rfl ?_
  refine TL.op (yq (y_and (ev_t rfl) (fun hq => (ev_g rfl hq)))) rfl rfl rfl ?_
  refine TL.op (yq (y_move (ev_t rfl))) rfl rfl rfl ?_
  refine TL.opw (w_t rfl rfl rfl) (fun hg => yq (y_move (ev_t rfl))) rfl rfl ?_
  refine TL.opw (w_t rfl rfl rfl) (fun hg => yq (y_len (ev_g rfl hg) Try.underlying25 (fun w hw => ((ri_arg hreqs) w hw).ln))) rfl rfl ?_
  refine TL.opw (w_t rfl rfl rfl) (fun hg => yq (y_leq (ev_g rfl hg) ev_c)) rfl rfl ?_
  refine TL.op (yq (y_and (ev_t rfl) (fun hq => (ev_g rfl hq)))) rfl rfl rfl ?_
  refine TL.op (yq (y_move (ev_t rfl))) rfl rfl rfl ?_
  refine TL.opw (w_t rfl rfl rfl) (fun hg => yq (y_fa (fa_29_0 g0_0) (ev_t rfl))) rfl rfl ?_
  refine TL.opw (w_t rfl rfl rfl) (fun hg => yq (y_ldb 0 (ev_g rfl hg) one_22 rfl rfl)) rfl rfl ?_
  refine TL.opw (w_t rfl rfl rfl) (fun hg => yq (y_len (ev_g rfl hg) Try.underlying22 (fun w hw => ((fun w hw => ((rii_arg hm) w hw).1) w hw).ln))) rfl rfl ?_
  refine TL.opw (w_t rfl rfl rfl) (fun hg => yq (y_move (ev_t rfl))) rfl rfl ?_
  refine TL.opw (w_t rfl rfl rfl) (fun hg => y_call (vs := [(.int .i64 (m.length : Int)), vreqs]) (v := (.bool (F_impl_areBelow (m.length : Int) reqs))) en_101 ⟨(ev_g rfl hg), (ev_g rfl hg), trivial⟩ (fun w hw => impl_areBelow_ok w (m.length : Int) vreqs reqs ((ri_arg hreqs) w hw) (by have hgf := (and_imp (and_t hg) (fun h => (and_imp (and_t h) (fun h => (isMetric_t h)) (fun h => (isConfig_t h)))) (fun h => (of_decide_eq_true h))); first | assumption | omega | (have hq := hgf.n6; omega) | (have hq := hgf.1.n6; omega) | grind) (by have hgf := (and_imp (and_t hg) (fun h => (and_imp (and_t h) (fun h => (isMetric_t h)) (fun h => (isConfig_t h)))) (fun h => (of_decide_eq_true h))); first | assumption | omega | (have hq := hgf.n6; omega) | (have hq := hgf.1.n6; omega) | grind))) rfl rfl ?_
  refine TL.op (yq (y_and (ev_t rfl) (fun hq => (ev_g rfl hq)))) rfl rfl rfl ?_
  refine TL.op (yq (y_assign (ev_t rfl))) rfl rfl rfl ?_
  refine TL.nil ?_
  refine TN.seq ?_
  refine TC.ret ?_
  subst hF
  exact TN.ret1 rfl (ev_t rfl) (fun w' hw => ⟨rfl, Hp.sublist hw (List.nil_sublist _)⟩)

set_option maxRecDepth 4000 in
set_option maxHeartbeats 1000000 in
theorem spec_l6Start_ok (w : World) (vm : Value) (um : List Value) (m : List (List Int)) (hm : RII w vm um m) (vstart : Value) (start : List Int) (hstart : RI w vstart start) (vreqs : Value) (reqs : List Int) (hreqs : RI w vreqs reqs)  :
    Calls Try.prog 84 ([(.agg #[vm]), vstart, vreqs] : List Value).toArray w (Ret (.bool (F_spec_l6Start m start reqs)) (Hp w [])) := by
  obtain ⟨rz, hF⟩ : ∃ rz, (F_spec_l6Start m start reqs) = rz := ⟨_, rfl⟩
  rw [hF]
  unfold F_spec_l6Start at hF
  have hlen_m := argT_len hm
  have hlen_start := arg_len hstart
  have hlen_reqs := arg_len hreqs
  refine calls_tc Try.func84 rfl rfl rfl ?_
  change TC _ _ _ _ (Hp w []) [(0, (.agg #[vm])), (1, vstart), (2, vreqs)]
  refine TC.seq ?_
  refine TC.region ?_
  refine TL.box (ev_t rfl) rfl (fun g0_0 => ?_)
  refine TL.op (yq (y_assign ev_c)) rfl rfl rfl ?_
  refine TL.nil ?_
  refine TN.seq ?_
  refine TC.seq ?_
  refine TC.region ?_
  refine TL.op (yq (y_ldagg (cs := [vm]) 0 (ev_t rfl) agg_29 rfl)) rfl rfl rfl ?_
  refine TL.op (y_call (vs := [(.agg #[vm])]) (v := (.bool (F_spec_l6Good m))) en_64 ⟨(ev_t rfl), trivial⟩ (fun w hw => spec_l6Good_ok w vm um m ((rii_arg hm) w hw))) rfl rfl rfl ?_
  refine TL.op (yq (y_move (ev_t rfl))) rfl rfl rfl ?_
  refine TL.opw (w_t rfl rfl rfl) (fun hg => yq (y_fa (fa_29_0 g0_0) (ev_t rfl))) rfl rfl ?_
  refine TL.opw (w_t rfl rfl rfl) (fun hg => yq (y_ldb 0 (ev_g rfl hg) one_22 rfl rfl)) rfl rfl ?_
  refine TL.opw (w_t rfl rfl rfl) (fun hg => yq (y_len (ev_g rfl hg) Try.underlying22 (fun w hw => ((fun w hw => ((rii_arg hm) w hw).1) w hw).ln))) rfl rfl ?_
  refine TL.opw (w_t rfl rfl rfl) (fun hg => yq (y_move (ev_t rfl))) rfl rfl ?_
  refine TL.opw (w_t rfl rfl rfl) (fun hg => y_call (vs := [(.int .i64 (m.length : Int)), vstart]) (v := (.bool (F_spec_l6Config (m.length : Int) start))) en_65 ⟨(ev_g rfl hg), (ev_g rfl hg), trivial⟩ (fun w hw => spec_l6Config_ok w (m.length : Int) vstart start ((ri_arg hstart) w hw) (by have hgf := (l6Good_t hg); first | assumption | omega | (have hq := hgf.n6; omega) | (have hq := hgf.1.n6; omega) | grind) (by have hgf := (l6Good_t hg); first | assumption | omega | (have hq := hgf.n6; omega) | (have hq := hgf.1.n6; omega) | grind))) rfl rfl ?_
  refine TL.op (yq (y_and (ev_t rfl) (fun hq => (ev_g rfl hq)))) rfl rfl rfl ?_
  refine TL.op (yq (y_move (ev_t rfl))) rfl rfl rfl ?_
  refine TL.opw (w_t rfl rfl rfl) (fun hg => yq (y_move (ev_t rfl))) rfl rfl ?_
  refine TL.opw (w_t rfl rfl rfl) (fun hg => yq (y_len (ev_g rfl hg) Try.underlying25 (fun w hw => ((ri_arg hreqs) w hw).ln))) rfl rfl ?_
  refine TL.opw (w_t rfl rfl rfl) (fun hg => yq (y_leq (ev_g rfl hg) ev_c)) rfl rfl ?_
  refine TL.op (yq (y_and (ev_t rfl) (fun hq => (ev_g rfl hq)))) rfl rfl rfl ?_
  refine TL.op (yq (y_move (ev_t rfl))) rfl rfl rfl ?_
  refine TL.opw (w_t rfl rfl rfl) (fun hg => yq (y_fa (fa_29_0 g0_0) (ev_t rfl))) rfl rfl ?_
  refine TL.opw (w_t rfl rfl rfl) (fun hg => yq (y_ldb 0 (ev_g rfl hg) one_22 rfl rfl)) rfl rfl ?_
  refine TL.opw (w_t rfl rfl rfl) (fun hg => yq (y_len (ev_g rfl hg) Try.underlying22 (fun w hw => ((fun w hw => ((rii_arg hm) w hw).1) w hw).ln))) rfl rfl ?_
  refine TL.opw (w_t rfl rfl rfl) (fun hg => yq (y_move (ev_t rfl))) rfl rfl ?_
  refine TL.opw (w_t rfl rfl rfl) (fun hg => y_call (vs := [(.int .i64 (m.length : Int)), vreqs]) (v := (.bool (F_spec_l6List (m.length : Int) reqs))) en_105 ⟨(ev_g rfl hg), (ev_g rfl hg), trivial⟩ (fun w hw => spec_l6List_ok w (m.length : Int) vreqs reqs ((ri_arg hreqs) w hw) (by have hgf := (and_imp (and_t hg) (fun h => (and_imp (and_t h) (fun h => (l6Good_t h)) (fun h => (l6Config_t h)))) (fun h => (of_decide_eq_true h))); first | assumption | omega | (have hq := hgf.n6; omega) | (have hq := hgf.1.n6; omega) | grind) (by have hgf := (and_imp (and_t hg) (fun h => (and_imp (and_t h) (fun h => (l6Good_t h)) (fun h => (l6Config_t h)))) (fun h => (of_decide_eq_true h))); first | assumption | omega | (have hq := hgf.n6; omega) | (have hq := hgf.1.n6; omega) | grind))) rfl rfl ?_
  refine TL.op (yq (y_and (ev_t rfl) (fun hq => (ev_g rfl hq)))) rfl rfl rfl ?_
  refine TL.op (yq (y_assign (ev_t rfl))) rfl rfl rfl ?_
  refine TL.nil ?_
  refine TN.seq ?_
  refine TC.ret ?_
  subst hF
  exact TN.ret1 rfl (ev_t rfl) (fun w' hw => ⟨rfl, Hp.sublist hw (List.nil_sublist _)⟩)


end Go.Proofs.Ytilmadapmcnlgaa
