/-
  Walks of functions of the program: each computes its plain function. No condition but the bounds that are typed.
-/
import Derived.Test.YtfhhfhiooehlcaaTU
import Derived.Test.YtfhhfhiooehlcaaT4
import Derived.Test.YtfhhfhiooehlcaaLawMtr
namespace Go.Proofs.Ytfhhfhiooehlcaa
open Go Go.RowKit

set_option maxRecDepth 4000 in
set_option maxHeartbeats 1000000 in
theorem laws_FnMetrics_ok (w : World) (vcode : Value) (code : List Int) (hcode : RB w vcode code)  :
    Calls Try.prog 5 ([vcode] : List Value).toArray w (Ret (.bool (F_laws_FnMetrics code)) (Hp w [])) := by
  obtain ⟨rz, hF⟩ : ∃ rz, (F_laws_FnMetrics code) = rz := ⟨_, rfl⟩
  rw [hF]
  unfold F_laws_FnMetrics at hF
  have hlen_code := argB_len hcode
  refine calls_tc Try.func5 rfl rfl rfl ?_
  change TC _ _ _ _ (Hp w []) [(0, vcode)]
  refine TC.seq ?_
  refine TC.region ?_
  refine TL.op (yq (y_assign ev_c)) rfl rfl rfl ?_
  refine TL.nil ?_
  refine TN.seq ?_
  refine TC.seq ?_
  refine TC.seq ?_
  refine TC.region ?_
  refine TL.op (yq (y_move (ev_t rfl))) rfl rfl rfl ?_
  refine TL.op (y_call (vs := [vcode]) (v := (.bool (F_laws_rBig code))) en_16 ⟨(ev_t rfl), trivial⟩ (fun w hw => laws_rBig_ok w vcode code (rb_arg hcode hw))) rfl rfl rfl ?_
  refine TL.nil ?_
  refine TN.seq ?_
  refine TC.cond (b := (F_laws_rBig code)) (ev_t rfl) (fun h35 => ?_) (fun h35 => ?_)
  · rw [bif_pos h35] at hF
    have q36 := h35
    refine TC.seq ?_
    refine TC.region ?_
    refine TL.op (yq (y_assign ev_c)) rfl rfl rfl ?_
    refine TL.nil ?_
    refine TN.seq ?_
    refine TC.ret ?_
    refine TN.thenR ?_
    subst hF
    exact TN.ret1 rfl (ev_t rfl) (fun w' hw => ⟨rfl, hw⟩)
  · rw [bif_neg h35] at hF
    have q36 := h35
    refine TC.skip ?_
    refine TN.seq ?_
    refine TC.seq ?_
    refine TC.region ?_
    refine TL.op (yq (y_move (ev_t rfl))) rfl rfl rfl ?_
    refine TL.callr (ι := Value × List Value) (vs := [vcode]) (fun i => (.tuple #[(.agg #[i.1]), (.int .i64 ((F_spec_DrawShortestWay code).2.1)), (.int .i64 ((F_spec_DrawShortestWay code).2.2))])) (fun i => [tabI 34 3 i.1 i.2 ((F_spec_DrawShortestWay code).1)]) en_25 ⟨(ev_t rfl), trivial⟩ rfl (fun w hw => spec_DrawShortestWay_ok w vcode code (rb_arg hcode hw)) (fun r3_1 => ?_)
    refine TL.op (yq (y_move (ev_t rfl))) rfl rfl rfl ?_
    refine TL.op (yq (y_extract (ev_t rfl) rfl)) rfl rfl rfl ?_
    refine TL.op (yq (y_extract (ev_t rfl) rfl)) rfl rfl rfl ?_
    refine TL.op (yq (y_extract (ev_t rfl) rfl)) rfl rfl rfl ?_
    refine TL.alloc (u := (.agg #[(.slice none 0 0)])) (by kernel_rfl) rfl (fun g3_6 => ?_)
    refine TL.storeAgg (cs := [(.slice none 0 0)]) (us := [r3_1.1]) 0 (ev_t rfl) (ev_t rfl) agg_45 rfl rfl (fun w hw => (ocs_cons (ln_one ((fun w hw => ((rii_tab 1 rfl) w hw).1) w hw).ln) ocs_nil)) ?_
    refine TL.op (yq (y_assign (ev_t rfl))) rfl rfl rfl ?_
    refine TL.op (yq (y_assign (ev_t rfl))) rfl rfl rfl ?_
    refine TL.nil ?_
    refine TN.seq ?_
    refine TC.seq ?_
    refine TC.region ?_
    refine TL.op (yq (y_ldagg (cs := [r3_1.1]) 0 (ev_t rfl) agg_45 rfl)) rfl rfl rfl ?_
    refine TL.callr (ι := Value × List Value) (vs := [(.agg #[r3_1.1])]) (fun i => (.tuple #[(.agg #[i.1]), (.bool ((F_impl_ClosedMetric ((F_spec_DrawShortestWay code).1)).2))])) (fun i => [tabI 34 3 i.1 i.2 ((F_impl_ClosedMetric ((F_spec_DrawShortestWay code).1)).1)]) en_26 ⟨(ev_t rfl), trivial⟩ rfl (fun w hw => impl_ClosedMetric_ok w r3_1.1 r3_1.2 ((F_spec_DrawShortestWay code).1) ((rii_tab 1 rfl) w hw)) (fun r4_1 => ?_)
    refine TL.op (yq (y_move (ev_t rfl))) rfl rfl rfl ?_
    refine TL.op (yq (y_extract (ev_t rfl) rfl)) rfl rfl rfl ?_
    refine TL.op (yq (y_extract (ev_t rfl) rfl)) rfl rfl rfl ?_
    refine TL.alloc (u := (.agg #[(.slice none 0 0)])) (by kernel_rfl) rfl (fun g4_5 => ?_)
    refine TL.storeAgg (cs := [(.slice none 0 0)]) (us := [r4_1.1]) 0 (ev_t rfl) (ev_t rfl) agg_45 rfl rfl (fun w hw => (ocs_cons (ln_one ((fun w hw => ((rii_tab 1 rfl) w hw).1) w hw).ln) ocs_nil)) ?_
    refine TL.op (yq (y_assign (ev_t rfl))) rfl rfl rfl ?_
    refine TL.nil ?_
    refine TN.seq ?_
    refine TC.seq ?_
    refine TC.seq ?_
    refine TC.region ?_
    refine TL.op (yq (y_ldagg (cs := [r3_1.1]) 2 (ev_t rfl) agg_45 rfl)) rfl rfl rfl ?_
    refine TL.callr (ι := Value × List Value) (vs := [(.agg #[r3_1.1])]) (fun i => (.tuple #[(.agg #[i.1]), (.bool ((F_spec_ClosedMetric ((F_spec_DrawShortestWay code).1)).2))])) (fun i => [tabI 34 3 i.1 i.2 ((F_spec_ClosedMetric ((F_spec_DrawShortestWay code).1)).1)]) en_27 ⟨(ev_t rfl), trivial⟩ rfl (fun w hw => spec_ClosedMetric_ok w r3_1.1 r3_1.2 ((F_spec_DrawShortestWay code).1) ((rii_tab 3 rfl) w hw)) (fun r5_1 => ?_)
    refine TL.op (yq (y_move (ev_t rfl))) rfl rfl rfl ?_
    refine TL.op (yq (y_extract (ev_t rfl) rfl)) rfl rfl rfl ?_
    refine TL.op (yq (y_extract (ev_t rfl) rfl)) rfl rfl rfl ?_
    refine TL.alloc (u := (.agg #[(.slice none 0 0)])) (by kernel_rfl) rfl (fun g5_5 => ?_)
    refine TL.storeAgg (cs := [(.slice none 0 0)]) (us := [r5_1.1]) 0 (ev_t rfl) (ev_t rfl) agg_45 rfl rfl (fun w hw => (ocs_cons (ln_one ((fun w hw => ((rii_tab 1 rfl) w hw).1) w hw).ln) ocs_nil)) ?_
    refine TL.op (yq (y_assign (ev_t rfl))) rfl rfl rfl ?_
    refine TL.nil ?_
    refine TN.seq ?_
    refine TC.seq ?_
    refine TC.region ?_
    refine TL.op (yq (y_move (ev_t rfl))) rfl rfl rfl ?_
    refine TL.op (yq (y_move (ev_t rfl))) rfl rfl rfl ?_
    refine TL.op (yq (y_bneq (ev_t rfl) (ev_t rfl) Try.underlying4)) rfl rfl rfl ?_
    refine TL.op (yq (y_move (ev_t rfl))) rfl rfl rfl ?_
    refine TL.opw (w_f rfl rfl rfl) (fun hg => yq (y_ldagg (cs := [r4_1.1]) 2 (ev_t rfl) agg_45 rfl)) rfl rfl ?_
    refine TL.opw (w_f rfl rfl rfl) (fun hg => yq (y_ldagg (cs := [r5_1.1]) 0 (ev_t rfl) agg_45 rfl)) rfl rfl ?_
    refine TL.opw (w_f rfl rfl rfl) (fun hg => y_call (vs := [(.agg #[r4_1.1]), (.agg #[r5_1.1])]) (v := (.bool (F_laws_rMetric ((F_impl_ClosedMetric ((F_spec_DrawShortestWay code).1)).1) ((F_spec_ClosedMetric ((F_spec_DrawShortestWay code).1)).1)))) en_28 ⟨(ev_g rfl hg), (ev_g rfl hg), trivial⟩ (fun w hw => laws_rMetric_ok w r4_1.1 r4_1.2 ((F_impl_ClosedMetric ((F_spec_DrawShortestWay code).1)).1) ((rii_tab 3 rfl) w hw) r5_1.1 r5_1.2 ((F_spec_ClosedMetric ((F_spec_DrawShortestWay code).1)).1) ((rii_tab 1 rfl) w hw))) rfl rfl ?_
    refine TL.opw (w_f rfl rfl rfl) (fun hg => yq (y_not (ev_g rfl hg))) rfl rfl ?_
    refine TL.op (yq (y_or (ev_t rfl) (fun hq => (ev_g rfl hq)))) rfl rfl rfl ?_
    refine TL.nil ?_
    refine TN.seq ?_
    refine TC.cond (b := ((((F_impl_ClosedMetric ((F_spec_DrawShortestWay code).1)).2) != ((F_spec_ClosedMetric ((F_spec_DrawShortestWay code).1)).2)) || (!(F_laws_rMetric ((F_impl_ClosedMetric ((F_spec_DrawShortestWay code).1)).1) ((F_spec_ClosedMetric ((F_spec_DrawShortestWay code).1)).1))))) (ev_t rfl) (fun h37 => ?_) (fun h37 => ?_)
    · rw [bif_pos h37] at hF
      have q38 := ((or_t h37).imp (fun h => h) (fun h => (not_t h)))
      refine TC.seq ?_
      refine TC.region ?_
      refine TL.op (yq (y_assign ev_c)) rfl rfl rfl ?_
      refine TL.nil ?_
      refine TN.seq ?_
      refine TC.ret ?_
      refine TN.thenR ?_
      subst hF
      exact TN.ret1 rfl (ev_t rfl) (fun w' hw => ⟨rfl, Hp.sublist hw (List.nil_sublist _)⟩)
    · rw [bif_neg h37] at hF
      have q38 := (and_imp (or_f h37) (fun h => h) (fun h => (not_f h)))
      refine TC.skip ?_
      refine TN.seq ?_
      refine TC.seq ?_
      refine TC.region ?_
      refine TL.op (yq (y_ldagg (cs := [r3_1.1]) 4 (ev_t rfl) agg_45 rfl)) rfl rfl rfl ?_
      refine TL.op (yq (y_move (ev_t rfl))) rfl rfl rfl ?_
      refine TL.op (yq (y_move (ev_t rfl))) rfl rfl rfl ?_
      refine TL.callr (ι := Value) (vs := [(.agg #[r3_1.1]), (.int .i64 ((F_spec_DrawShortestWay code).2.1)), (.int .i64 ((F_spec_DrawShortestWay code).2.2))]) (fun i => (.tuple #[i, (.bool ((F_impl_ShortestWay ((F_spec_DrawShortestWay code).1) ((F_spec_DrawShortestWay code).2.1) ((F_spec_DrawShortestWay code).2.2)).2))])) (fun i => [rowI 3 i ((F_impl_ShortestWay ((F_spec_DrawShortestWay code).1) ((F_spec_DrawShortestWay code).2.1) ((F_spec_DrawShortestWay code).2.2)).1)]) en_29 ⟨(ev_t rfl), (ev_t rfl), (ev_t rfl), trivial⟩ rfl (fun w hw => impl_ShortestWay_ok w r3_1.1 r3_1.2 ((F_spec_DrawShortestWay code).1) ((rii_tab 5 rfl) w hw) ((F_spec_DrawShortestWay code).2.1) ((F_spec_DrawShortestWay code).2.2)) (fun r8_3 => ?_)
      refine TL.op (yq (y_move (ev_t rfl))) rfl rfl rfl ?_
      refine TL.op (yq (y_extract (ev_t rfl) rfl)) rfl rfl rfl ?_
      refine TL.op (yq (y_extract (ev_t rfl) rfl)) rfl rfl rfl ?_
      refine TL.op (yq (y_assign (ev_t rfl))) rfl rfl rfl ?_
      refine TL.op (yq (y_assign (ev_t rfl))) rfl rfl rfl ?_
      refine TL.nil ?_
      refine TN.seq ?_
      refine TC.seq ?_
      refine TC.seq ?_
      refine TC.region ?_
      refine TL.op (yq (y_ldagg (cs := [r3_1.1]) 5 (ev_t rfl) agg_45 rfl)) rfl rfl rfl ?_
      refine TL.op (yq (y_move (ev_t rfl))) rfl rfl rfl ?_
      refine TL.op (yq (y_move (ev_t rfl))) rfl rfl rfl ?_
      refine TL.callr (ι := Value) (vs := [(.agg #[r3_1.1]), (.int .i64 ((F_spec_DrawShortestWay code).2.1)), (.int .i64 ((F_spec_DrawShortestWay code).2.2))]) (fun i => (.tuple #[i, (.bool ((F_spec_ShortestWay ((F_spec_DrawShortestWay code).1) ((F_spec_DrawShortestWay code).2.1) ((F_spec_DrawShortestWay code).2.2)).2))])) (fun i => [rowI 3 i ((F_spec_ShortestWay ((F_spec_DrawShortestWay code).1) ((F_spec_DrawShortestWay code).2.1) ((F_spec_DrawShortestWay code).2.2)).1)]) en_30 ⟨(ev_t rfl), (ev_t rfl), (ev_t rfl), trivial⟩ rfl (fun w hw => spec_ShortestWay_ok w r3_1.1 r3_1.2 ((F_spec_DrawShortestWay code).1) ((rii_tab 6 rfl) w hw) ((F_spec_DrawShortestWay code).2.1) ((F_spec_DrawShortestWay code).2.2)) (fun r9_3 => ?_)
      refine TL.op (yq (y_move (ev_t rfl))) rfl rfl rfl ?_
      refine TL.op (yq (y_extract (ev_t rfl) rfl)) rfl rfl rfl ?_
      refine TL.op (yq (y_extract (ev_t rfl) rfl)) rfl rfl rfl ?_
      refine TL.op (yq (y_assign (ev_t rfl))) rfl rfl rfl ?_
      refine TL.op (yq (y_assign (ev_t rfl))) rfl rfl rfl ?_
      refine TL.nil ?_
      refine TN.seq ?_
      refine TC.seq ?_
      refine TC.region ?_
      refine TL.op (yq (y_move (ev_t rfl))) rfl rfl rfl ?_
      refine TL.op (yq (y_move (ev_t rfl))) rfl rfl rfl ?_
      refine TL.op (yq (y_bneq (ev_t rfl) (ev_t rfl) Try.underlying4)) rfl rfl rfl ?_
      refine TL.op (yq (y_move (ev_t rfl))) rfl rfl rfl ?_
      refine TL.opw (w_f rfl rfl rfl) (fun hg => yq (y_move (ev_t rfl))) rfl rfl ?_
      refine TL.opw (w_f rfl rfl rfl) (fun hg => yq (y_move (ev_t rfl))) rfl rfl ?_
      refine TL.opw (w_f rfl rfl rfl) (fun hg => y_call (vs := [r8_3, r9_3]) (v := (.bool (F_laws_rInts ((F_impl_ShortestWay ((F_spec_DrawShortestWay code).1) ((F_spec_DrawShortestWay code).2.1) ((F_spec_DrawShortestWay code).2.2)).1) ((F_spec_ShortestWay ((F_spec_DrawShortestWay code).1) ((F_spec_DrawShortestWay code).2.1) ((F_spec_DrawShortestWay code).2.2)).1)))) en_22 ⟨(ev_g rfl hg), (ev_g rfl hg), trivial⟩ (fun w hw => laws_rInts_ok w r8_3 ((F_impl_ShortestWay ((F_spec_DrawShortestWay code).1) ((F_spec_DrawShortestWay code).2.1) ((F_spec_DrawShortestWay code).2.2)).1) ((ri_row 1 rfl) w hw) r9_3 ((F_spec_ShortestWay ((F_spec_DrawShortestWay code).1) ((F_spec_DrawShortestWay code).2.1) ((F_spec_DrawShortestWay code).2.2)).1) ((ri_row 0 rfl) w hw))) rfl rfl ?_
      refine TL.opw (w_f rfl rfl rfl) (fun hg => yq (y_not (ev_g rfl hg))) rfl rfl ?_
      refine TL.op (yq (y_or (ev_t rfl) (fun hq => (ev_g rfl hq)))) rfl rfl rfl ?_
      refine TL.nil ?_
      refine TN.seq ?_
      refine TC.cond (b := ((((F_impl_ShortestWay ((F_spec_DrawShortestWay code).1) ((F_spec_DrawShortestWay code).2.1) ((F_spec_DrawShortestWay code).2.2)).2) != ((F_spec_ShortestWay ((F_spec_DrawShortestWay code).1) ((F_spec_DrawShortestWay code).2.1) ((F_spec_DrawShortestWay code).2.2)).2)) || (!(F_laws_rInts ((F_impl_ShortestWay ((F_spec_DrawShortestWay code).1) ((F_spec_DrawShortestWay code).2.1) ((F_spec_DrawShortestWay code).2.2)).1) ((F_spec_ShortestWay ((F_spec_DrawShortestWay code).1) ((F_spec_DrawShortestWay code).2.1) ((F_spec_DrawShortestWay code).2.2)).1))))) (ev_t rfl) (fun h39 => ?_) (fun h39 => ?_)
      · rw [bif_pos h39] at hF
        have q40 := ((or_t h39).imp (fun h => h) (fun h => (not_t h)))
        refine TC.seq ?_
        refine TC.region ?_
        refine TL.op (yq (y_assign ev_c)) rfl rfl rfl ?_
        refine TL.nil ?_
        refine TN.seq ?_
        refine TC.ret ?_
        refine TN.thenR ?_
        subst hF
        exact TN.ret1 rfl (ev_t rfl) (fun w' hw => ⟨rfl, Hp.sublist hw (List.nil_sublist _)⟩)
      · rw [bif_neg h39] at hF
        have q40 := (and_imp (or_f h39) (fun h => h) (fun h => (not_f h)))
        refine TC.skip ?_
        refine TN.seq ?_
        refine TC.seq ?_
        refine TC.region ?_
        refine TL.op (yq (y_ldagg (cs := [r3_1.1]) 6 (ev_t rfl) agg_45 rfl)) rfl rfl rfl ?_
        refine TL.op (y_call (vs := [(.agg #[r3_1.1])]) (v := (.bool (F_impl_IsMetric ((F_spec_DrawShortestWay code).1)))) en_31 ⟨(ev_t rfl), trivial⟩ (fun w hw => impl_IsMetric_ok w r3_1.1 r3_1.2 ((F_spec_DrawShortestWay code).1) ((rii_tab 7 rfl) w hw))) rfl rfl rfl ?_
        refine TL.op (yq (y_assign (ev_t rfl))) rfl rfl rfl ?_
        refine TL.nil ?_
        refine TN.seq ?_
        refine TC.seq ?_
        refine TC.seq ?_
        refine TC.region ?_
        refine TL.op (yq (y_move (ev_t rfl))) rfl rfl rfl ?_
        refine TL.op (yq (y_move (ev_t rfl))) rfl rfl rfl ?_
        refine TL.opw (w_t rfl rfl rfl) (fun hg => yq (y_ldagg (cs := [r4_1.1]) 4 (ev_t rfl) agg_45 rfl)) rfl rfl ?_
        refine TL.opw (w_t rfl rfl rfl) (fun hg => y_call (vs := [(.agg #[r4_1.1])]) (v := (.bool (F_impl_IsMetric ((F_impl_ClosedMetric ((F_spec_DrawShortestWay code).1)).1)))) en_31 ⟨(ev_g rfl hg), trivial⟩ (fun w hw => impl_IsMetric_ok w r4_1.1 r4_1.2 ((F_impl_ClosedMetric ((F_spec_DrawShortestWay code).1)).1) ((rii_tab 5 rfl) w hw))) rfl rfl ?_
        refine TL.opw (w_t rfl rfl rfl) (fun hg => yq (y_not (ev_g rfl hg))) rfl rfl ?_
        refine TL.op (yq (y_and (ev_t rfl) (fun hq => (ev_g rfl hq)))) rfl rfl rfl ?_
        refine TL.op (yq (y_move (ev_t rfl))) rfl rfl rfl ?_
        refine TL.opw (w_f rfl rfl rfl) (fun hg => yq (y_move (ev_t rfl))) rfl rfl ?_
        refine TL.opw (w_f rfl rfl rfl) (fun hg => yq (y_move (ev_g rfl hg))) rfl rfl ?_
        refine TL.opw (w_gt rfl rfl rfl) (fun hg => yq (y_move (ev_t rfl))) rfl rfl ?_
        refine TL.opw (w_gt rfl rfl rfl) (fun hg => yq (y_not (ev_g rfl hg))) rfl rfl ?_
        refine TL.opw (w_f rfl rfl rfl) (fun hg => yq (y_and (ev_g rfl hg) (fun hq => (ev_g rfl (gand hg hq))))) rfl rfl ?_
        refine TL.op (yq (y_or (ev_t rfl) (fun hq => (ev_g rfl hq)))) rfl rfl rfl ?_
        refine TL.op (yq (y_move (ev_t rfl))) rfl rfl rfl ?_
        refine TL.opw (w_f rfl rfl rfl) (fun hg => yq (y_move (ev_t rfl))) rfl rfl ?_
        refine TL.opw (w_f rfl rfl rfl) (fun hg => yq (y_move (ev_g rfl hg))) rfl rfl ?_
        refine TL.opw (w_gt rfl rfl rfl) (fun hg => yq (y_move (ev_t rfl))) rfl rfl ?_
        refine TL.opw (w_gt rfl rfl rfl) (fun hg => yq (y_ldagg (cs := [r3_1.1]) 6 (ev_t rfl) agg_45 rfl)) rfl rfl ?_
        refine TL.opw (w_gt rfl rfl rfl) (fun hg => yq (y_ldagg (cs := [r4_1.1]) 4 (ev_t rfl) agg_45 rfl)) rfl rfl ?_
        refine TL.opw (w_gt rfl rfl rfl) (fun hg => y_call (vs := [(.agg #[r3_1.1]), (.agg #[r4_1.1])]) (v := (.bool (F_laws_rMetric ((F_spec_DrawShortestWay code).1) ((F_impl_ClosedMetric ((F_spec_DrawShortestWay code).1)).1)))) en_28 ⟨(ev_g rfl hg), (ev_g rfl hg), trivial⟩ (fun w hw => laws_rMetric_ok w r3_1.1 r3_1.2 ((F_spec_DrawShortestWay code).1) ((rii_tab 7 rfl) w hw) r4_1.1 r4_1.2 ((F_impl_ClosedMetric ((F_spec_DrawShortestWay code).1)).1) ((rii_tab 5 rfl) w hw))) rfl rfl ?_
        refine TL.opw (w_gt rfl rfl rfl) (fun hg => yq (y_bneq (ev_g rfl hg) (ev_g rfl hg) Try.underlying4)) rfl rfl ?_
        refine TL.opw (w_f rfl rfl rfl) (fun hg => yq (y_and (ev_g rfl hg) (fun hq => (ev_g rfl (gand hg hq))))) rfl rfl ?_
        refine TL.op (yq (y_or (ev_t rfl) (fun hq => (ev_g rfl hq)))) rfl rfl rfl ?_
        refine TL.nil ?_
        refine TN.seq ?_
        refine TC.cond (b := (((((F_impl_ClosedMetric ((F_spec_DrawShortestWay code).1)).2) && (!(F_impl_IsMetric ((F_impl_ClosedMetric ((F_spec_DrawShortestWay code).1)).1)))) || ((F_impl_IsMetric ((F_spec_DrawShortestWay code).1)) && (!((F_impl_ClosedMetric ((F_spec_DrawShortestWay code).1)).2)))) || (((F_impl_ClosedMetric ((F_spec_DrawShortestWay code).1)).2) && ((F_impl_IsMetric ((F_spec_DrawShortestWay code).1)) != (F_laws_rMetric ((F_spec_DrawShortestWay code).1) ((F_impl_ClosedMetric ((F_spec_DrawShortestWay code).1)).1)))))) (ev_t rfl) (fun h41 => ?_) (fun h41 => ?_)
        · rw [bif_pos h41] at hF
          have q42 := ((or_t h41).imp (fun h => ((or_t h).imp (fun h => (and_imp (and_t h) (fun h => h) (fun h => (not_t h)))) (fun h => (and_imp (and_t h) (fun h => (isMetric_t h)) (fun h => (not_t h)))))) (fun h => (and_imp (and_t h) (fun h => h) (fun h => h))))
          refine TC.seq ?_
          refine TC.region ?_
          refine TL.op (yq (y_assign ev_c)) rfl rfl rfl ?_
          refine TL.nil ?_
          refine TN.seq ?_
          refine TC.ret ?_
          refine TN.thenR ?_
          subst hF
          exact TN.ret1 rfl (ev_t rfl) (fun w' hw => ⟨rfl, Hp.sublist hw (List.nil_sublist _)⟩)
        · rw [bif_neg h41] at hF
          have q42 := (and_imp (or_f h41) (fun h => (and_imp (or_f h) (fun h => ((and_f h).imp (fun h => h) (fun h => (isMetric_t (not_f h))))) (fun h => ((and_f h).imp (fun h => h) (fun h => (not_f h)))))) (fun h => ((and_f h).imp (fun h => h) (fun h => h))))
          refine TC.skip ?_
          refine TN.seq ?_
          refine TC.seq ?_
          refine TC.seq ?_
          refine TC.region ?_
          refine TL.op (yq (y_move (ev_t rfl))) rfl rfl rfl ?_
          refine TL.op (yq (y_move (ev_t rfl))) rfl rfl rfl ?_
          refine TL.opw (w_t rfl rfl rfl) (fun hg => yq (y_move (ev_t rfl))) rfl rfl ?_
          refine TL.op (yq (y_and (ev_t rfl) (fun hq => (ev_g rfl hq)))) rfl rfl rfl ?_
          refine TL.nil ?_
          refine TN.seq ?_
          refine TC.cond (b := (((F_impl_ClosedMetric ((F_spec_DrawShortestWay code).1)).2) && ((F_impl_ShortestWay ((F_spec_DrawShortestWay code).1) ((F_spec_DrawShortestWay code).2.1) ((F_spec_DrawShortestWay code).2.2)).2))) (ev_t rfl) (fun h43 => ?_) (fun h43 => ?_)
          · rw [bif_pos h43] at hF
            have q44 := (and_imp (and_t h43) (fun h => h) (fun h => h))
            have hwp := met_way q44.1 q44.2
            have hw1 := hwp.n1
            have hw9 := hwp.n9
            have hwl := hwp.sq.len
            have hwx := hwp.hx
            have hwy := hwp.hy
            have hwr := hwp.sq.rows ((F_spec_DrawShortestWay code).2.1).toNat (by omega)
            have hn6 := hwp.tab.n6
            refine TC.seq ?_
            refine TC.region ?_
            refine TL.op (yq (y_assign ev_c)) rfl rfl rfl ?_
            refine TL.nil ?_
            refine TN.seq ?_
            refine TC.seq ?_
            refine TC.seq ?_
            refine TC.region ?_
            refine TL.op (yq (y_assign ev_c)) rfl rfl rfl ?_
            refine TL.nil ?_
            refine TN.seq ?_
            refine TC.block ?_
            obtain ⟨c45, hc46⟩ : ∃ c, F_laws_FnMetrics_L1 code ((((F_impl_ShortestWay ((F_spec_DrawShortestWay code).1) ((F_spec_DrawShortestWay code).2.1) ((F_spec_DrawShortestWay code).2.2)).1.length) - 1) + 1) (0, 1) = c := ⟨_, rfl⟩
            rw [hc46] at hF
            refine TC.loop (ι := Nat × Int × Nat) (fun (fu1, k15_1, k16_1) => [(0, vcode), (3, (.pointer (some ⟨g3_6, 0, none⟩))), (4, (.int .i64 ((F_spec_DrawShortestWay code).2.1))), (5, (.int .i64 ((F_spec_DrawShortestWay code).2.2))), (6, (.pointer (some ⟨g4_5, 0, none⟩))), (10, r8_3), (15, (.int .i64 k15_1)), (16, (.int .i64 (k16_1 : Int)))]) (fun (fu1, k15_1, k16_1) => Hp w [rowI 3 r8_3 ((F_impl_ShortestWay ((F_spec_DrawShortestWay code).1) ((F_spec_DrawShortestWay code).2.1) ((F_spec_DrawShortestWay code).2.2)).1), .blk g4_5 45 [r4_1.1], tabI 34 3 r4_1.1 r4_1.2 ((F_impl_ClosedMetric ((F_spec_DrawShortestWay code).1)).1), .blk g3_6 45 [r3_1.1], tabI 34 3 r3_1.1 r3_1.2 ((F_spec_DrawShortestWay code).1)]) (fun (fu1, k15_1, k16_1) => (k16_1 ≤ max ((F_impl_ShortestWay ((F_spec_DrawShortestWay code).1) ((F_spec_DrawShortestWay code).2.1) ((F_spec_DrawShortestWay code).2.2)).1.length) 1) ∧ (-(k16_1 : Int) ≤ k15_1) ∧ (k15_1 ≤ 99 * k16_1) ∧ (1 ≤ k16_1) ∧ (k16_1 ≤ 7001) ∧ ((F_impl_ShortestWay ((F_spec_DrawShortestWay code).1) ((F_spec_DrawShortestWay code).2.1) ((F_spec_DrawShortestWay code).2.2)).1.length) - k16_1 < fu1 ∧ F_laws_FnMetrics_L1 code fu1 (k15_1, k16_1) = c45) (fun (fu1, k15_1, k16_1) => fu1) ((((F_impl_ShortestWay ((F_spec_DrawShortestWay code).1) ((F_spec_DrawShortestWay code).2.1) ((F_spec_DrawShortestWay code).2.2)).1.length) - 1) + 1, 0, 1) ⟨(by first | omega | (simp [-List.getD_eq_getElem?_getD] <;> omega)), (by first | omega | (simp [-List.getD_eq_getElem?_getD] <;> omega)), (by first | omega | (simp [-List.getD_eq_getElem?_getD] <;> omega)), (by first | omega | (simp [-List.getD_eq_getElem?_getD] <;> omega)), (by first | omega | (simp [-List.getD_eq_getElem?_getD] <;> omega)), (by omega), hc46⟩ ⟨rfl, rfl, rfl, rfl, rfl, rfl, rfl, rfl, trivial⟩ (fun w hw => Hp.sublist hw (.cons _ (.cons_cons _ (.cons _ (.cons _ (.cons_cons _ (.cons_cons _ (.cons_cons _ (.cons_cons _ .slnil))))))))) ?_
            rintro ⟨fu1, k15_1, k16_1⟩ hJ1
            obtain ⟨hi1_0, hi1_1, hi1_2, hi1_3, hi1_4, hmu1, hL1⟩ : (k16_1 ≤ max ((F_impl_ShortestWay ((F_spec_DrawShortestWay code).1) ((F_spec_DrawShortestWay code).2.1) ((F_spec_DrawShortestWay code).2.2)).1.length) 1) ∧ (-(k16_1 : Int) ≤ k15_1) ∧ (k15_1 ≤ 99 * k16_1) ∧ (1 ≤ k16_1) ∧ (k16_1 ≤ 7001) ∧ ((F_impl_ShortestWay ((F_spec_DrawShortestWay code).1) ((F_spec_DrawShortestWay code).2.1) ((F_spec_DrawShortestWay code).2.2)).1.length) - k16_1 < fu1 ∧ F_laws_FnMetrics_L1 code fu1 (k15_1, k16_1) = c45 := hJ1
            change TC _ _ _ _ (Hp w [rowI 3 r8_3 ((F_impl_ShortestWay ((F_spec_DrawShortestWay code).1) ((F_spec_DrawShortestWay code).2.1) ((F_spec_DrawShortestWay code).2.2)).1), .blk g4_5 45 [r4_1.1], tabI 34 3 r4_1.1 r4_1.2 ((F_impl_ClosedMetric ((F_spec_DrawShortestWay code).1)).1), .blk g3_6 45 [r3_1.1], tabI 34 3 r3_1.1 r3_1.2 ((F_spec_DrawShortestWay code).1)]) [(0, vcode), (3, (.pointer (some ⟨g3_6, 0, none⟩))), (4, (.int .i64 ((F_spec_DrawShortestWay code).2.1))), (5, (.int .i64 ((F_spec_DrawShortestWay code).2.2))), (6, (.pointer (some ⟨g4_5, 0, none⟩))), (10, r8_3), (15, (.int .i64 k15_1)), (16, (.int .i64 (k16_1 : Int)))]
            obtain ⟨mf1, rfl⟩ : ∃ m, fu1 = m + 1 := ⟨fu1 - 1, by omega⟩
            rw [F_laws_FnMetrics_L1_s] at hL1
            refine TC.seq ?_
            refine TC.seq ?_
            refine TC.region ?_
            refine TL.op (yq (y_move (ev_t rfl))) rfl rfl rfl ?_
            refine TL.op (yq (y_move (ev_t rfl))) rfl rfl rfl ?_
            refine TL.op (yq (y_len (ev_t rfl) Try.underlying34 (fun w hw => ((ri_row 0 rfl) w hw).ln))) rfl rfl rfl ?_
            refine TL.op (yq (y_lss (ev_t rfl) (ev_t rfl))) rfl rfl rfl ?_
            refine TL.nil ?_
            refine TN.seq ?_
            refine TC.cond (b := decide ((k16_1 : Int) < ((F_impl_ShortestWay ((F_spec_DrawShortestWay code).1) ((F_spec_DrawShortestWay code).2.1) ((F_spec_DrawShortestWay code).2.2)).1.length : Int))) (ev_t rfl) (fun h47 => ?_) (fun h47 => ?_)
            · rw [bif_pos h47] at hL1
              have q48 := (of_decide_eq_true h47)
              have he1 := hwp.el (((k16_1 : Int) - 1).toNat) (by omega)
              have he2 := hwp.el k16_1 (by omega)
              have he3 := hwp.tab.rows (((F_impl_ShortestWay (F_spec_DrawShortestWay code).1 (F_spec_DrawShortestWay code).2.1 (F_spec_DrawShortestWay code).2.2).1.getD (((k16_1 : Int) - 1).toNat) 0)).toNat (by omega)
              have he4 := hwp.tab.el (((F_impl_ShortestWay (F_spec_DrawShortestWay code).1 (F_spec_DrawShortestWay code).2.1 (F_spec_DrawShortestWay code).2.2).1.getD (((k16_1 : Int) - 1).toNat) 0)).toNat (((F_impl_ShortestWay (F_spec_DrawShortestWay code).1 (F_spec_DrawShortestWay code).2.1 (F_spec_DrawShortestWay code).2.2).1.getD k16_1 0)).toNat
              refine TC.skip ?_
              refine TN.seq ?_
              refine TC.seq ?_
              refine TC.block ?_
              refine TC.regionQ (by kernel_rfl) (by kernel_rfl) dr_hp ?_
              refine TQ.op (yq (y_move (ev_t rfl))) rfl rfl rfl ?_
              refine TQ.op (yq (y_fa (fa_45_0 g3_6) (ev_t rfl))) rfl rfl rfl ?_
              refine TQ.op (yq (y_ldb 3 (ev_t rfl) one_43 rfl rfl)) rfl rfl rfl ?_
              refine TQ.op (yq (y_move (ev_t rfl))) rfl rfl rfl ?_
              refine TQ.op (yq (y_move (ev_t rfl))) rfl rfl rfl ?_
              refine TQ.op (yq (y_sub (ev_t rfl) ev_c (by unfold In64; omega))) rfl rfl rfl ?_
              have hb49 : ((k16_1 : Int) - 1).toNat < (F_impl_ShortestWay ((F_spec_DrawShortestWay code).1) ((F_spec_DrawShortestWay code).2.1) ((F_spec_DrawShortestWay code).2.2)).1.length := (by first | omega | (simp only [List.length_set, List.length_append, List.length_cons, List.length_nil, List.length_replicate]; omega) | (rw [sortI_length]; simp only [List.length_cons, List.length_nil]; omega))
              refine TQ.op (yq (y_idx (k := ((k16_1 : Int) - 1).toNat) (ev_t rfl) (ev_t rfl) (by first | omega | simp) slT_34 (ri_row 0 rfl) hb49)) rfl rfl rfl ?_
              refine TQ.op (yq (y_ldi (ev_t rfl) one_3 (ri_row 0 rfl) hb49)) rfl rfl rfl ?_
              have hb50 : (((F_impl_ShortestWay ((F_spec_DrawShortestWay code).1) ((F_spec_DrawShortestWay code).2.1) ((F_spec_DrawShortestWay code).2.2)).1.getD (((k16_1 : Int) - 1).toNat) 0)).toNat < (F_spec_DrawShortestWay code).1.length := (by first | omega | (simp only [List.length_set, List.length_append, List.length_cons, List.length_nil, List.length_replicate]; omega) | (rw [sortI_length]; simp only [List.length_cons, List.length_nil]; omega))
              refine TQ.op (yq (y_idx (k := (((F_impl_ShortestWay ((F_spec_DrawShortestWay code).1) ((F_spec_DrawShortestWay code).2.1) ((F_spec_DrawShortestWay code).2.2)).1.getD (((k16_1 : Int) - 1).toNat) 0)).toNat) (ev_t rfl) (ev_t rfl) (by first | omega | simp) slT_43 (fun w hw => ((rii_tab 4 rfl) w hw).1) hb50)) rfl rfl rfl ?_
              refine TQ.op (yq (y_ldT 4 (ev_t rfl) one_34 rfl hb50)) rfl rfl rfl ?_
              refine TQ.op (yq (y_move (ev_t rfl))) rfl rfl rfl ?_
              refine TQ.op (yq (y_move (ev_t rfl))) rfl rfl rfl ?_
              have hb51 : k16_1 < (F_impl_ShortestWay ((F_spec_DrawShortestWay code).1) ((F_spec_DrawShortestWay code).2.1) ((F_spec_DrawShortestWay code).2.2)).1.length := (by first | omega | (simp only [List.length_set, List.length_append, List.length_cons, List.length_nil, List.length_replicate]; omega) | (rw [sortI_length]; simp only [List.length_cons, List.length_nil]; omega))
              refine TQ.op (yq (y_idx (k := k16_1) (ev_t rfl) (ev_t rfl) (by first | omega | simp) slT_34 (ri_row 0 rfl) hb51)) rfl rfl rfl ?_
              refine TQ.op (yq (y_ldi (ev_t rfl) one_3 (ri_row 0 rfl) hb51)) rfl rfl rfl ?_
              have hb52 : (((F_impl_ShortestWay ((F_spec_DrawShortestWay code).1) ((F_spec_DrawShortestWay code).2.1) ((F_spec_DrawShortestWay code).2.2)).1.getD k16_1 0)).toNat < ((F_spec_DrawShortestWay code).1.getD ((((F_impl_ShortestWay ((F_spec_DrawShortestWay code).1) ((F_spec_DrawShortestWay code).2.1) ((F_spec_DrawShortestWay code).2.2)).1.getD (((k16_1 : Int) - 1).toNat) 0)).toNat) []).length := (by first | omega | (simp only [List.length_set, List.length_append, List.length_cons, List.length_nil, List.length_replicate]; omega) | (rw [sortI_length]; simp only [List.length_cons, List.length_nil]; omega))
              refine TQ.op (yq (y_idx (k := (((F_impl_ShortestWay ((F_spec_DrawShortestWay code).1) ((F_spec_DrawShortestWay code).2.1) ((F_spec_DrawShortestWay code).2.2)).1.getD k16_1 0)).toNat) (ev_t rfl) (ev_t rfl) (by first | omega | simp) slT_34 (ri_tab 4 ((((F_impl_ShortestWay ((F_spec_DrawShortestWay code).1) ((F_spec_DrawShortestWay code).2.1) ((F_spec_DrawShortestWay code).2.2)).1.getD (((k16_1 : Int) - 1).toNat) 0)).toNat) rfl hb50) hb52)) rfl rfl rfl ?_
              refine TQ.op (yq (y_ldi (ev_t rfl) one_3 (ri_tab 4 ((((F_impl_ShortestWay ((F_spec_DrawShortestWay code).1) ((F_spec_DrawShortestWay code).2.1) ((F_spec_DrawShortestWay code).2.2)).1.getD (((k16_1 : Int) - 1).toNat) 0)).toNat) rfl hb50) hb52)) rfl rfl rfl ?_
              refine TQ.op (yq (y_add (ev_t rfl) (ev_t rfl) (by unfold In64; omega))) rfl rfl rfl ?_
              refine TQ.op (yq (y_assign (ev_t rfl))) rfl rfl rfl ?_
              refine TQ.nil ?_
              refine TN.blockN ?_
              refine TN.seq ?_
              refine TC.region ?_
              refine TL.op (yq (y_move (ev_t rfl))) rfl rfl rfl ?_
              refine TL.op (yq (y_add (ev_t rfl) ev_c (by unfold In64; omega))) rfl rfl rfl ?_
              refine TL.op (yq (y_assign (ev_t rfl))) rfl rfl rfl ?_
              refine TL.nil ?_
              exact TN.hand (mf1, k15_1 + (((F_spec_DrawShortestWay code).1.getD ((((F_impl_ShortestWay ((F_spec_DrawShortestWay code).1) ((F_spec_DrawShortestWay code).2.1) ((F_spec_DrawShortestWay code).2.2)).1.getD (((k16_1 : Int) - 1).toNat) 0)).toNat) []).getD ((((F_impl_ShortestWay ((F_spec_DrawShortestWay code).1) ((F_spec_DrawShortestWay code).2.1) ((F_spec_DrawShortestWay code).2.2)).1.getD k16_1 0)).toNat) 0), (k16_1 + 1)) ⟨(by first | omega | (simp [-List.getD_eq_getElem?_getD] <;> omega)), (by first | omega | (simp [-List.getD_eq_getElem?_getD] <;> omega)), (by first | omega | (simp [-List.getD_eq_getElem?_getD] <;> omega)), (by first | omega | (simp [-List.getD_eq_getElem?_getD] <;> omega)), (by first | omega | (simp [-List.getD_eq_getElem?_getD] <;> omega)), (by omega), hL1⟩ (Nat.lt_succ_self _) ⟨rfl, rfl, rfl, rfl, rfl, rfl, rfl, rfl, trivial⟩ (fun w hw => hw)
            · rw [bif_neg h47] at hL1
              have q48 := (of_decide_eq_false h47)
              refine TC.exit ?_
              refine TN.thenE ?_
              refine TN.thenE ?_
              rw [← hL1, elim_next] at hF
              try dsimp only at hF
              refine TN.blockH ?_
              refine TN.seq ?_
              refine TC.seq ?_
              refine TC.region ?_
              refine TL.op (yq (y_move (ev_t rfl))) rfl rfl rfl ?_
              refine TL.op (yq (y_len (ev_t rfl) Try.underlying34 (fun w hw => ((ri_row 0 rfl) w hw).ln))) rfl rfl rfl ?_
              refine TL.op (yq (y_eql (ev_t rfl) ev_c)) rfl rfl rfl ?_
              refine TL.op (yq (y_move (ev_t rfl))) rfl rfl rfl ?_
              refine TL.opw (w_f rfl rfl rfl) (fun hg => yq (y_move (ev_t rfl))) rfl rfl ?_
              refine TL.opw (w_f rfl rfl rfl) (fun hg => yq (y_idx (k := 0) (ev_g rfl hg) ev_c (by first | omega | simp) slT_34 (ri_row 0 rfl) (show 0 < (F_impl_ShortestWay ((F_spec_DrawShortestWay code).1) ((F_spec_DrawShortestWay code).2.1) ((F_spec_DrawShortestWay code).2.2)).1.length by have hgf := (of_decide_eq_false (not_t hg)); omega))) rfl rfl ?_
              refine TL.opw (w_f rfl rfl rfl) (fun hg => yq (y_ldi (ev_g rfl hg) one_3 (ri_row 0 rfl) (show 0 < (F_impl_ShortestWay ((F_spec_DrawShortestWay code).1) ((F_spec_DrawShortestWay code).2.1) ((F_spec_DrawShortestWay code).2.2)).1.length by have hgf := (of_decide_eq_false (not_t hg)); omega))) rfl rfl ?_
              refine TL.opw (w_f rfl rfl rfl) (fun hg => yq (y_move (ev_t rfl))) rfl rfl ?_
              refine TL.opw (w_f rfl rfl rfl) (fun hg => yq (y_neq (ev_g rfl hg) (ev_g rfl hg))) rfl rfl ?_
              refine TL.op (yq (y_or (ev_t rfl) (fun hq => (ev_g rfl hq)))) rfl rfl rfl ?_
              refine TL.op (yq (y_move (ev_t rfl))) rfl rfl rfl ?_
              refine TL.opw (w_f rfl rfl rfl) (fun hg => yq (y_move (ev_t rfl))) rfl rfl ?_
              refine TL.opw (w_f rfl rfl rfl) (fun hg => yq (y_move (ev_t rfl))) rfl rfl ?_
              refine TL.opw (w_f rfl rfl rfl) (fun hg => yq (y_len (ev_g rfl hg) Try.underlying34 (fun w hw => ((ri_row 0 rfl) w hw).ln))) rfl rfl ?_
              refine TL.opw (w_f rfl rfl rfl) (fun hg => yq (y_sub (ev_g rfl hg) ev_c (by unfold In64; omega))) rfl rfl ?_
              refine TL.opw (w_f rfl rfl rfl) (fun hg => yq (y_idx (k := (((F_impl_ShortestWay ((F_spec_DrawShortestWay code).1) ((F_spec_DrawShortestWay code).2.1) ((F_spec_DrawShortestWay code).2.2)).1.length : Int) - 1).toNat) (ev_g rfl hg) (ev_g rfl hg) (by first | omega | simp) slT_34 (ri_row 0 rfl) (show (((F_impl_ShortestWay ((F_spec_DrawShortestWay code).1) ((F_spec_DrawShortestWay code).2.1) ((F_spec_DrawShortestWay code).2.2)).1.length : Int) - 1).toNat < (F_impl_ShortestWay ((F_spec_DrawShortestWay code).1) ((F_spec_DrawShortestWay code).2.1) ((F_spec_DrawShortestWay code).2.2)).1.length by have hgf := (and_imp (or_f (not_t hg)) (fun h => (of_decide_eq_false h)) (fun h => (of_decide_eq_true (not_f h)))); omega))) rfl rfl ?_
              refine TL.opw (w_f rfl rfl rfl) (fun hg => yq (y_ldi (ev_g rfl hg) one_3 (ri_row 0 rfl) (show (((F_impl_ShortestWay ((F_spec_DrawShortestWay code).1) ((F_spec_DrawShortestWay code).2.1) ((F_spec_DrawShortestWay code).2.2)).1.length : Int) - 1).toNat < (F_impl_ShortestWay ((F_spec_DrawShortestWay code).1) ((F_spec_DrawShortestWay code).2.1) ((F_spec_DrawShortestWay code).2.2)).1.length by have hgf := (and_imp (or_f (not_t hg)) (fun h => (of_decide_eq_false h)) (fun h => (of_decide_eq_true (not_f h)))); omega))) rfl rfl ?_
              refine TL.opw (w_f rfl rfl rfl) (fun hg => yq (y_move (ev_t rfl))) rfl rfl ?_
              refine TL.opw (w_f rfl rfl rfl) (fun hg => yq (y_neq (ev_g rfl hg) (ev_g rfl hg))) rfl rfl ?_
              refine TL.op (yq (y_or (ev_t rfl) (fun hq => (ev_g rfl hq)))) rfl rfl rfl ?_
              refine TL.op (yq (y_move (ev_t rfl))) rfl rfl rfl ?_
              refine TL.opw (w_f rfl rfl rfl) (fun hg => yq (y_move (ev_t rfl))) rfl rfl ?_
              refine TL.opw (w_f rfl rfl rfl) (fun hg => yq (y_fa (fa_45_0 g4_5) (ev_t rfl))) rfl rfl ?_
              refine TL.opw (w_f rfl rfl rfl) (fun hg => yq (y_ldb 1 (ev_g rfl hg) one_43 rfl rfl)) rfl rfl ?_
              refine TL.opw (w_f rfl rfl rfl) (fun hg => yq (y_move (ev_t rfl))) rfl rfl ?_
              refine TL.opw (w_f rfl rfl rfl) (fun hg => yq (y_idx (k := ((F_spec_DrawShortestWay code).2.1).toNat) (ev_g rfl hg) (ev_g rfl hg) (by first | omega | simp) slT_43 (fun w hw => ((rii_tab 2 rfl) w hw).1) (show ((F_spec_DrawShortestWay code).2.1).toNat < (F_impl_ClosedMetric ((F_spec_DrawShortestWay code).1)).1.length by have hgf := (and_imp (or_f (not_t hg)) (fun h => (and_imp (or_f h) (fun h => (of_decide_eq_false h)) (fun h => (of_decide_eq_true (not_f h))))) (fun h => (of_decide_eq_true (not_f h)))); omega))) rfl rfl ?_
              refine TL.opw (w_f rfl rfl rfl) (fun hg => yq (y_ldT 2 (ev_g rfl hg) one_34 rfl (show ((F_spec_DrawShortestWay code).2.1).toNat < (F_impl_ClosedMetric ((F_spec_DrawShortestWay code).1)).1.length by have hgf := (and_imp (or_f (not_t hg)) (fun h => (and_imp (or_f h) (fun h => (of_decide_eq_false h)) (fun h => (of_decide_eq_true (not_f h))))) (fun h => (of_decide_eq_true (not_f h)))); omega))) rfl rfl ?_
              refine TL.opw (w_f rfl rfl rfl) (fun hg => yq (y_move (ev_t rfl))) rfl rfl ?_
              refine TL.opw (w_f rfl rfl rfl) (fun hg => yq (y_idx (k := ((F_spec_DrawShortestWay code).2.2).toNat) (ev_g rfl hg) (ev_g rfl hg) (by first | omega | simp) slT_34 (ri_tab 2 (((F_spec_DrawShortestWay code).2.1).toNat) rfl (show ((F_spec_DrawShortestWay code).2.1).toNat < (F_impl_ClosedMetric ((F_spec_DrawShortestWay code).1)).1.length by have hgf := (and_imp (or_f (not_t hg)) (fun h => (and_imp (or_f h) (fun h => (of_decide_eq_false h)) (fun h => (of_decide_eq_true (not_f h))))) (fun h => (of_decide_eq_true (not_f h)))); omega)) (show ((F_spec_DrawShortestWay code).2.2).toNat < ((F_impl_ClosedMetric ((F_spec_DrawShortestWay code).1)).1.getD (((F_spec_DrawShortestWay code).2.1).toNat) []).length by have hgf := (and_imp (or_f (not_t hg)) (fun h => (and_imp (or_f h) (fun h => (of_decide_eq_false h)) (fun h => (of_decide_eq_true (not_f h))))) (fun h => (of_decide_eq_true (not_f h)))); omega))) rfl rfl ?_
              refine TL.opw (w_f rfl rfl rfl) (fun hg => yq (y_ldi (ev_g rfl hg) one_3 (ri_tab 2 (((F_spec_DrawShortestWay code).2.1).toNat) rfl (show ((F_spec_DrawShortestWay code).2.1).toNat < (F_impl_ClosedMetric ((F_spec_DrawShortestWay code).1)).1.length by have hgf := (and_imp (or_f (not_t hg)) (fun h => (and_imp (or_f h) (fun h => (of_decide_eq_false h)) (fun h => (of_decide_eq_true (not_f h))))) (fun h => (of_decide_eq_true (not_f h)))); omega)) (show ((F_spec_DrawShortestWay code).2.2).toNat < ((F_impl_ClosedMetric ((F_spec_DrawShortestWay code).1)).1.getD (((F_spec_DrawShortestWay code).2.1).toNat) []).length by have hgf := (and_imp (or_f (not_t hg)) (fun h => (and_imp (or_f h) (fun h => (of_decide_eq_false h)) (fun h => (of_decide_eq_true (not_f h))))) (fun h => (of_decide_eq_true (not_f h)))); omega))) rfl rfl ?_
              refine TL.opw (w_f rfl rfl rfl) (fun hg => yq (y_neq (ev_g rfl hg) (ev_g rfl hg))) rfl rfl ?_
              refine TL.op (yq (y_or (ev_t rfl) (fun hq => (ev_g rfl hq)))) rfl rfl rfl ?_
              refine TL.nil ?_
              refine TN.seq ?_
              refine TC.cond (b := ((((decide (((F_impl_ShortestWay ((F_spec_DrawShortestWay code).1) ((F_spec_DrawShortestWay code).2.1) ((F_spec_DrawShortestWay code).2.2)).1.length : Int) = 0)) || (!decide (((F_impl_ShortestWay ((F_spec_DrawShortestWay code).1) ((F_spec_DrawShortestWay code).2.1) ((F_spec_DrawShortestWay code).2.2)).1.getD 0 0) = (F_spec_DrawShortestWay code).2.1))) || (!decide (((F_impl_ShortestWay ((F_spec_DrawShortestWay code).1) ((F_spec_DrawShortestWay code).2.1) ((F_spec_DrawShortestWay code).2.2)).1.getD ((((F_impl_ShortestWay ((F_spec_DrawShortestWay code).1) ((F_spec_DrawShortestWay code).2.1) ((F_spec_DrawShortestWay code).2.2)).1.length : Int) - 1).toNat) 0) = (F_spec_DrawShortestWay code).2.2))) || (!decide (k15_1 = (((F_impl_ClosedMetric ((F_spec_DrawShortestWay code).1)).1.getD (((F_spec_DrawShortestWay code).2.1).toNat) []).getD (((F_spec_DrawShortestWay code).2.2).toNat) 0))))) (ev_t rfl) (fun h53 => ?_) (fun h53 => ?_)
              · rw [bif_pos h53] at hF
                have q54 := ((or_t h53).imp (fun h => ((or_t h).imp (fun h => ((or_t h).imp (fun h => (of_decide_eq_true h)) (fun h => (of_decide_eq_false (not_t h))))) (fun h => (of_decide_eq_false (not_t h))))) (fun h => (of_decide_eq_false (not_t h))))
                refine TC.seq ?_
                refine TC.region ?_
                refine TL.op (yq (y_assign ev_c)) rfl rfl rfl ?_
                refine TL.nil ?_
                refine TN.seq ?_
                refine TC.ret ?_
                refine TN.thenR ?_
                subst hF
                exact TN.ret1 rfl (ev_t rfl) (fun w' hw => ⟨rfl, Hp.sublist hw (List.nil_sublist _)⟩)
              · rw [bif_neg h53] at hF
                have q54 := (and_imp (or_f h53) (fun h => (and_imp (or_f h) (fun h => (and_imp (or_f h) (fun h => (of_decide_eq_false h)) (fun h => (of_decide_eq_true (not_f h))))) (fun h => (of_decide_eq_true (not_f h))))) (fun h => (of_decide_eq_true (not_f h))))
                refine TC.skip ?_
                refine TN.seq ?_
                refine TC.seq ?_
                refine TC.region ?_
                refine TL.op (yq (y_move (ev_t rfl))) rfl rfl rfl ?_
                refine TL.callr (ι := Value × List Value) (vs := [vcode]) (fun i => (.agg #[i.1])) (fun i => [tabI 34 3 i.1 i.2 (F_spec_DrawFirstDetour code)]) en_32 ⟨(ev_t rfl), trivial⟩ rfl (fun w hw => spec_DrawFirstDetour_ok w vcode code (rb_arg hcode hw)) (fun r23_1 => ?_)
                refine TL.alloc (u := (.agg #[(.slice none 0 0)])) (by kernel_rfl) rfl (fun g23_2 => ?_)
                refine TL.storeAgg (cs := [(.slice none 0 0)]) (us := [r23_1.1]) 0 (ev_t rfl) (ev_t rfl) agg_45 rfl rfl (fun w hw => (ocs_cons (ln_one ((fun w hw => ((rii_tab 1 rfl) w hw).1) w hw).ln) ocs_nil)) ?_
                refine TL.nil ?_
                refine TN.seq ?_
                refine TC.seq ?_
                refine TC.region ?_
                refine TL.op (yq (y_ldagg (cs := [r23_1.1]) 0 (ev_t rfl) agg_45 rfl)) rfl rfl rfl ?_
                refine TL.callr (ι := Value) (vs := [(.agg #[r23_1.1])]) (fun i => (.tuple #[i, (.bool ((F_impl_FirstDetour (F_spec_DrawFirstDetour code)).2))])) (fun i => [rowI 3 i ((F_impl_FirstDetour (F_spec_DrawFirstDetour code)).1)]) en_33 ⟨(ev_t rfl), trivial⟩ rfl (fun w hw => impl_FirstDetour_ok w r23_1.1 r23_1.2 (F_spec_DrawFirstDetour code) ((rii_tab 1 rfl) w hw)) (fun r24_1 => ?_)
                refine TL.op (yq (y_move (ev_t rfl))) rfl rfl rfl ?_
                refine TL.op (yq (y_extract (ev_t rfl) rfl)) rfl rfl rfl ?_
                refine TL.op (yq (y_extract (ev_t rfl) rfl)) rfl rfl rfl ?_
                refine TL.op (yq (y_assign (ev_t rfl))) rfl rfl rfl ?_
                refine TL.op (yq (y_assign (ev_t rfl))) rfl rfl rfl ?_
                refine TL.nil ?_
                refine TN.seq ?_
                refine TC.seq ?_
                refine TC.seq ?_
                refine TC.region ?_
                refine TL.op (yq (y_ldagg (cs := [r23_1.1]) 1 (ev_t rfl) agg_45 rfl)) rfl rfl rfl ?_
                refine TL.callr (ι := Value) (vs := [(.agg #[r23_1.1])]) (fun i => (.tuple #[i, (.bool ((F_spec_FirstDetour (F_spec_DrawFirstDetour code)).2))])) (fun i => [rowI 3 i ((F_spec_FirstDetour (F_spec_DrawFirstDetour code)).1)]) en_34 ⟨(ev_t rfl), trivial⟩ rfl (fun w hw => spec_FirstDetour_ok w r23_1.1 r23_1.2 (F_spec_DrawFirstDetour code) ((rii_tab 2 rfl) w hw)) (fun r25_1 => ?_)
                refine TL.op (yq (y_move (ev_t rfl))) rfl rfl rfl ?_
                refine TL.op (yq (y_extract (ev_t rfl) rfl)) rfl rfl rfl ?_
                refine TL.op (yq (y_extract (ev_t rfl) rfl)) rfl rfl rfl ?_
                refine TL.op (yq (y_assign (ev_t rfl))) rfl rfl rfl ?_
                refine TL.op (yq (y_assign (ev_t rfl))) rfl rfl rfl ?_
                refine TL.nil ?_
                refine TN.seq ?_
                refine TC.seq ?_
                refine TC.region ?_
                refine TL.op (yq (y_move (ev_t rfl))) rfl rfl rfl ?_
                refine TL.op (yq (y_move (ev_t rfl))) rfl rfl rfl ?_
                refine TL.op (yq (y_bneq (ev_t rfl) (ev_t rfl) Try.underlying4)) rfl rfl rfl ?_
                refine TL.op (yq (y_move (ev_t rfl))) rfl rfl rfl ?_
                refine TL.opw (w_f rfl rfl rfl) (fun hg => yq (y_move (ev_t rfl))) rfl rfl ?_
                refine TL.opw (w_f rfl rfl rfl) (fun hg => yq (y_move (ev_t rfl))) rfl rfl ?_
                refine TL.opw (w_f rfl rfl rfl) (fun hg => y_call (vs := [r24_1, r25_1]) (v := (.bool (F_laws_rInts ((F_impl_FirstDetour (F_spec_DrawFirstDetour code)).1) ((F_spec_FirstDetour (F_spec_DrawFirstDetour code)).1)))) en_22 ⟨(ev_g rfl hg), (ev_g rfl hg), trivial⟩ (fun w hw => laws_rInts_ok w r24_1 ((F_impl_FirstDetour (F_spec_DrawFirstDetour code)).1) ((ri_row 1 rfl) w hw) r25_1 ((F_spec_FirstDetour (F_spec_DrawFirstDetour code)).1) ((ri_row 0 rfl) w hw))) rfl rfl ?_
                refine TL.opw (w_f rfl rfl rfl) (fun hg => yq (y_not (ev_g rfl hg))) rfl rfl ?_
                refine TL.op (yq (y_or (ev_t rfl) (fun hq => (ev_g rfl hq)))) rfl rfl rfl ?_
                refine TL.op (yq (y_move (ev_t rfl))) rfl rfl rfl ?_
                refine TL.opw (w_f rfl rfl rfl) (fun hg => yq (y_move (ev_t rfl))) rfl rfl ?_
                refine TL.opw (w_f rfl rfl rfl) (fun hg => yq (y_move (ev_g rfl hg))) rfl rfl ?_
                refine TL.opw (w_gt rfl rfl rfl) (fun hg => yq (y_ldagg (cs := [r23_1.1]) 2 (ev_t rfl) agg_45 rfl)) rfl rfl ?_
                refine TL.opw (w_gt rfl rfl rfl) (fun hg => y_call (vs := [(.agg #[r23_1.1])]) (v := (.bool (F_impl_IsMetric (F_spec_DrawFirstDetour code)))) en_31 ⟨(ev_g rfl hg), trivial⟩ (fun w hw => impl_IsMetric_ok w r23_1.1 r23_1.2 (F_spec_DrawFirstDetour code) ((rii_tab 3 rfl) w hw))) rfl rfl ?_
                refine TL.opw (w_f rfl rfl rfl) (fun hg => yq (y_and (ev_g rfl hg) (fun hq => (ev_g rfl (gand hg hq))))) rfl rfl ?_
                refine TL.op (yq (y_or (ev_t rfl) (fun hq => (ev_g rfl hq)))) rfl rfl rfl ?_
                refine TL.nil ?_
                refine TN.seq ?_
                refine TC.cond (b := (((((F_impl_FirstDetour (F_spec_DrawFirstDetour code)).2) != ((F_spec_FirstDetour (F_spec_DrawFirstDetour code)).2)) || (!(F_laws_rInts ((F_impl_FirstDetour (F_spec_DrawFirstDetour code)).1) ((F_spec_FirstDetour (F_spec_DrawFirstDetour code)).1)))) || (((F_impl_FirstDetour (F_spec_DrawFirstDetour code)).2) && (F_impl_IsMetric (F_spec_DrawFirstDetour code))))) (ev_t rfl) (fun h55 => ?_) (fun h55 => ?_)
                · rw [bif_pos h55] at hF
                  have q56 := ((or_t h55).imp (fun h => ((or_t h).imp (fun h => h) (fun h => (not_t h)))) (fun h => (and_imp (and_t h) (fun h => h) (fun h => (isMetric_t h)))))
                  refine TC.seq ?_
                  refine TC.region ?_
                  refine TL.op (yq (y_assign ev_c)) rfl rfl rfl ?_
                  refine TL.nil ?_
                  refine TN.seq ?_
                  refine TC.ret ?_
                  refine TN.thenR ?_
                  subst hF
                  exact TN.ret1 rfl (ev_t rfl) (fun w' hw => ⟨rfl, Hp.sublist hw (List.nil_sublist _)⟩)
                · rw [bif_neg h55] at hF
                  have q56 := (and_imp (or_f h55) (fun h => (and_imp (or_f h) (fun h => h) (fun h => (not_f h)))) (fun h => ((and_f h).imp (fun h => h) (fun h => h))))
                  refine TC.skip ?_
                  refine TN.seq ?_
                  refine TC.seq ?_
                  refine TC.regionQ (by kernel_rfl) (by kernel_rfl) dr_hp ?_
                  refine TQ.op (yq (y_move (ev_t rfl))) rfl rfl rfl ?_
                  refine TQ.op (yq (y_not (ev_t rfl))) rfl rfl rfl ?_
                  refine TQ.op (yq (y_move (ev_t rfl))) rfl rfl rfl ?_
                  refine TQ.opw (w_f rfl rfl rfl) (fun hg => yq (y_move (ev_t rfl))) rfl rfl ?_
                  refine TQ.opw (w_f rfl rfl rfl) (fun hg => yq (y_len (ev_g rfl hg) Try.underlying34 (fun w hw => ((ri_row 1 rfl) w hw).ln))) rfl rfl ?_
                  refine TQ.opw (w_f rfl rfl rfl) (fun hg => yq (y_eql (ev_g rfl hg) ev_c)) rfl rfl ?_
                  refine TQ.opw (w_f rfl rfl rfl) (fun hg => yq (y_move (ev_g rfl hg))) rfl rfl ?_
                  refine TQ.opw (w_gt rfl rfl rfl) (fun hg => yq (y_fa (fa_45_0 g23_2) (ev_t rfl))) rfl rfl ?_
                  refine TQ.opw (w_gt rfl rfl rfl) (fun hg => yq (y_ldb 2 (ev_g rfl hg) one_43 rfl rfl)) rfl rfl ?_
                  refine TQ.opw (w_gt rfl rfl rfl) (fun hg => yq (y_move (ev_t rfl))) rfl rfl ?_
                  refine TQ.opw (w_gt rfl rfl rfl) (fun hg => yq (y_idx (k := 0) (ev_g rfl hg) ev_c (by have hgf := (and_imp (and_t hg) (fun h => (not_f (not_t h))) (fun h => (of_decide_eq_true h))); obtain ⟨hd0, hd1, hd2, hd3, hd4, hd5, hd6, hd7, hd8⟩ := det_all (det_three hgf.1); first | omega | simp) slT_34 (ri_row 1 rfl) (show 0 < (F_impl_FirstDetour (F_spec_DrawFirstDetour code)).1.length by have hgf := (and_imp (and_t hg) (fun h => (not_f (not_t h))) (fun h => (of_decide_eq_true h))); obtain ⟨hd0, hd1, hd2, hd3, hd4, hd5, hd6, hd7, hd8⟩ := det_all (det_three hgf.1); omega))) rfl rfl ?_
                  refine TQ.opw (w_gt rfl rfl rfl) (fun hg => yq (y_ldi (ev_g rfl hg) one_3 (ri_row 1 rfl) (show 0 < (F_impl_FirstDetour (F_spec_DrawFirstDetour code)).1.length by have hgf := (and_imp (and_t hg) (fun h => (not_f (not_t h))) (fun h => (of_decide_eq_true h))); obtain ⟨hd0, hd1, hd2, hd3, hd4, hd5, hd6, hd7, hd8⟩ := det_all (det_three hgf.1); omega))) rfl rfl ?_
                  refine TQ.opw (w_gt rfl rfl rfl) (fun hg => yq (y_idx (k := (((F_impl_FirstDetour (F_spec_DrawFirstDetour code)).1.getD 0 0)).toNat) (ev_g rfl hg) (ev_g rfl hg) (by have hgf := (and_imp (and_t hg) (fun h => (not_f (not_t h))) (fun h => (of_decide_eq_true h))); obtain ⟨hd0, hd1, hd2, hd3, hd4, hd5, hd6, hd7, hd8⟩ := det_all (det_three hgf.1); first | omega | simp) slT_43 (fun w hw => ((rii_tab 3 rfl) w hw).1) (show (((F_impl_FirstDetour (F_spec_DrawFirstDetour code)).1.getD 0 0)).toNat < (F_spec_DrawFirstDetour code).length by have hgf := (and_imp (and_t hg) (fun h => (not_f (not_t h))) (fun h => (of_decide_eq_true h))); obtain ⟨hd0, hd1, hd2, hd3, hd4, hd5, hd6, hd7, hd8⟩ := det_all (det_three hgf.1); omega))) rfl rfl ?_
                  refine TQ.opw (w_gt rfl rfl rfl) (fun hg => yq (y_ldT 3 (ev_g rfl hg) one_34 rfl (show (((F_impl_FirstDetour (F_spec_DrawFirstDetour code)).1.getD 0 0)).toNat < (F_spec_DrawFirstDetour code).length by have hgf := (and_imp (and_t hg) (fun h => (not_f (not_t h))) (fun h => (of_decide_eq_true h))); obtain ⟨hd0, hd1, hd2, hd3, hd4, hd5, hd6, hd7, hd8⟩ := det_all (det_three hgf.1); omega))) rfl rfl ?_
                  refine TQ.opw (w_gt rfl rfl rfl) (fun hg => yq (y_move (ev_t rfl))) rfl rfl ?_
                  refine TQ.opw (w_gt rfl rfl rfl) (fun hg => yq (y_idx (k := 2) (ev_g rfl hg) ev_c (by have hgf := (and_imp (and_t hg) (fun h => (not_f (not_t h))) (fun h => (of_decide_eq_true h))); obtain ⟨hd0, hd1, hd2, hd3, hd4, hd5, hd6, hd7, hd8⟩ := det_all (det_three hgf.1); first | omega | simp) slT_34 (ri_row 1 rfl) (show 2 < (F_impl_FirstDetour (F_spec_DrawFirstDetour code)).1.length by have hgf := (and_imp (and_t hg) (fun h => (not_f (not_t h))) (fun h => (of_decide_eq_true h))); obtain ⟨hd0, hd1, hd2, hd3, hd4, hd5, hd6, hd7, hd8⟩ := det_all (det_three hgf.1); omega))) rfl rfl ?_
                  refine TQ.opw (w_gt rfl rfl rfl) (fun hg => yq (y_ldi (ev_g rfl hg) one_3 (ri_row 1 rfl) (show 2 < (F_impl_FirstDetour (F_spec_DrawFirstDetour code)).1.length by have hgf := (and_imp (and_t hg) (fun h => (not_f (not_t h))) (fun h => (of_decide_eq_true h))); obtain ⟨hd0, hd1, hd2, hd3, hd4, hd5, hd6, hd7, hd8⟩ := det_all (det_three hgf.1); omega))) rfl rfl ?_
                  refine TQ.opw (w_gt rfl rfl rfl) (fun hg => yq (y_idx (k := (((F_impl_FirstDetour (F_spec_DrawFirstDetour code)).1.getD 2 0)).toNat) (ev_g rfl hg) (ev_g rfl hg) (by have hgf := (and_imp (and_t hg) (fun h => (not_f (not_t h))) (fun h => (of_decide_eq_true h))); obtain ⟨hd0, hd1, hd2, hd3, hd4, hd5, hd6, hd7, hd8⟩ := det_all (det_three hgf.1); first | omega | simp) slT_34 (ri_tab 3 ((((F_impl_FirstDetour (F_spec_DrawFirstDetour code)).1.getD 0 0)).toNat) rfl (show (((F_impl_FirstDetour (F_spec_DrawFirstDetour code)).1.getD 0 0)).toNat < (F_spec_DrawFirstDetour code).length by have hgf := (and_imp (and_t hg) (fun h => (not_f (not_t h))) (fun h => (of_decide_eq_true h))); obtain ⟨hd0, hd1, hd2, hd3, hd4, hd5, hd6, hd7, hd8⟩ := det_all (det_three hgf.1); omega)) (show (((F_impl_FirstDetour (F_spec_DrawFirstDetour code)).1.getD 2 0)).toNat < ((F_spec_DrawFirstDetour code).getD ((((F_impl_FirstDetour (F_spec_DrawFirstDetour code)).1.getD 0 0)).toNat) []).length by have hgf := (and_imp (and_t hg) (fun h => (not_f (not_t h))) (fun h => (of_decide_eq_true h))); obtain ⟨hd0, hd1, hd2, hd3, hd4, hd5, hd6, hd7, hd8⟩ := det_all (det_three hgf.1); omega))) rfl rfl ?_
                  refine TQ.opw (w_gt rfl rfl rfl) (fun hg => yq (y_ldi (ev_g rfl hg) one_3 (ri_tab 3 ((((F_impl_FirstDetour (F_spec_DrawFirstDetour code)).1.getD 0 0)).toNat) rfl (show (((F_impl_FirstDetour (F_spec_DrawFirstDetour code)).1.getD 0 0)).toNat < (F_spec_DrawFirstDetour code).length by have hgf := (and_imp (and_t hg) (fun h => (not_f (not_t h))) (fun h => (of_decide_eq_true h))); obtain ⟨hd0, hd1, hd2, hd3, hd4, hd5, hd6, hd7, hd8⟩ := det_all (det_three hgf.1); omega)) (show (((F_impl_FirstDetour (F_spec_DrawFirstDetour code)).1.getD 2 0)).toNat < ((F_spec_DrawFirstDetour code).getD ((((F_impl_FirstDetour (F_spec_DrawFirstDetour code)).1.getD 0 0)).toNat) []).length by have hgf := (and_imp (and_t hg) (fun h => (not_f (not_t h))) (fun h => (of_decide_eq_true h))); obtain ⟨hd0, hd1, hd2, hd3, hd4, hd5, hd6, hd7, hd8⟩ := det_all (det_three hgf.1); omega))) rfl rfl ?_
                  refine TQ.opw (w_gt rfl rfl rfl) (fun hg => yq (y_fa (fa_45_0 g23_2) (ev_t rfl))) rfl rfl ?_
                  refine TQ.opw (w_gt rfl rfl rfl) (fun hg => yq (y_ldb 2 (ev_g rfl hg) one_43 rfl rfl)) rfl rfl ?_
                  refine TQ.opw (w_gt rfl rfl rfl) (fun hg => yq (y_move (ev_t rfl))) rfl rfl ?_
                  refine TQ.opw (w_gt rfl rfl rfl) (fun hg => yq (y_idx (k := 0) (ev_g rfl hg) ev_c (by have hgf := (and_imp (and_t hg) (fun h => (not_f (not_t h))) (fun h => (of_decide_eq_true h))); obtain ⟨hd0, hd1, hd2, hd3, hd4, hd5, hd6, hd7, hd8⟩ := det_all (det_three hgf.1); first | omega | simp) slT_34 (ri_row 1 rfl) (show 0 < (F_impl_FirstDetour (F_spec_DrawFirstDetour code)).1.length by have hgf := (and_imp (and_t hg) (fun h => (not_f (not_t h))) (fun h => (of_decide_eq_true h))); obtain ⟨hd0, hd1, hd2, hd3, hd4, hd5, hd6, hd7, hd8⟩ := det_all (det_three hgf.1); omega))) rfl rfl ?_
                  refine TQ.opw (w_gt rfl rfl rfl) (fun hg => yq (y_ldi (ev_g rfl hg) one_3 (ri_row 1 rfl) (show 0 < (F_impl_FirstDetour (F_spec_DrawFirstDetour code)).1.length by have hgf := (and_imp (and_t hg) (fun h => (not_f (not_t h))) (fun h => (of_decide_eq_true h))); obtain ⟨hd0, hd1, hd2, hd3, hd4, hd5, hd6, hd7, hd8⟩ := det_all (det_three hgf.1); omega))) rfl rfl ?_
                  refine TQ.opw (w_gt rfl rfl rfl) (fun hg => yq (y_idx (k := (((F_impl_FirstDetour (F_spec_DrawFirstDetour code)).1.getD 0 0)).toNat) (ev_g rfl hg) (ev_g rfl hg) (by have hgf := (and_imp (and_t hg) (fun h => (not_f (not_t h))) (fun h => (of_decide_eq_true h))); obtain ⟨hd0, hd1, hd2, hd3, hd4, hd5, hd6, hd7, hd8⟩ := det_all (det_three hgf.1); first | omega | simp) slT_43 (fun w hw => ((rii_tab 3 rfl) w hw).1) (show (((F_impl_FirstDetour (F_spec_DrawFirstDetour code)).1.getD 0 0)).toNat < (F_spec_DrawFirstDetour code).length by have hgf := (and_imp (and_t hg) (fun h => (not_f (not_t h))) (fun h => (of_decide_eq_true h))); obtain ⟨hd0, hd1, hd2, hd3, hd4, hd5, hd6, hd7, hd8⟩ := det_all (det_three hgf.1); omega))) rfl rfl ?_
                  refine TQ.opw (w_gt rfl rfl rfl) (fun hg => yq (y_ldT 3 (ev_g rfl hg) one_34 rfl (show (((F_impl_FirstDetour (F_spec_DrawFirstDetour code)).1.getD 0 0)).toNat < (F_spec_DrawFirstDetour code).length by have hgf := (and_imp (and_t hg) (fun h => (not_f (not_t h))) (fun h => (of_decide_eq_true h))); obtain ⟨hd0, hd1, hd2, hd3, hd4, hd5, hd6, hd7, hd8⟩ := det_all (det_three hgf.1); omega))) rfl rfl ?_
                  refine TQ.opw (w_gt rfl rfl rfl) (fun hg => yq (y_move (ev_t rfl))) rfl rfl ?_
                  refine TQ.opw (w_gt rfl rfl rfl) (fun hg => yq (y_idx (k := 1) (ev_g rfl hg) ev_c (by have hgf := (and_imp (and_t hg) (fun h => (not_f (not_t h))) (fun h => (of_decide_eq_true h))); obtain ⟨hd0, hd1, hd2, hd3, hd4, hd5, hd6, hd7, hd8⟩ := det_all (det_three hgf.1); first | omega | simp) slT_34 (ri_row 1 rfl) (show 1 < (F_impl_FirstDetour (F_spec_DrawFirstDetour code)).1.length by have hgf := (and_imp (and_t hg) (fun h => (not_f (not_t h))) (fun h => (of_decide_eq_true h))); obtain ⟨hd0, hd1, hd2, hd3, hd4, hd5, hd6, hd7, hd8⟩ := det_all (det_three hgf.1); omega))) rfl rfl ?_
                  refine TQ.opw (w_gt rfl rfl rfl) (fun hg => yq (y_ldi (ev_g rfl hg) one_3 (ri_row 1 rfl) (show 1 < (F_impl_FirstDetour (F_spec_DrawFirstDetour code)).1.length by have hgf := (and_imp (and_t hg) (fun h => (not_f (not_t h))) (fun h => (of_decide_eq_true h))); obtain ⟨hd0, hd1, hd2, hd3, hd4, hd5, hd6, hd7, hd8⟩ := det_all (det_three hgf.1); omega))) rfl rfl ?_
                  refine TQ.opw (w_gt rfl rfl rfl) (fun hg => yq (y_idx (k := (((F_impl_FirstDetour (F_spec_DrawFirstDetour code)).1.getD 1 0)).toNat) (ev_g rfl hg) (ev_g rfl hg) (by have hgf := (and_imp (and_t hg) (fun h => (not_f (not_t h))) (fun h => (of_decide_eq_true h))); obtain ⟨hd0, hd1, hd2, hd3, hd4, hd5, hd6, hd7, hd8⟩ := det_all (det_three hgf.1); first | omega | simp) slT_34 (ri_tab 3 ((((F_impl_FirstDetour (F_spec_DrawFirstDetour code)).1.getD 0 0)).toNat) rfl (show (((F_impl_FirstDetour (F_spec_DrawFirstDetour code)).1.getD 0 0)).toNat < (F_spec_DrawFirstDetour code).length by have hgf := (and_imp (and_t hg) (fun h => (not_f (not_t h))) (fun h => (of_decide_eq_true h))); obtain ⟨hd0, hd1, hd2, hd3, hd4, hd5, hd6, hd7, hd8⟩ := det_all (det_three hgf.1); omega)) (show (((F_impl_FirstDetour (F_spec_DrawFirstDetour code)).1.getD 1 0)).toNat < ((F_spec_DrawFirstDetour code).getD ((((F_impl_FirstDetour (F_spec_DrawFirstDetour code)).1.getD 0 0)).toNat) []).length by have hgf := (and_imp (and_t hg) (fun h => (not_f (not_t h))) (fun h => (of_decide_eq_true h))); obtain ⟨hd0, hd1, hd2, hd3, hd4, hd5, hd6, hd7, hd8⟩ := det_all (det_three hgf.1); omega))) rfl rfl ?_
                  refine TQ.opw (w_gt rfl rfl rfl) (fun hg => yq (y_ldi (ev_g rfl hg) one_3 (ri_tab 3 ((((F_impl_FirstDetour (F_spec_DrawFirstDetour code)).1.getD 0 0)).toNat) rfl (show (((F_impl_FirstDetour (F_spec_DrawFirstDetour code)).1.getD 0 0)).toNat < (F_spec_DrawFirstDetour code).length by have hgf := (and_imp (and_t hg) (fun h => (not_f (not_t h))) (fun h => (of_decide_eq_true h))); obtain ⟨hd0, hd1, hd2, hd3, hd4, hd5, hd6, hd7, hd8⟩ := det_all (det_three hgf.1); omega)) (show (((F_impl_FirstDetour (F_spec_DrawFirstDetour code)).1.getD 1 0)).toNat < ((F_spec_DrawFirstDetour code).getD ((((F_impl_FirstDetour (F_spec_DrawFirstDetour code)).1.getD 0 0)).toNat) []).length by have hgf := (and_imp (and_t hg) (fun h => (not_f (not_t h))) (fun h => (of_decide_eq_true h))); obtain ⟨hd0, hd1, hd2, hd3, hd4, hd5, hd6, hd7, hd8⟩ := det_all (det_three hgf.1); omega))) rfl rfl ?_
                  refine TQ.opw (w_gt rfl rfl rfl) (fun hg => yq (y_fa (fa_45_0 g23_2) (ev_t rfl))) rfl rfl ?_
                  refine TQ.opw (w_gt rfl rfl rfl) (fun hg => yq (y_ldb 2 (ev_g rfl hg) one_43 rfl rfl)) rfl rfl ?_
                  refine TQ.opw (w_gt rfl rfl rfl) (fun hg => yq (y_move (ev_t rfl))) rfl rfl ?_
                  refine TQ.opw (w_gt rfl rfl rfl) (fun hg => yq (y_idx (k := 1) (ev_g rfl hg) ev_c (by have hgf := (and_imp (and_t hg) (fun h => (not_f (not_t h))) (fun h => (of_decide_eq_true h))); obtain ⟨hd0, hd1, hd2, hd3, hd4, hd5, hd6, hd7, hd8⟩ := det_all (det_three hgf.1); first | omega | simp) slT_34 (ri_row 1 rfl) (show 1 < (F_impl_FirstDetour (F_spec_DrawFirstDetour code)).1.length by have hgf := (and_imp (and_t hg) (fun h => (not_f (not_t h))) (fun h => (of_decide_eq_true h))); obtain ⟨hd0, hd1, hd2, hd3, hd4, hd5, hd6, hd7, hd8⟩ := det_all (det_three hgf.1); omega))) rfl rfl ?_
                  refine TQ.opw (w_gt rfl rfl rfl) (fun hg => yq (y_ldi (ev_g rfl hg) one_3 (ri_row 1 rfl) (show 1 < (F_impl_FirstDetour (F_spec_DrawFirstDetour code)).1.length by have hgf := (and_imp (and_t hg) (fun h => (not_f (not_t h))) (fun h => (of_decide_eq_true h))); obtain ⟨hd0, hd1, hd2, hd3, hd4, hd5, hd6, hd7, hd8⟩ := det_all (det_three hgf.1); omega))) rfl rfl ?_
                  refine TQ.opw (w_gt rfl rfl rfl) (fun hg => yq (y_idx (k := (((F_impl_FirstDetour (F_spec_DrawFirstDetour code)).1.getD 1 0)).toNat) (ev_g rfl hg) (ev_g rfl hg) (by have hgf := (and_imp (and_t hg) (fun h => (not_f (not_t h))) (fun h => (of_decide_eq_true h))); obtain ⟨hd0, hd1, hd2, hd3, hd4, hd5, hd6, hd7, hd8⟩ := det_all (det_three hgf.1); first | omega | simp) slT_43 (fun w hw => ((rii_tab 3 rfl) w hw).1) (show (((F_impl_FirstDetour (F_spec_DrawFirstDetour code)).1.getD 1 0)).toNat < (F_spec_DrawFirstDetour code).length by have hgf := (and_imp (and_t hg) (fun h => (not_f (not_t h))) (fun h => (of_decide_eq_true h))); obtain ⟨hd0, hd1, hd2, hd3, hd4, hd5, hd6, hd7, hd8⟩ := det_all (det_three hgf.1); omega))) rfl rfl ?_
                  refine TQ.opw (w_gt rfl rfl rfl) (fun hg => yq (y_ldT 3 (ev_g rfl hg) one_34 rfl (show (((F_impl_FirstDetour (F_spec_DrawFirstDetour code)).1.getD 1 0)).toNat < (F_spec_DrawFirstDetour code).length by have hgf := (and_imp (and_t hg) (fun h => (not_f (not_t h))) (fun h => (of_decide_eq_true h))); obtain ⟨hd0, hd1, hd2, hd3, hd4, hd5, hd6, hd7, hd8⟩ := det_all (det_three hgf.1); omega))) rfl rfl ?_
                  refine TQ.opw (w_gt rfl rfl rfl) (fun hg => yq (y_move (ev_t rfl))) rfl rfl ?_
                  refine TQ.opw (w_gt rfl rfl rfl) (fun hg => yq (y_idx (k := 2) (ev_g rfl hg) ev_c (by have hgf := (and_imp (and_t hg) (fun h => (not_f (not_t h))) (fun h => (of_decide_eq_true h))); obtain ⟨hd0, hd1, hd2, hd3, hd4, hd5, hd6, hd7, hd8⟩ := det_all (det_three hgf.1); first | omega | simp) slT_34 (ri_row 1 rfl) (show 2 < (F_impl_FirstDetour (F_spec_DrawFirstDetour code)).1.length by have hgf := (and_imp (and_t hg) (fun h => (not_f (not_t h))) (fun h => (of_decide_eq_true h))); obtain ⟨hd0, hd1, hd2, hd3, hd4, hd5, hd6, hd7, hd8⟩ := det_all (det_three hgf.1); omega))) rfl rfl ?_
                  refine TQ.opw (w_gt rfl rfl rfl) (fun hg => yq (y_ldi (ev_g rfl hg) one_3 (ri_row 1 rfl) (show 2 < (F_impl_FirstDetour (F_spec_DrawFirstDetour code)).1.length by have hgf := (and_imp (and_t hg) (fun h => (not_f (not_t h))) (fun h => (of_decide_eq_true h))); obtain ⟨hd0, hd1, hd2, hd3, hd4, hd5, hd6, hd7, hd8⟩ := det_all (det_three hgf.1); omega))) rfl rfl ?_
                  refine TQ.opw (w_gt rfl rfl rfl) (fun hg => yq (y_idx (k := (((F_impl_FirstDetour (F_spec_DrawFirstDetour code)).1.getD 2 0)).toNat) (ev_g rfl hg) (ev_g rfl hg) (by have hgf := (and_imp (and_t hg) (fun h => (not_f (not_t h))) (fun h => (of_decide_eq_true h))); obtain ⟨hd0, hd1, hd2, hd3, hd4, hd5, hd6, hd7, hd8⟩ := det_all (det_three hgf.1); first | omega | simp) slT_34 (ri_tab 3 ((((F_impl_FirstDetour (F_spec_DrawFirstDetour code)).1.getD 1 0)).toNat) rfl (show (((F_impl_FirstDetour (F_spec_DrawFirstDetour code)).1.getD 1 0)).toNat < (F_spec_DrawFirstDetour code).length by have hgf := (and_imp (and_t hg) (fun h => (not_f (not_t h))) (fun h => (of_decide_eq_true h))); obtain ⟨hd0, hd1, hd2, hd3, hd4, hd5, hd6, hd7, hd8⟩ := det_all (det_three hgf.1); omega)) (show (((F_impl_FirstDetour (F_spec_DrawFirstDetour code)).1.getD 2 0)).toNat < ((F_spec_DrawFirstDetour code).getD ((((F_impl_FirstDetour (F_spec_DrawFirstDetour code)).1.getD 1 0)).toNat) []).length by have hgf := (and_imp (and_t hg) (fun h => (not_f (not_t h))) (fun h => (of_decide_eq_true h))); obtain ⟨hd0, hd1, hd2, hd3, hd4, hd5, hd6, hd7, hd8⟩ := det_all (det_three hgf.1); omega))) rfl rfl ?_
                  refine TQ.opw (w_gt rfl rfl rfl) (fun hg => yq (y_ldi (ev_g rfl hg) one_3 (ri_tab 3 ((((F_impl_FirstDetour (F_spec_DrawFirstDetour code)).1.getD 1 0)).toNat) rfl (show (((F_impl_FirstDetour (F_spec_DrawFirstDetour code)).1.getD 1 0)).toNat < (F_spec_DrawFirstDetour code).length by have hgf := (and_imp (and_t hg) (fun h => (not_f (not_t h))) (fun h => (of_decide_eq_true h))); obtain ⟨hd0, hd1, hd2, hd3, hd4, hd5, hd6, hd7, hd8⟩ := det_all (det_three hgf.1); omega)) (show (((F_impl_FirstDetour (F_spec_DrawFirstDetour code)).1.getD 2 0)).toNat < ((F_spec_DrawFirstDetour code).getD ((((F_impl_FirstDetour (F_spec_DrawFirstDetour code)).1.getD 1 0)).toNat) []).length by have hgf := (and_imp (and_t hg) (fun h => (not_f (not_t h))) (fun h => (of_decide_eq_true h))); obtain ⟨hd0, hd1, hd2, hd3, hd4, hd5, hd6, hd7, hd8⟩ := det_all (det_three hgf.1); omega))) rfl rfl ?_
                  refine TQ.opw (w_gt rfl rfl rfl) (fun hg => yq (y_add (ev_g rfl hg) (ev_g rfl hg) (by have hgf := (and_imp (and_t hg) (fun h => (not_f (not_t h))) (fun h => (of_decide_eq_true h))); obtain ⟨hd0, hd1, hd2, hd3, hd4, hd5, hd6, hd7, hd8⟩ := det_all (det_three hgf.1); unfold In64; omega))) rfl rfl ?_
                  refine TQ.opw (w_gt rfl rfl rfl) (fun hg => yq (y_gtr (ev_g rfl hg) (ev_g rfl hg))) rfl rfl ?_
                  refine TQ.opw (w_f rfl rfl rfl) (fun hg => yq (y_and (ev_g rfl hg) (fun hq => (ev_g rfl (gand hg hq))))) rfl rfl ?_
                  refine TQ.op (yq (y_or (ev_t rfl) (fun hq => (ev_g rfl hq)))) rfl rfl rfl ?_
                  refine TQ.op (yq (y_assign (ev_t rfl))) rfl rfl rfl ?_
                  refine TQ.nil ?_
                  refine TN.seq ?_
                  refine TC.ret ?_
                  subst hF
                  exact TN.ret1 rfl (ev_t rfl) (fun w' hw => ⟨rfl, Hp.sublist hw (List.nil_sublist _)⟩)
          · rw [bif_neg h43] at hF
            have q44 := ((and_f h43).imp (fun h => h) (fun h => h))
            refine TC.skip ?_
            refine TN.seq ?_
            refine TC.seq ?_
            refine TC.region ?_
            refine TL.op (yq (y_move (ev_t rfl))) rfl rfl rfl ?_
            refine TL.callr (ι := Value × List Value) (vs := [vcode]) (fun i => (.agg #[i.1])) (fun i => [tabI 34 3 i.1 i.2 (F_spec_DrawFirstDetour code)]) en_32 ⟨(ev_t rfl), trivial⟩ rfl (fun w hw => spec_DrawFirstDetour_ok w vcode code (rb_arg hcode hw)) (fun r23_1 => ?_)
            refine TL.alloc (u := (.agg #[(.slice none 0 0)])) (by kernel_rfl) rfl (fun g23_2 => ?_)
            refine TL.storeAgg (cs := [(.slice none 0 0)]) (us := [r23_1.1]) 0 (ev_t rfl) (ev_t rfl) agg_45 rfl rfl (fun w hw => (ocs_cons (ln_one ((fun w hw => ((rii_tab 1 rfl) w hw).1) w hw).ln) ocs_nil)) ?_
            refine TL.nil ?_
            refine TN.seq ?_
            refine TC.seq ?_
            refine TC.region ?_
            refine TL.op (yq (y_ldagg (cs := [r23_1.1]) 0 (ev_t rfl) agg_45 rfl)) rfl rfl rfl ?_
            refine TL.callr (ι := Value) (vs := [(.agg #[r23_1.1])]) (fun i => (.tuple #[i, (.bool ((F_impl_FirstDetour (F_spec_DrawFirstDetour code)).2))])) (fun i => [rowI 3 i ((F_impl_FirstDetour (F_spec_DrawFirstDetour code)).1)]) en_33 ⟨(ev_t rfl), trivial⟩ rfl (fun w hw => impl_FirstDetour_ok w r23_1.1 r23_1.2 (F_spec_DrawFirstDetour code) ((rii_tab 1 rfl) w hw)) (fun r24_1 => ?_)
            refine TL.op (yq (y_move (ev_t rfl))) rfl rfl rfl ?_
            refine TL.op (yq (y_extract (ev_t rfl) rfl)) rfl rfl rfl ?_
            refine TL.op (yq (y_extract (ev_t rfl) rfl)) rfl rfl rfl ?_
            refine TL.op (yq (y_assign (ev_t rfl))) rfl rfl rfl ?_
            refine TL.op (yq (y_assign (ev_t rfl))) rfl rfl rfl ?_
            refine TL.nil ?_
            refine TN.seq ?_
            refine TC.seq ?_
            refine TC.seq ?_
            refine TC.region ?_
            refine TL.op (yq (y_ldagg (cs := [r23_1.1]) 1 (ev_t rfl) agg_45 rfl)) rfl rfl rfl ?_
            refine TL.callr (ι := Value) (vs := [(.agg #[r23_1.1])]) (fun i => (.tuple #[i, (.bool ((F_spec_FirstDetour (F_spec_DrawFirstDetour code)).2))])) (fun i => [rowI 3 i ((F_spec_FirstDetour (F_spec_DrawFirstDetour code)).1)]) en_34 ⟨(ev_t rfl), trivial⟩ rfl (fun w hw => spec_FirstDetour_ok w r23_1.1 r23_1.2 (F_spec_DrawFirstDetour code) ((rii_tab 2 rfl) w hw)) (fun r25_1 => ?_)
            refine TL.op (yq (y_move (ev_t rfl))) rfl rfl rfl ?_
            refine TL.op (yq (y_extract (ev_t rfl) rfl)) rfl rfl rfl ?_
            refine TL.op (yq (y_extract (ev_t rfl) rfl)) rfl rfl rfl ?_
            refine TL.op (yq (y_assign (ev_t rfl))) rfl rfl rfl ?_
            refine TL.op (yq (y_assign (ev_t rfl))) rfl rfl rfl ?_
            refine TL.nil ?_
            refine TN.seq ?_
            refine TC.seq ?_
            refine TC.region ?_
            refine TL.op (yq (y_move (ev_t rfl))) rfl rfl rfl ?_
            refine TL.op (yq (y_move (ev_t rfl))) rfl rfl rfl ?_
            refine TL.op (yq (y_bneq (ev_t rfl) (ev_t rfl) Try.underlying4)) rfl rfl rfl ?_
            refine TL.op (yq (y_move (ev_t rfl))) rfl rfl rfl ?_
            refine TL.opw (w_f rfl rfl rfl) (fun hg => yq (y_move (ev_t rfl))) rfl rfl ?_
            refine TL.opw (w_f rfl rfl rfl) (fun hg => yq (y_move (ev_t rfl))) rfl rfl ?_
            refine TL.opw (w_f rfl rfl rfl) (fun hg => y_call (vs := [r24_1, r25_1]) (v := (.bool (F_laws_rInts ((F_impl_FirstDetour (F_spec_DrawFirstDetour code)).1) ((F_spec_FirstDetour (F_spec_DrawFirstDetour code)).1)))) en_22 ⟨(ev_g rfl hg), (ev_g rfl hg), trivial⟩ (fun w hw => laws_rInts_ok w r24_1 ((F_impl_FirstDetour (F_spec_DrawFirstDetour code)).1) ((ri_row 1 rfl) w hw) r25_1 ((F_spec_FirstDetour (F_spec_DrawFirstDetour code)).1) ((ri_row 0 rfl) w hw))) rfl rfl ?_
            refine TL.opw (w_f rfl rfl rfl) (fun hg => yq (y_not (ev_g rfl hg))) rfl rfl ?_
            refine TL.op (yq (y_or (ev_t rfl) (fun hq => (ev_g rfl hq)))) rfl rfl rfl ?_
            refine TL.op (yq (y_move (ev_t rfl))) rfl rfl rfl ?_
            refine TL.opw (w_f rfl rfl rfl) (fun hg => yq (y_move (ev_t rfl))) rfl rfl ?_
            refine TL.opw (w_f rfl rfl rfl) (fun hg => yq (y_move (ev_g rfl hg))) rfl rfl ?_
            refine TL.opw (w_gt rfl rfl rfl) (fun hg => yq (y_ldagg (cs := [r23_1.1]) 2 (ev_t rfl) agg_45 rfl)) rfl rfl ?_
            refine TL.opw (w_gt rfl rfl rfl) (fun hg => y_call (vs := [(.agg #[r23_1.1])]) (v := (.bool (F_impl_IsMetric (F_spec_DrawFirstDetour code)))) en_31 ⟨(ev_g rfl hg), trivial⟩ (fun w hw => impl_IsMetric_ok w r23_1.1 r23_1.2 (F_spec_DrawFirstDetour code) ((rii_tab 3 rfl) w hw))) rfl rfl ?_
            refine TL.opw (w_f rfl rfl rfl) (fun hg => yq (y_and (ev_g rfl hg) (fun hq => (ev_g rfl (gand hg hq))))) rfl rfl ?_
            refine TL.op (yq (y_or (ev_t rfl) (fun hq => (ev_g rfl hq)))) rfl rfl rfl ?_
            refine TL.nil ?_
            refine TN.seq ?_
            refine TC.cond (b := (((((F_impl_FirstDetour (F_spec_DrawFirstDetour code)).2) != ((F_spec_FirstDetour (F_spec_DrawFirstDetour code)).2)) || (!(F_laws_rInts ((F_impl_FirstDetour (F_spec_DrawFirstDetour code)).1) ((F_spec_FirstDetour (F_spec_DrawFirstDetour code)).1)))) || (((F_impl_FirstDetour (F_spec_DrawFirstDetour code)).2) && (F_impl_IsMetric (F_spec_DrawFirstDetour code))))) (ev_t rfl) (fun h57 => ?_) (fun h57 => ?_)
            · rw [bif_pos h57] at hF
              have q58 := ((or_t h57).imp (fun h => ((or_t h).imp (fun h => h) (fun h => (not_t h)))) (fun h => (and_imp (and_t h) (fun h => h) (fun h => (isMetric_t h)))))
              refine TC.seq ?_
              refine TC.region ?_
              refine TL.op (yq (y_assign ev_c)) rfl rfl rfl ?_
              refine TL.nil ?_
              refine TN.seq ?_
              refine TC.ret ?_
              refine TN.thenR ?_
              subst hF
              exact TN.ret1 rfl (ev_t rfl) (fun w' hw => ⟨rfl, Hp.sublist hw (List.nil_sublist _)⟩)
            · rw [bif_neg h57] at hF
              have q58 := (and_imp (or_f h57) (fun h => (and_imp (or_f h) (fun h => h) (fun h => (not_f h)))) (fun h => ((and_f h).imp (fun h => h) (fun h => h))))
              refine TC.skip ?_
              refine TN.seq ?_
              refine TC.seq ?_
              refine TC.regionQ (by kernel_rfl) (by kernel_rfl) dr_hp ?_
              refine TQ.op (yq (y_move (ev_t rfl))) rfl rfl rfl ?_
              refine TQ.op (yq (y_not (ev_t rfl))) rfl rfl rfl ?_
              refine TQ.op (yq (y_move (ev_t rfl))) rfl rfl rfl ?_
              refine TQ.opw (w_f rfl rfl rfl) (fun hg => yq (y_move (ev_t rfl))) rfl rfl ?_
              refine TQ.opw (w_f rfl rfl rfl) (fun hg => yq (y_len (ev_g rfl hg) Try.underlying34 (fun w hw => ((ri_row 1 rfl) w hw).ln))) rfl rfl ?_
              refine TQ.opw (w_f rfl rfl rfl) (fun hg => yq (y_eql (ev_g rfl hg) ev_c)) rfl rfl ?_
              refine TQ.opw (w_f rfl rfl rfl) (fun hg => yq (y_move (ev_g rfl hg))) rfl rfl ?_
              refine TQ.opw (w_gt rfl rfl rfl) (fun hg => yq (y_fa (fa_45_0 g23_2) (ev_t rfl))) rfl rfl ?_
              refine TQ.opw (w_gt rfl rfl rfl) (fun hg => yq (y_ldb 2 (ev_g rfl hg) one_43 rfl rfl)) rfl rfl ?_
              refine TQ.opw (w_gt rfl rfl rfl) (fun hg => yq (y_move (ev_t rfl))) rfl rfl ?_
              refine TQ.opw (w_gt rfl rfl rfl) (fun hg => yq (y_idx (k := 0) (ev_g rfl hg) ev_c (by have hgf := (and_imp (and_t hg) (fun h => (not_f (not_t h))) (fun h => (of_decide_eq_true h))); obtain ⟨hd0, hd1, hd2, hd3, hd4, hd5, hd6, hd7, hd8⟩ := det_all (det_three hgf.1); first | omega | simp) slT_34 (ri_row 1 rfl) (show 0 < (F_impl_FirstDetour (F_spec_DrawFirstDetour code)).1.length by have hgf := (and_imp (and_t hg) (fun h => (not_f (not_t h))) (fun h => (of_decide_eq_true h))); obtain ⟨hd0, hd1, hd2, hd3, hd4, hd5, hd6, hd7, hd8⟩ := det_all (det_three hgf.1); omega))) rfl rfl ?_
              refine TQ.opw (w_gt rfl rfl rfl) (fun hg => yq (y_ldi (ev_g rfl hg) one_3 (ri_row 1 rfl) (show 0 < (F_impl_FirstDetour (F_spec_DrawFirstDetour code)).1.length by have hgf := (and_imp (and_t hg) (fun h => (not_f (not_t h))) (fun h => (of_decide_eq_true h))); obtain ⟨hd0, hd1, hd2, hd3, hd4, hd5, hd6, hd7, hd8⟩ := det_all (det_three hgf.1); omega))) rfl rfl ?_
              refine TQ.opw (w_gt rfl rfl rfl) (fun hg => yq (y_idx (k := (((F_impl_FirstDetour (F_spec_DrawFirstDetour code)).1.getD 0 0)).toNat) (ev_g rfl hg) (ev_g rfl hg) (by have hgf := (and_imp (and_t hg) (fun h => (not_f (not_t h))) (fun h => (of_decide_eq_true h))); obtain ⟨hd0, hd1, hd2, hd3, hd4, hd5, hd6, hd7, hd8⟩ := det_all (det_three hgf.1); first | omega | simp) slT_43 (fun w hw => ((rii_tab 3 rfl) w hw).1) (show (((F_impl_FirstDetour (F_spec_DrawFirstDetour code)).1.getD 0 0)).toNat < (F_spec_DrawFirstDetour code).length by have hgf := (and_imp (and_t hg) (fun h => (not_f (not_t h))) (fun h => (of_decide_eq_true h))); obtain ⟨hd0, hd1, hd2, hd3, hd4, hd5, hd6, hd7, hd8⟩ := det_all (det_three hgf.1); omega))) rfl rfl ?_
              refine TQ.opw (w_gt rfl rfl rfl) (fun hg => yq (y_ldT 3 (ev_g rfl hg) one_34 rfl (show (((F_impl_FirstDetour (F_spec_DrawFirstDetour code)).1.getD 0 0)).toNat < (F_spec_DrawFirstDetour code).length by have hgf := (and_imp (and_t hg) (fun h => (not_f (not_t h))) (fun h => (of_decide_eq_true h))); obtain ⟨hd0, hd1, hd2, hd3, hd4, hd5, hd6, hd7, hd8⟩ := det_all (det_three hgf.1); omega))) rfl rfl ?_
              refine TQ.opw (w_gt rfl rfl rfl) (fun hg => yq (y_move (ev_t rfl))) rfl rfl ?_
              refine TQ.opw (w_gt rfl rfl rfl) (fun hg => yq (y_idx (k := 2) (ev_g rfl hg) ev_c (by have hgf := (and_imp (and_t hg) (fun h => (not_f (not_t h))) (fun h => (of_decide_eq_true h))); obtain ⟨hd0, hd1, hd2, hd3, hd4, hd5, hd6, hd7, hd8⟩ := det_all (det_three hgf.1); first | omega | simp) slT_34 (ri_row 1 rfl) (show 2 < (F_impl_FirstDetour (F_spec_DrawFirstDetour code)).1.length by have hgf := (and_imp (and_t hg) (fun h => (not_f (not_t h))) (fun h => (of_decide_eq_true h))); obtain ⟨hd0, hd1, hd2, hd3, hd4, hd5, hd6, hd7, hd8⟩ := det_all (det_three hgf.1); omega))) rfl rfl ?_
              refine TQ.opw (w_gt rfl rfl rfl) (fun hg => yq (y_ldi (ev_g rfl hg) one_3 (ri_row 1 rfl) (show 2 < (F_impl_FirstDetour (F_spec_DrawFirstDetour code)).1.length by have hgf := (and_imp (and_t hg) (fun h => (not_f (not_t h))) (fun h => (of_decide_eq_true h))); obtain ⟨hd0, hd1, hd2, hd3, hd4, hd5, hd6, hd7, hd8⟩ := det_all (det_three hgf.1); omega))) rfl rfl ?_
              refine TQ.opw (w_gt rfl rfl rfl) (fun hg => yq (y_idx (k := (((F_impl_FirstDetour (F_spec_DrawFirstDetour code)).1.getD 2 0)).toNat) (ev_g rfl hg) (ev_g rfl hg) (by have hgf := (and_imp (and_t hg) (fun h => (not_f (not_t h))) (fun h => (of_decide_eq_true h))); obtain ⟨hd0, hd1, hd2, hd3, hd4, hd5, hd6, hd7, hd8⟩ := det_all (det_three hgf.1); first | omega | simp) slT_34 (ri_tab 3 ((((F_impl_FirstDetour (F_spec_DrawFirstDetour code)).1.getD 0 0)).toNat) rfl (show (((F_impl_FirstDetour (F_spec_DrawFirstDetour code)).1.getD 0 0)).toNat < (F_spec_DrawFirstDetour code).length by have hgf := (and_imp (and_t hg) (fun h => (not_f (not_t h))) (fun h => (of_decide_eq_true h))); obtain ⟨hd0, hd1, hd2, hd3, hd4, hd5, hd6, hd7, hd8⟩ := det_all (det_three hgf.1); omega)) (show (((F_impl_FirstDetour (F_spec_DrawFirstDetour code)).1.getD 2 0)).toNat < ((F_spec_DrawFirstDetour code).getD ((((F_impl_FirstDetour (F_spec_DrawFirstDetour code)).1.getD 0 0)).toNat) []).length by have hgf := (and_imp (and_t hg) (fun h => (not_f (not_t h))) (fun h => (of_decide_eq_true h))); obtain ⟨hd0, hd1, hd2, hd3, hd4, hd5, hd6, hd7, hd8⟩ := det_all (det_three hgf.1); omega))) rfl rfl ?_
              refine TQ.opw (w_gt rfl rfl rfl) (fun hg => yq (y_ldi (ev_g rfl hg) one_3 (ri_tab 3 ((((F_impl_FirstDetour (F_spec_DrawFirstDetour code)).1.getD 0 0)).toNat) rfl (show (((F_impl_FirstDetour (F_spec_DrawFirstDetour code)).1.getD 0 0)).toNat < (F_spec_DrawFirstDetour code).length by have hgf := (and_imp (and_t hg) (fun h => (not_f (not_t h))) (fun h => (of_decide_eq_true h))); obtain ⟨hd0, hd1, hd2, hd3, hd4, hd5, hd6, hd7, hd8⟩ := det_all (det_three hgf.1); omega)) (show (((F_impl_FirstDetour (F_spec_DrawFirstDetour code)).1.getD 2 0)).toNat < ((F_spec_DrawFirstDetour code).getD ((((F_impl_FirstDetour (F_spec_DrawFirstDetour code)).1.getD 0 0)).toNat) []).length by have hgf := (and_imp (and_t hg) (fun h => (not_f (not_t h))) (fun h => (of_decide_eq_true h))); obtain ⟨hd0, hd1, hd2, hd3, hd4, hd5, hd6, hd7, hd8⟩ := det_all (det_three hgf.1); omega))) rfl rfl ?_
              refine TQ.opw (w_gt rfl rfl rfl) (fun hg => yq (y_fa (fa_45_0 g23_2) (ev_t rfl))) rfl rfl ?_
              refine TQ.opw (w_gt rfl rfl rfl) (fun hg => yq (y_ldb 2 (ev_g rfl hg) one_43 rfl rfl)) rfl rfl ?_
              refine TQ.opw (w_gt rfl rfl rfl) (fun hg => yq (y_move (ev_t rfl))) rfl rfl ?_
              refine TQ.opw (w_gt rfl rfl rfl) (fun hg => yq (y_idx (k := 0) (ev_g rfl hg) ev_c (by have hgf := (and_imp (and_t hg) (fun h => (not_f (not_t h))) (fun h => (of_decide_eq_true h))); obtain ⟨hd0, hd1, hd2, hd3, hd4, hd5, hd6, hd7, hd8⟩ := det_all (det_three hgf.1); first | omega | simp) slT_34 (ri_row 1 rfl) (show 0 < (F_impl_FirstDetour (F_spec_DrawFirstDetour code)).1.length by have hgf := (and_imp (and_t hg) (fun h => (not_f (not_t h))) (fun h => (of_decide_eq_true h))); obtain ⟨hd0, hd1, hd2, hd3, hd4, hd5, hd6, hd7, hd8⟩ := det_all (det_three hgf.1); omega))) rfl rfl ?_
              refine TQ.opw (w_gt rfl rfl rfl) (fun hg => yq (y_ldi (ev_g rfl hg) one_3 (ri_row 1 rfl) (show 0 < (F_impl_FirstDetour (F_spec_DrawFirstDetour code)).1.length by have hgf := (and_imp (and_t hg) (fun h => (not_f (not_t h))) (fun h => (of_decide_eq_true h))); obtain ⟨hd0, hd1, hd2, hd3, hd4, hd5, hd6, hd7, hd8⟩ := det_all (det_three hgf.1); omega))) rfl rfl ?_
              refine TQ.opw (w_gt rfl rfl rfl) (fun hg => yq (y_idx (k := (((F_impl_FirstDetour (F_spec_DrawFirstDetour code)).1.getD 0 0)).toNat) (ev_g rfl hg) (ev_g rfl hg) (by have hgf := (and_imp (and_t hg) (fun h => (not_f (not_t h))) (fun h => (of_decide_eq_true h))); obtain ⟨hd0, hd1, hd2, hd3, hd4, hd5, hd6, hd7, hd8⟩ := det_all (det_three hgf.1); first | omega | simp) slT_43 (fun w hw => ((rii_tab 3 rfl) w hw).1) (show (((F_impl_FirstDetour (F_spec_DrawFirstDetour code)).1.getD 0 0)).toNat < (F_spec_DrawFirstDetour code).length by have hgf := (and_imp (and_t hg) (fun h => (not_f (not_t h))) (fun h => (of_decide_eq_true h))); obtain ⟨hd0, hd1, hd2, hd3, hd4, hd5, hd6, hd7, hd8⟩ := det_all (det_three hgf.1); omega))) rfl rfl ?_
              refine TQ.opw (w_gt rfl rfl rfl) (fun hg => yq (y_ldT 3 (ev_g rfl hg) one_34 rfl (show (((F_impl_FirstDetour (F_spec_DrawFirstDetour code)).1.getD 0 0)).toNat < (F_spec_DrawFirstDetour code).length by have hgf := (and_imp (and_t hg) (fun h => (not_f (not_t h))) (fun h => (of_decide_eq_true h))); obtain ⟨hd0, hd1, hd2, hd3, hd4, hd5, hd6, hd7, hd8⟩ := det_all (det_three hgf.1); omega))) rfl rfl ?_
              refine TQ.opw (w_gt rfl rfl rfl) (fun hg => yq (y_move (ev_t rfl))) rfl rfl ?_
              refine TQ.opw (w_gt rfl rfl rfl) (fun hg => yq (y_idx (k := 1) (ev_g rfl hg) ev_c (by have hgf := (and_imp (and_t hg) (fun h => (not_f (not_t h))) (fun h => (of_decide_eq_true h))); obtain ⟨hd0, hd1, hd2, hd3, hd4, hd5, hd6, hd7, hd8⟩ := det_all (det_three hgf.1); first | omega | simp) slT_34 (ri_row 1 rfl) (show 1 < (F_impl_FirstDetour (F_spec_DrawFirstDetour code)).1.length by have hgf := (and_imp (and_t hg) (fun h => (not_f (not_t h))) (fun h => (of_decide_eq_true h))); obtain ⟨hd0, hd1, hd2, hd3, hd4, hd5, hd6, hd7, hd8⟩ := det_all (det_three hgf.1); omega))) rfl rfl ?_
              refine TQ.opw (w_gt rfl rfl rfl) (fun hg => yq (y_ldi (ev_g rfl hg) one_3 (ri_row 1 rfl) (show 1 < (F_impl_FirstDetour (F_spec_DrawFirstDetour code)).1.length by have hgf := (and_imp (and_t hg) (fun h => (not_f (not_t h))) (fun h => (of_decide_eq_true h))); obtain ⟨hd0, hd1, hd2, hd3, hd4, hd5, hd6, hd7, hd8⟩ := det_all (det_three hgf.1); omega))) rfl rfl ?_
              refine TQ.opw (w_gt rfl rfl rfl) (fun hg => yq (y_idx (k := (((F_impl_FirstDetour (F_spec_DrawFirstDetour code)).1.getD 1 0)).toNat) (ev_g rfl hg) (ev_g rfl hg) (by have hgf := (and_imp (and_t hg) (fun h => (not_f (not_t h))) (fun h => (of_decide_eq_true h))); obtain ⟨hd0, hd1, hd2, hd3, hd4, hd5, hd6, hd7, hd8⟩ := det_all (det_three hgf.1); first | omega | simp) slT_34 (ri_tab 3 ((((F_impl_FirstDetour (F_spec_DrawFirstDetour code)).1.getD 0 0)).toNat) rfl (show (((F_impl_FirstDetour (F_spec_DrawFirstDetour code)).1.getD 0 0)).toNat < (F_spec_DrawFirstDetour code).length by have hgf := (and_imp (and_t hg) (fun h => (not_f (not_t h))) (fun h => (of_decide_eq_true h))); obtain ⟨hd0, hd1, hd2, hd3, hd4, hd5, hd6, hd7, hd8⟩ := det_all (det_three hgf.1); omega)) (show (((F_impl_FirstDetour (F_spec_DrawFirstDetour code)).1.getD 1 0)).toNat < ((F_spec_DrawFirstDetour code).getD ((((F_impl_FirstDetour (F_spec_DrawFirstDetour code)).1.getD 0 0)).toNat) []).length by have hgf := (and_imp (and_t hg) (fun h => (not_f (not_t h))) (fun h => (of_decide_eq_true h))); obtain ⟨hd0, hd1, hd2, hd3, hd4, hd5, hd6, hd7, hd8⟩ := det_all (det_three hgf.1); omega))) rfl rfl ?_
              refine TQ.opw (w_gt rfl rfl rfl) (fun hg => yq (y_ldi (ev_g rfl hg) one_3 (ri_tab 3 ((((F_impl_FirstDetour (F_spec_DrawFirstDetour code)).1.getD 0 0)).toNat) rfl (show (((F_impl_FirstDetour (F_spec_DrawFirstDetour code)).1.getD 0 0)).toNat < (F_spec_DrawFirstDetour code).length by have hgf := (and_imp (and_t hg) (fun h => (not_f (not_t h))) (fun h => (of_decide_eq_true h))); obtain ⟨hd0, hd1, hd2, hd3, hd4, hd5, hd6, hd7, hd8⟩ := det_all (det_three hgf.1); omega)) (show (((F_impl_FirstDetour (F_spec_DrawFirstDetour code)).1.getD 1 0)).toNat < ((F_spec_DrawFirstDetour code).getD ((((F_impl_FirstDetour (F_spec_DrawFirstDetour code)).1.getD 0 0)).toNat) []).length by have hgf := (and_imp (and_t hg) (fun h => (not_f (not_t h))) (fun h => (of_decide_eq_true h))); obtain ⟨hd0, hd1, hd2, hd3, hd4, hd5, hd6, hd7, hd8⟩ := det_all (det_three hgf.1); omega))) rfl rfl ?_
              refine TQ.opw (w_gt rfl rfl rfl) (fun hg => yq (y_fa (fa_45_0 g23_2) (ev_t rfl))) rfl rfl ?_
              refine TQ.opw (w_gt rfl rfl rfl) (fun hg => yq (y_ldb 2 (ev_g rfl hg) one_43 rfl rfl)) rfl rfl ?_
              refine TQ.opw (w_gt rfl rfl rfl) (fun hg => yq (y_move (ev_t rfl))) rfl rfl ?_
              refine TQ.opw (w_gt rfl rfl rfl) (fun hg => yq (y_idx (k := 1) (ev_g rfl hg) ev_c (by have hgf := (and_imp (and_t hg) (fun h => (not_f (not_t h))) (fun h => (of_decide_eq_true h))); obtain ⟨hd0, hd1, hd2, hd3, hd4, hd5, hd6, hd7, hd8⟩ := det_all (det_three hgf.1); first | omega | simp) slT_34 (ri_row 1 rfl) (show 1 < (F_impl_FirstDetour (F_spec_DrawFirstDetour code)).1.length by have hgf := (and_imp (and_t hg) (fun h => (not_f (not_t h))) (fun h => (of_decide_eq_true h))); obtain ⟨hd0, hd1, hd2, hd3, hd4, hd5, hd6, hd7, hd8⟩ := det_all (det_three hgf.1); omega))) rfl rfl ?_
              refine TQ.opw (w_gt rfl rfl rfl) (fun hg => yq (y_ldi (ev_g rfl hg) one_3 (ri_row 1 rfl) (show 1 < (F_impl_FirstDetour (F_spec_DrawFirstDetour code)).1.length by have hgf := (and_imp (and_t hg) (fun h => (not_f (not_t h))) (fun h => (of_decide_eq_true h))); obtain ⟨hd0, hd1, hd2, hd3, hd4, hd5, hd6, hd7, hd8⟩ := det_all (det_three hgf.1); omega))) rfl rfl ?_
              refine TQ.opw (w_gt rfl rfl rfl) (fun hg => yq (y_idx (k := (((F_impl_FirstDetour (F_spec_DrawFirstDetour code)).1.getD 1 0)).toNat) (ev_g rfl hg) (ev_g rfl hg) (by have hgf := (and_imp (and_t hg) (fun h => (not_f (not_t h))) (fun h => (of_decide_eq_true h))); obtain ⟨hd0, hd1, hd2, hd3, hd4, hd5, hd6, hd7, hd8⟩ := det_all (det_three hgf.1); first | omega | simp) slT_43 (fun w hw => ((rii_tab 3 rfl) w hw).1) (show (((F_impl_FirstDetour (F_spec_DrawFirstDetour code)).1.getD 1 0)).toNat < (F_spec_DrawFirstDetour code).length by have hgf := (and_imp (and_t hg) (fun h => (not_f (not_t h))) (fun h => (of_decide_eq_true h))); obtain ⟨hd0, hd1, hd2, hd3, hd4, hd5, hd6, hd7, hd8⟩ := det_all (det_three hgf.1); omega))) rfl rfl ?_
              refine TQ.opw (w_gt rfl rfl rfl) (fun hg => yq (y_ldT 3 (ev_g rfl hg) one_34 rfl (show (((F_impl_FirstDetour (F_spec_DrawFirstDetour code)).1.getD 1 0)).toNat < (F_spec_DrawFirstDetour code).length by have hgf := (and_imp (and_t hg) (fun h => (not_f (not_t h))) (fun h => (of_decide_eq_true h))); obtain ⟨hd0, hd1, hd2, hd3, hd4, hd5, hd6, hd7, hd8⟩ := det_all (det_three hgf.1); omega))) rfl rfl ?_
              refine TQ.opw (w_gt rfl rfl rfl) (fun hg => yq (y_move (ev_t rfl))) rfl rfl ?_
              refine TQ.opw (w_gt rfl rfl rfl) (fun hg => yq (y_idx (k := 2) (ev_g rfl hg) ev_c (by have hgf := (and_imp (and_t hg) (fun h => (not_f (not_t h))) (fun h => (of_decide_eq_true h))); obtain ⟨hd0, hd1, hd2, hd3, hd4, hd5, hd6, hd7, hd8⟩ := det_all (det_three hgf.1); first | omega | simp) slT_34 (ri_row 1 rfl) (show 2 < (F_impl_FirstDetour (F_spec_DrawFirstDetour code)).1.length by have hgf := (and_imp (and_t hg) (fun h => (not_f (not_t h))) (fun h => (of_decide_eq_true h))); obtain ⟨hd0, hd1, hd2, hd3, hd4, hd5, hd6, hd7, hd8⟩ := det_all (det_three hgf.1); omega))) rfl rfl ?_
              refine TQ.opw (w_gt rfl rfl rfl) (fun hg => yq (y_ldi (ev_g rfl hg) one_3 (ri_row 1 rfl) (show 2 < (F_impl_FirstDetour (F_spec_DrawFirstDetour code)).1.length by have hgf := (and_imp (and_t hg) (fun h => (not_f (not_t h))) (fun h => (of_decide_eq_true h))); obtain ⟨hd0, hd1, hd2, hd3, hd4, hd5, hd6, hd7, hd8⟩ := det_all (det_three hgf.1); omega))) rfl rfl ?_
              refine TQ.opw (w_gt rfl rfl rfl) (fun hg => yq (y_idx (k := (((F_impl_FirstDetour (F_spec_DrawFirstDetour code)).1.getD 2 0)).toNat) (ev_g rfl hg) (ev_g rfl hg) (by have hgf := (and_imp (and_t hg) (fun h => (not_f (not_t h))) (fun h => (of_decide_eq_true h))); obtain ⟨hd0, hd1, hd2, hd3, hd4, hd5, hd6, hd7, hd8⟩ := det_all (det_three hgf.1); first | omega | simp) slT_34 (ri_tab 3 ((((F_impl_FirstDetour (F_spec_DrawFirstDetour code)).1.getD 1 0)).toNat) rfl (show (((F_impl_FirstDetour (F_spec_DrawFirstDetour code)).1.getD 1 0)).toNat < (F_spec_DrawFirstDetour code).length by have hgf := (and_imp (and_t hg) (fun h => (not_f (not_t h))) (fun h => (of_decide_eq_true h))); obtain ⟨hd0, hd1, hd2, hd3, hd4, hd5, hd6, hd7, hd8⟩ := det_all (det_three hgf.1); omega)) (show (((F_impl_FirstDetour (F_spec_DrawFirstDetour code)).1.getD 2 0)).toNat < ((F_spec_DrawFirstDetour code).getD ((((F_impl_FirstDetour (F_spec_DrawFirstDetour code)).1.getD 1 0)).toNat) []).length by have hgf := (and_imp (and_t hg) (fun h => (not_f (not_t h))) (fun h => (of_decide_eq_true h))); obtain ⟨hd0, hd1, hd2, hd3, hd4, hd5, hd6, hd7, hd8⟩ := det_all (det_three hgf.1); omega))) rfl rfl ?_
              refine TQ.opw (w_gt rfl rfl rfl) (fun hg => yq (y_ldi (ev_g rfl hg) one_3 (ri_tab 3 ((((F_impl_FirstDetour (F_spec_DrawFirstDetour code)).1.getD 1 0)).toNat) rfl (show (((F_impl_FirstDetour (F_spec_DrawFirstDetour code)).1.getD 1 0)).toNat < (F_spec_DrawFirstDetour code).length by have hgf := (and_imp (and_t hg) (fun h => (not_f (not_t h))) (fun h => (of_decide_eq_true h))); obtain ⟨hd0, hd1, hd2, hd3, hd4, hd5, hd6, hd7, hd8⟩ := det_all (det_three hgf.1); omega)) (show (((F_impl_FirstDetour (F_spec_DrawFirstDetour code)).1.getD 2 0)).toNat < ((F_spec_DrawFirstDetour code).getD ((((F_impl_FirstDetour (F_spec_DrawFirstDetour code)).1.getD 1 0)).toNat) []).length by have hgf := (and_imp (and_t hg) (fun h => (not_f (not_t h))) (fun h => (of_decide_eq_true h))); obtain ⟨hd0, hd1, hd2, hd3, hd4, hd5, hd6, hd7, hd8⟩ := det_all (det_three hgf.1); omega))) rfl rfl ?_
              refine TQ.opw (w_gt rfl rfl rfl) (fun hg => yq (y_add (ev_g rfl hg) (ev_g rfl hg) (by have hgf := (and_imp (and_t hg) (fun h => (not_f (not_t h))) (fun h => (of_decide_eq_true h))); obtain ⟨hd0, hd1, hd2, hd3, hd4, hd5, hd6, hd7, hd8⟩ := det_all (det_three hgf.1); unfold In64; omega))) rfl rfl ?_
              refine TQ.opw (w_gt rfl rfl rfl) (fun hg => yq (y_gtr (ev_g rfl hg) (ev_g rfl hg))) rfl rfl ?_
              refine TQ.opw (w_f rfl rfl rfl) (fun hg => yq (y_and (ev_g rfl hg) (fun hq => (ev_g rfl (gand hg hq))))) rfl rfl ?_
              refine TQ.op (yq (y_or (ev_t rfl) (fun hq => (ev_g rfl hq)))) rfl rfl rfl ?_
              refine TQ.op (yq (y_assign (ev_t rfl))) rfl rfl rfl ?_
              refine TQ.nil ?_
              refine TN.seq ?_
              refine TC.ret ?_
              subst hF
              exact TN.ret1 rfl (ev_t rfl) (fun w' hw => ⟨rfl, Hp.sublist hw (List.nil_sublist _)⟩)


end Go.Proofs.Ytfhhfhiooehlcaa
