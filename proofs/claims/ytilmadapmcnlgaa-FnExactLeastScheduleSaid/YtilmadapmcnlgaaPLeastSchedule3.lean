/-
  Walks of the functions that a law reaches: each computes its plain function. No condition but the bounds that are typed.
-/
import Derived.Test.YtilmadapmcnlgaaPLeastSchedule2
namespace Go.Proofs.Ytilmadapmcnlgaa
open Go Go.RowKit

set_option maxRecDepth 4000 in
set_option maxHeartbeats 1000000 in
theorem laws_FnExactLeastSchedule_ok (w : World) (vm : Value) (um : List Value) (m : List (List Int)) (hm : RII w vm um m) (va : Value) (a : List Int) (ha : RI w va a) (vreqs : Value) (reqs : List Int) (hreqs : RI w vreqs reqs)  :
    Calls Try.prog 13 ([(.agg #[vm]), va, vreqs] : List Value).toArray w (Ret (.bool (F_laws_FnExactLeastSchedule m a reqs)) (Hp w [])) := by
  obtain ⟨rz, hF⟩ : ∃ rz, (F_laws_FnExactLeastSchedule m a reqs) = rz := ⟨_, rfl⟩
  rw [hF]
  unfold F_laws_FnExactLeastSchedule at hF
  have hta := toIntS_eq a
  have htb := toIntS_eq reqs
  have hut := leastSchedule_total (F_laws_toMetric m) (F_laws_toIntS a) (F_laws_toIntS reqs)
  have hmt := markIntSS_total (F_impl_LeastSchedule (F_laws_toMetric m) (F_laws_toIntS a) (F_laws_toIntS reqs)).1 1
  have hk1 := markMetric_fst (F_laws_toMetric m) 1
  have hk2 := markIntS_fst (F_laws_toIntS a) (F_laws_markMetric (F_laws_toMetric m) 1).1
  have hlen_m := argT_len hm
  have hlen_a := arg_len ha
  have hlen_reqs := arg_len hreqs
  refine calls_tc Try.func13 rfl rfl rfl ?_
  change TC _ _ _ _ (Hp w []) [(0, (.agg #[vm])), (1, va), (2, vreqs)]
  refine TC.seq ?_
  refine TC.region ?_
  refine TL.box (ev_t rfl) rfl (fun g0_0 => ?_)
  refine TL.op (yq (y_assign ev_c)) rfl rfl rfl ?_
  refine TL.nil ?_
  refine TN.seq ?_
  refine TC.seq ?_
  refine TC.seq ?_
  refine TC.region ?_
  refine TL.op (yq (y_move (ev_t rfl))) rfl rfl rfl ?_
  refine TL.op (yq (y_len (ev_t rfl) Try.underlying25 (fun w hw => ((ri_arg ha) w hw).ln))) rfl rfl rfl ?_
  refine TL.op (yq (y_gtr (ev_t rfl) ev_c)) rfl rfl rfl ?_
  refine TL.nil ?_
  refine TN.seq ?_
  refine TC.cond (b := decide (1048576 < (a.length : Int))) (ev_t rfl) (fun h27 => ?_) (fun h27 => ?_)
  · rw [bif_pos h27] at hF
    have q28 := (of_decide_eq_true h27)
    refine TC.seq ?_
    refine TC.region ?_
    refine TL.op (yq (y_assign ev_c)) rfl rfl rfl ?_
    refine TL.nil ?_
    refine TN.seq ?_
    refine TC.ret ?_
    refine TN.thenR ?_
    subst hF
    exact TN.ret1 rfl (ev_t rfl) (fun w' hw => ⟨rfl, Hp.sublist hw (List.nil_sublist _)⟩)
  · rw [bif_neg h27] at hF
    have q28 := (of_decide_eq_false h27)
    refine TC.skip ?_
    refine TN.seq ?_
    refine TC.seq ?_
    refine TC.seq ?_
    refine TC.region ?_
    refine TL.op (yq (y_move (ev_t rfl))) rfl rfl rfl ?_
    refine TL.op (yq (y_len (ev_t rfl) Try.underlying25 (fun w hw => ((ri_arg hreqs) w hw).ln))) rfl rfl rfl ?_
    refine TL.op (yq (y_gtr (ev_t rfl) ev_c)) rfl rfl rfl ?_
    refine TL.nil ?_
    refine TN.seq ?_
    refine TC.cond (b := decide (1048576 < (reqs.length : Int))) (ev_t rfl) (fun h29 => ?_) (fun h29 => ?_)
    · rw [bif_pos h29] at hF
      have q30 := (of_decide_eq_true h29)
      refine TC.seq ?_
      refine TC.region ?_
      refine TL.op (yq (y_assign ev_c)) rfl rfl rfl ?_
      refine TL.nil ?_
      refine TN.seq ?_
      refine TC.ret ?_
      refine TN.thenR ?_
      subst hF
      exact TN.ret1 rfl (ev_t rfl) (fun w' hw => ⟨rfl, Hp.sublist hw (List.nil_sublist _)⟩)
    · rw [bif_neg h29] at hF
      have q30 := (of_decide_eq_false h29)
      refine TC.skip ?_
      refine TN.seq ?_
      refine TC.seq ?_
      refine TC.region ?_
      refine TL.op (yq (y_assign ev_c)) rfl rfl rfl ?_
      refine TL.nil ?_
      refine TN.seq ?_
      refine TC.seq ?_
      refine TC.region ?_
      refine TL.op (yq (y_ldagg (cs := [vm]) 0 (ev_t rfl) agg_24 rfl)) rfl rfl rfl ?_
      refine TL.op (yq (y_move (ev_t rfl))) rfl rfl rfl ?_
      refine TL.op (y_call (vs := [(.agg #[vm]), (.int .i64 1048576)]) (v := (.int .i64 (F_laws_szMetric m 1048576))) en_15 ⟨(ev_t rfl), (ev_t rfl), trivial⟩ (fun w hw => laws_szMetric_ok w vm um m ((rii_arg hm) w hw) 1048576 (by first | assumption | omega | grind) (by first | assumption | omega | grind))) rfl rfl rfl ?_
      refine TL.op (yq (y_assign (ev_t rfl))) rfl rfl rfl ?_
      refine TL.nil ?_
      refine TN.seq ?_
      refine TC.seq ?_
      refine TC.seq ?_
      refine TC.region ?_
      refine TL.op (yq (y_move (ev_t rfl))) rfl rfl rfl ?_
      refine TL.op (yq (y_lss (ev_t rfl) ev_c)) rfl rfl rfl ?_
      refine TL.nil ?_
      refine TN.seq ?_
      refine TC.cond (b := decide ((F_laws_szMetric m 1048576) < 0)) (ev_t rfl) (fun h31 => ?_) (fun h31 => ?_)
      · rw [bif_pos h31] at hF
        have q32 := (of_decide_eq_true h31)
        refine TC.seq ?_
        refine TC.region ?_
        refine TL.op (yq (y_assign ev_c)) rfl rfl rfl ?_
        refine TL.nil ?_
        refine TN.seq ?_
        refine TC.ret ?_
        refine TN.thenR ?_
        subst hF
        exact TN.ret1 rfl (ev_t rfl) (fun w' hw => ⟨rfl, Hp.sublist hw (List.nil_sublist _)⟩)
      · rw [bif_neg h31] at hF
        have q32 := (of_decide_eq_false h31)
        have hsz := szMetric_t (m := m) (left := 1048576) (by omega)
        have hsz1 : ∀ i, (m.getD i []).length ≤ 1048576 := fun i => by have := hsz.2 i; omega
        have hsz2 : m.length + total m ≤ 1048576 := by have := hsz.1; omega
        have htm := toMetric_eq m
        refine TC.skip ?_
        refine TN.seq ?_
        refine TC.seq ?_
        refine TC.region ?_
        refine TL.op (yq (y_ldagg (cs := [vm]) 0 (ev_t rfl) agg_24 rfl)) rfl rfl rfl ?_
        refine TL.callr (ι := Value × List Value) (vs := [(.agg #[vm])]) (fun i => (.agg #[i.1])) (fun i => [tabI 25 3 i.1 i.2 (F_laws_toMetric m)]) en_17 ⟨(ev_t rfl), trivial⟩ rfl (fun w hw => laws_toMetric_ok w vm um m ((rii_arg hm) w hw) (by first | assumption | omega | grind) (by first | assumption | omega | grind)) (fun r9_1 => ?_)
        refine TL.op (yq (y_move (ev_t rfl))) rfl rfl rfl ?_
        refine TL.callr (ι := Value) (vs := [va]) (fun i => i) (fun i => [rowI 3 i (F_laws_toIntS a)]) en_18 ⟨(ev_t rfl), trivial⟩ rfl (fun w hw => laws_toIntS_ok w va a ((ri_arg ha) w hw) (by first | assumption | omega | grind)) (fun r9_3 => ?_)
        refine TL.op (yq (y_move (ev_t rfl))) rfl rfl rfl ?_
        refine TL.callr (ι := Value) (vs := [vreqs]) (fun i => i) (fun i => [rowI 3 i (F_laws_toIntS reqs)]) en_18 ⟨(ev_t rfl), trivial⟩ rfl (fun w hw => laws_toIntS_ok w vreqs reqs ((ri_arg hreqs) w hw) (by first | assumption | omega | grind)) (fun r9_5 => ?_)
        refine TL.callr (ι := Value × List Value) (vs := [(.agg #[r9_1.1]), r9_3, r9_5]) (fun i => (.tuple #[i.1, (.bool ((F_spec_LeastSchedule (F_laws_toMetric m) (F_laws_toIntS a) (F_laws_toIntS reqs)).2))])) (fun i => [tabI 25 3 i.1 i.2 ((F_spec_LeastSchedule (F_laws_toMetric m) (F_laws_toIntS a) (F_laws_toIntS reqs)).1)]) en_48 ⟨(ev_t rfl), (ev_t rfl), (ev_t rfl), trivial⟩ rfl (fun w hw => spec_LeastSchedule_ok w r9_1.1 r9_1.2 (F_laws_toMetric m) ((rii_tab 2 rfl) w hw) r9_3 (F_laws_toIntS a) ((ri_row 1 rfl) w hw) r9_5 (F_laws_toIntS reqs) ((ri_row 0 rfl) w hw)) (fun r9_6 => ?_)
        refine TL.op (yq (y_move (ev_t rfl))) rfl rfl rfl ?_
        refine TL.op (yq (y_extract (ev_t rfl) rfl)) rfl rfl rfl ?_
        refine TL.op (yq (y_extract (ev_t rfl) rfl)) rfl rfl rfl ?_
        refine TL.op (yq (y_assign (ev_t rfl))) rfl rfl rfl ?_
        refine TL.op (yq (y_assign (ev_t rfl))) rfl rfl rfl ?_
        refine TL.nil ?_
        refine TN.seq ?_
        refine TC.seq ?_
        refine TC.region ?_
        refine TL.op (yq (y_ldagg (cs := [vm]) 4 (ev_t rfl) agg_24 rfl)) rfl rfl rfl ?_
        refine TL.callr (ι := Value × List Value) (vs := [(.agg #[vm])]) (fun i => (.agg #[i.1])) (fun i => [tabI 25 3 i.1 i.2 (F_laws_toMetric m)]) en_17 ⟨(ev_t rfl), trivial⟩ rfl (fun w hw => laws_toMetric_ok w vm um m ((rii_arg hm) w hw) (by first | assumption | omega | grind) (by first | assumption | omega | grind)) (fun r10_1 => ?_)
        refine TL.alloc (u := (.agg #[(.slice none 0 0)])) (by kernel_rfl) rfl (fun g10_2 => ?_)
        refine TL.storeAgg (cs := [(.slice none 0 0)]) (us := [r10_1.1]) 0 (ev_t rfl) (ev_t rfl) agg_29 rfl rfl (fun w hw => (ocs_cons (ln_one ((fun w hw => ((rii_tab 1 rfl) w hw).1) w hw).ln) ocs_nil)) ?_
        refine TL.nil ?_
        refine TN.seq ?_
        refine TC.seq ?_
        refine TC.region ?_
        refine TL.op (yq (y_move (ev_t rfl))) rfl rfl rfl ?_
        refine TL.callr (ι := Value) (vs := [va]) (fun i => i) (fun i => [rowI 3 i (F_laws_toIntS a)]) en_18 ⟨(ev_t rfl), trivial⟩ rfl (fun w hw => laws_toIntS_ok w va a ((ri_arg ha) w hw) (by first | assumption | omega | grind)) (fun r11_1 => ?_)
        refine TL.op (yq (y_assign (ev_t rfl))) rfl rfl rfl ?_
        refine TL.nil ?_
        refine TN.seq ?_
        refine TC.seq ?_
        refine TC.region ?_
        refine TL.op (yq (y_move (ev_t rfl))) rfl rfl rfl ?_
        refine TL.callr (ι := Value) (vs := [vreqs]) (fun i => i) (fun i => [rowI 3 i (F_laws_toIntS reqs)]) en_18 ⟨(ev_t rfl), trivial⟩ rfl (fun w hw => laws_toIntS_ok w vreqs reqs ((ri_arg hreqs) w hw) (by first | assumption | omega | grind)) (fun r12_1 => ?_)
        refine TL.op (yq (y_assign (ev_t rfl))) rfl rfl rfl ?_
        refine TL.nil ?_
        refine TN.seq ?_
        refine TC.seq ?_
        refine TC.region ?_
        refine TL.op (yq (y_ldagg (cs := [r10_1.1]) 2 (ev_t rfl) agg_29 rfl)) rfl rfl rfl ?_
        refine TL.op (yq (y_move (ev_t rfl))) rfl rfl rfl ?_
        refine TL.op (yq (y_move (ev_t rfl))) rfl rfl rfl ?_
        refine TL.callr (ι := Value × List Value) (vs := [(.agg #[r10_1.1]), r11_1, r12_1]) (fun i => (.tuple #[i.1, (.bool ((F_impl_LeastSchedule (F_laws_toMetric m) (F_laws_toIntS a) (F_laws_toIntS reqs)).2))])) (fun i => [tabI 25 3 i.1 i.2 ((F_impl_LeastSchedule (F_laws_toMetric m) (F_laws_toIntS a) (F_laws_toIntS reqs)).1)]) en_49 ⟨(ev_t rfl), (ev_t rfl), (ev_t rfl), trivial⟩ rfl (fun w hw => impl_LeastSchedule_ok w r10_1.1 r10_1.2 (F_laws_toMetric m) ((rii_tab 3 rfl) w hw) r11_1 (F_laws_toIntS a) ((ri_row 1 rfl) w hw) r12_1 (F_laws_toIntS reqs) ((ri_row 0 rfl) w hw)) (fun r13_3 => ?_)
        refine TL.op (yq (y_move (ev_t rfl))) rfl rfl rfl ?_
        refine TL.op (yq (y_extract (ev_t rfl) rfl)) rfl rfl rfl ?_
        refine TL.op (yq (y_extract (ev_t rfl) rfl)) rfl rfl rfl ?_
        refine TL.op (yq (y_assign (ev_t rfl))) rfl rfl rfl ?_
        refine TL.op (yq (y_assign (ev_t rfl))) rfl rfl rfl ?_
        refine TL.nil ?_
        refine TN.seq ?_
        refine TC.seq ?_
        refine TC.seq ?_
        refine TC.region ?_
        refine TL.op (yq (y_move (ev_t rfl))) rfl rfl rfl ?_
        refine TL.op (yq (y_move (ev_t rfl))) rfl rfl rfl ?_
        refine TL.op (y_call (vs := [r13_3.1, r9_6.1]) (v := (.bool (F_laws_eqIntSS ((F_impl_LeastSchedule (F_laws_toMetric m) (F_laws_toIntS a) (F_laws_toIntS reqs)).1) ((F_spec_LeastSchedule (F_laws_toMetric m) (F_laws_toIntS a) (F_laws_toIntS reqs)).1)))) en_29 ⟨(ev_t rfl), (ev_t rfl), trivial⟩ (fun w hw => laws_eqIntSS_ok w r13_3.1 r13_3.2 ((F_impl_LeastSchedule (F_laws_toMetric m) (F_laws_toIntS a) (F_laws_toIntS reqs)).1) ((rii_tab 0 rfl) w hw) r9_6.1 r9_6.2 ((F_spec_LeastSchedule (F_laws_toMetric m) (F_laws_toIntS a) (F_laws_toIntS reqs)).1) ((rii_tab 5 rfl) w hw))) rfl rfl rfl ?_
        refine TL.op (yq (y_not (ev_t rfl))) rfl rfl rfl ?_
        refine TL.op (yq (y_move (ev_t rfl))) rfl rfl rfl ?_
        refine TL.opw (w_f rfl rfl rfl) (fun hg => yq (y_move (ev_t rfl))) rfl rfl ?_
        refine TL.opw (w_f rfl rfl rfl) (fun hg => yq (y_move (ev_t rfl))) rfl rfl ?_
        refine TL.opw (w_f rfl rfl rfl) (fun hg => yq (y_bneq (ev_g rfl hg) (ev_g rfl hg) Try.underlying4)) rfl rfl ?_
        refine TL.op (yq (y_or (ev_t rfl) (fun hq => (ev_g rfl hq)))) rfl rfl rfl ?_
        refine TL.nil ?_
        refine TN.seq ?_
        refine TC.cond (b := ((!(F_laws_eqIntSS ((F_impl_LeastSchedule (F_laws_toMetric m) (F_laws_toIntS a) (F_laws_toIntS reqs)).1) ((F_spec_LeastSchedule (F_laws_toMetric m) (F_laws_toIntS a) (F_laws_toIntS reqs)).1))) || (((F_impl_LeastSchedule (F_laws_toMetric m) (F_laws_toIntS a) (F_laws_toIntS reqs)).2) != ((F_spec_LeastSchedule (F_laws_toMetric m) (F_laws_toIntS a) (F_laws_toIntS reqs)).2)))) (ev_t rfl) (fun h33 => ?_) (fun h33 => ?_)
        · rw [bif_pos h33] at hF
          have q34 := ((or_t h33).imp (fun h => (not_t h)) (fun h => h))
          refine TC.seq ?_
          refine TC.region ?_
          refine TL.op (yq (y_assign ev_c)) rfl rfl rfl ?_
          refine TL.nil ?_
          refine TN.seq ?_
          refine TC.ret ?_
          refine TN.thenR ?_
          subst hF
          exact TN.ret1 rfl (ev_t rfl) (fun w' hw => ⟨rfl, Hp.sublist hw (List.nil_sublist _)⟩)
        · rw [bif_neg h33] at hF
          have q34 := (and_imp (or_f h33) (fun h => (not_f h)) (fun h => h))
          refine TC.skip ?_
          refine TN.seq ?_
          refine TC.seq ?_
          refine TC.seq ?_
          refine TC.regionH 5 (Hp w [tabI 25 3 r13_3.1 r13_3.2 ((F_impl_LeastSchedule (F_laws_toMetric m) (F_laws_toIntS a) (F_laws_toIntS reqs)).1), rowI 3 r12_1 (F_laws_toIntS reqs), rowI 3 r11_1 (F_laws_toIntS a), .blk g10_2 29 [r10_1.1], tabI 25 3 r10_1.1 r10_1.2 (F_laws_toMetric m), tabI 25 3 r9_6.1 r9_6.2 ((F_spec_LeastSchedule (F_laws_toMetric m) (F_laws_toIntS a) (F_laws_toIntS reqs)).1), rowI 3 r9_5 (F_laws_toIntS reqs), rowI 3 r9_3 (F_laws_toIntS a), tabI 25 3 r9_1.1 r9_1.2 (F_laws_toMetric m), .blk g0_0 24 [vm]]) rfl (by kernel_rfl) dr_hp (fun w hw => hw) ?_
          refine TH.take 0 rfl (by kernel_rfl) (y_ldagg (cs := [r10_1.1]) 3 (ev_t rfl) agg_29 rfl) rfl rfl rfl ?_
          refine TH.take 1 rfl (by kernel_rfl) (y_ldagg (cs := [vm]) 9 (ev_t rfl) agg_24 rfl) rfl rfl rfl ?_
          refine TH.loud 2 rfl (by kernel_rfl) ?_
          refine TL.callr (ι := Value × List Value) (vs := [(.agg #[vm])]) (fun i => (.agg #[i.1])) (fun i => [tabI 25 3 i.1 i.2 (F_laws_toMetric m)]) en_17 ⟨(ev_t rfl), trivial⟩ rfl (fun w hw => laws_toMetric_ok w vm um m ((rii_arg hm) w hw) (by first | assumption | omega | grind) (by first | assumption | omega | grind)) (fun r16_2 => ?_)
          refine TL.nil ?_
          refine TH.back (fun w hw => Hp.sublist hw (.cons _ (.cons_cons _ (.cons_cons _ (.cons_cons _ (.cons_cons _ (.cons_cons _ (.cons_cons _ (.cons_cons _ (.cons_cons _ (.cons_cons _ (.cons_cons _ .slnil)))))))))))) ?_
          refine TH.loud 3 rfl (by kernel_rfl) ?_
          refine TL.op (y_call (vs := [(.agg #[r10_1.1]), (.agg #[r16_2.1])]) (v := (.bool (F_laws_eqMetric (F_laws_toMetric m) (F_laws_toMetric m)))) en_20 ⟨(ev_t rfl), (ev_t rfl), trivial⟩ (fun w hw => laws_eqMetric_ok w r10_1.1 r10_1.2 (F_laws_toMetric m) ((rii_tab 5 rfl) w hw) r16_2.1 r16_2.2 (F_laws_toMetric m) ((rii_tab 0 rfl) w hw))) rfl rfl rfl ?_
          refine TL.nil ?_
          refine TH.back (fun w hw => Hp.sublist hw (.cons _ (.cons_cons _ (.cons_cons _ (.cons_cons _ (.cons_cons _ (.cons_cons _ (.cons_cons _ (.cons_cons _ (.cons_cons _ (.cons_cons _ (.cons_cons _ .slnil)))))))))))) ?_
          refine TH.take 4 rfl (by kernel_rfl) (y_not (ev_t rfl)) rfl rfl rfl ?_
          refine TH.done (by kernel_rfl) ?_
          refine TN.seq ?_
          refine TC.cond (b := !(F_laws_eqMetric (F_laws_toMetric m) (F_laws_toMetric m))) (ev_t rfl) (fun h35 => ?_) (fun h35 => ?_)
          · rw [bif_pos h35] at hF
            have q36 := (not_t h35)
            refine TC.seq ?_
            refine TC.region ?_
            refine TL.op (yq (y_assign ev_c)) rfl rfl rfl ?_
            refine TL.nil ?_
            refine TN.seq ?_
            refine TC.ret ?_
            refine TN.thenR ?_
            subst hF
            exact TN.ret1 rfl (ev_t rfl) (fun w' hw => ⟨rfl, Hp.sublist hw (List.nil_sublist _)⟩)
          · rw [bif_neg h35] at hF
            have q36 := (not_f h35)
            refine TC.skip ?_
            refine TN.seq ?_
            refine TC.seq ?_
            refine TC.seq ?_
            refine TC.region ?_
            refine TL.op (yq (y_move (ev_t rfl))) rfl rfl rfl ?_
            refine TL.op (yq (y_move (ev_t rfl))) rfl rfl rfl ?_
            refine TL.callr (ι := Value) (vs := [va]) (fun i => i) (fun i => [rowI 3 i (F_laws_toIntS a)]) en_18 ⟨(ev_t rfl), trivial⟩ rfl (fun w hw => laws_toIntS_ok w va a ((ri_arg ha) w hw) (by first | assumption | omega | grind)) (fun r18_2 => ?_)
            refine TL.op (y_call (vs := [r11_1, r18_2]) (v := (.bool (F_laws_eqIntS (F_laws_toIntS a) (F_laws_toIntS a)))) en_21 ⟨(ev_t rfl), (ev_t rfl), trivial⟩ (fun w hw => laws_eqIntS_ok w r11_1 (F_laws_toIntS a) ((ri_row 4 rfl) w hw) r18_2 (F_laws_toIntS a) ((ri_row 0 rfl) w hw))) rfl rfl rfl ?_
            refine TL.op (yq (y_not (ev_t rfl))) rfl rfl rfl ?_
            refine TL.nil ?_
            refine TN.seq ?_
            refine TC.cond (b := !(F_laws_eqIntS (F_laws_toIntS a) (F_laws_toIntS a))) (ev_t rfl) (fun h37 => ?_) (fun h37 => ?_)
            · rw [bif_pos h37] at hF
              have q38 := (not_t h37)
              refine TC.seq ?_
              refine TC.region ?_
              refine TL.op (yq (y_assign ev_c)) rfl rfl rfl ?_
              refine TL.nil ?_
              refine TN.seq ?_
              refine TC.ret ?_
              refine TN.thenR ?_
              subst hF
              exact TN.ret1 rfl (ev_t rfl) (fun w' hw => ⟨rfl, Hp.sublist hw (List.nil_sublist _)⟩)
            · rw [bif_neg h37] at hF
              have q38 := (not_f h37)
              refine TC.skip ?_
              refine TN.seq ?_
              refine TC.seq ?_
              refine TC.seq ?_
              refine TC.region ?_
              refine TL.op (yq (y_move (ev_t rfl))) rfl rfl rfl ?_
              refine TL.op (yq (y_move (ev_t rfl))) rfl rfl rfl ?_
              refine TL.callr (ι := Value) (vs := [vreqs]) (fun i => i) (fun i => [rowI 3 i (F_laws_toIntS reqs)]) en_18 ⟨(ev_t rfl), trivial⟩ rfl (fun w hw => laws_toIntS_ok w vreqs reqs ((ri_arg hreqs) w hw) (by first | assumption | omega | grind)) (fun r20_2 => ?_)
              refine TL.op (y_call (vs := [r12_1, r20_2]) (v := (.bool (F_laws_eqIntS (F_laws_toIntS reqs) (F_laws_toIntS reqs)))) en_21 ⟨(ev_t rfl), (ev_t rfl), trivial⟩ (fun w hw => laws_eqIntS_ok w r12_1 (F_laws_toIntS reqs) ((ri_row 4 rfl) w hw) r20_2 (F_laws_toIntS reqs) ((ri_row 0 rfl) w hw))) rfl rfl rfl ?_
              refine TL.op (yq (y_not (ev_t rfl))) rfl rfl rfl ?_
              refine TL.nil ?_
              refine TN.seq ?_
              refine TC.cond (b := !(F_laws_eqIntS (F_laws_toIntS reqs) (F_laws_toIntS reqs))) (ev_t rfl) (fun h39 => ?_) (fun h39 => ?_)
              · rw [bif_pos h39] at hF
                have q40 := (not_t h39)
                refine TC.seq ?_
                refine TC.region ?_
                refine TL.op (yq (y_assign ev_c)) rfl rfl rfl ?_
                refine TL.nil ?_
                refine TN.seq ?_
                refine TC.ret ?_
                refine TN.thenR ?_
                subst hF
                exact TN.ret1 rfl (ev_t rfl) (fun w' hw => ⟨rfl, Hp.sublist hw (List.nil_sublist _)⟩)
              · rw [bif_neg h39] at hF
                have q40 := (not_f h39)
                refine TC.skip ?_
                refine TN.seq ?_
                refine TC.seq ?_
                refine TC.region ?_
                refine TL.op (yq (y_assign ev_c)) rfl rfl rfl ?_
                refine TL.nil ?_
                refine TN.seq ?_
                refine TC.seq ?_
                refine TC.region ?_
                refine TL.op (yq (y_ldagg (cs := [r10_1.1]) 6 (ev_t rfl) agg_29 rfl)) rfl rfl rfl ?_
                refine TL.op (yq (y_move (ev_t rfl))) rfl rfl rfl ?_
                refine TL.callm (ι := Unit) 7 (vs := [(.agg #[r10_1.1]), (.int .i64 1)]) (fun _ => (.int .i64 ((F_laws_markMetric (F_laws_toMetric m) 1).1))) (fun _ => tabI 25 3 r10_1.1 r10_1.2 ((F_laws_markMetric (F_laws_toMetric m) 1).2)) en_24 ⟨(ev_t rfl), (ev_t rfl), trivial⟩ rfl rfl (fun w1 fr1 hw => laws_markMetric_ok w w1 fr1 r10_1.1 r10_1.2 (F_laws_toMetric m) hw 1 (by first | assumption | omega | grind) (by first | assumption | omega | grind)) (fun _ => ?_)
                refine TL.op (yq (y_assign (ev_t rfl))) rfl rfl rfl ?_
                refine TL.nil ?_
                refine TN.seq ?_
                refine TC.seq ?_
                refine TC.region ?_
                refine TL.op (yq (y_move (ev_t rfl))) rfl rfl rfl ?_
                refine TL.op (yq (y_move (ev_t rfl))) rfl rfl rfl ?_
                refine TL.callm (ι := Unit) 5 (vs := [r11_1, (.int .i64 ((F_laws_markMetric (F_laws_toMetric m) 1).1))]) (fun _ => (.int .i64 ((F_laws_markIntS (F_laws_toIntS a) ((F_laws_markMetric (F_laws_toMetric m) 1).1)).1))) (fun _ => rowI 3 r11_1 ((F_laws_markIntS (F_laws_toIntS a) ((F_laws_markMetric (F_laws_toMetric m) 1).1)).2)) en_25 ⟨(ev_t rfl), (ev_t rfl), trivial⟩ rfl rfl (fun w1 fr1 hw => laws_markIntS_ok w w1 fr1 r11_1 (F_laws_toIntS a) hw ((F_laws_markMetric (F_laws_toMetric m) 1).1) (by first | assumption | omega | grind) (by first | assumption | omega | grind)) (fun _ => ?_)
                refine TL.op (yq (y_assign (ev_t rfl))) rfl rfl rfl ?_
                refine TL.nil ?_
                refine TN.seq ?_
                refine TC.seq ?_
                refine TC.region ?_
                refine TL.op (yq (y_move (ev_t rfl))) rfl rfl rfl ?_
                refine TL.op (yq (y_move (ev_t rfl))) rfl rfl rfl ?_
                refine TL.callm (ι := Unit) 4 (vs := [r12_1, (.int .i64 ((F_laws_markIntS (F_laws_toIntS a) ((F_laws_markMetric (F_laws_toMetric m) 1).1)).1))]) (fun _ => (.int .i64 ((F_laws_markIntS (F_laws_toIntS reqs) ((F_laws_markIntS (F_laws_toIntS a) ((F_laws_markMetric (F_laws_toMetric m) 1).1)).1)).1))) (fun _ => rowI 3 r12_1 ((F_laws_markIntS (F_laws_toIntS reqs) ((F_laws_markIntS (F_laws_toIntS a) ((F_laws_markMetric (F_laws_toMetric m) 1).1)).1)).2)) en_25 ⟨(ev_t rfl), (ev_t rfl), trivial⟩ rfl rfl (fun w1 fr1 hw => laws_markIntS_ok w w1 fr1 r12_1 (F_laws_toIntS reqs) hw ((F_laws_markIntS (F_laws_toIntS a) ((F_laws_markMetric (F_laws_toMetric m) 1).1)).1) (by first | assumption | omega | grind) (by first | assumption | omega | grind)) (fun _ => ?_)
                refine TL.op (yq (y_assign (ev_t rfl))) rfl rfl rfl ?_
                refine TL.nil ?_
                refine TN.seq ?_
                refine TC.seq ?_
                refine TC.seq ?_
                refine TC.region ?_
                refine TL.op (yq (y_move (ev_t rfl))) rfl rfl rfl ?_
                refine TL.op (yq (y_lss (ev_t rfl) ev_c)) rfl rfl rfl ?_
                refine TL.op (yq (y_move (ev_t rfl))) rfl rfl rfl ?_
                refine TL.opw (w_f rfl rfl rfl) (fun hg => yq (y_move (ev_t rfl))) rfl rfl ?_
                refine TL.opw (w_f rfl rfl rfl) (fun hg => yq (y_move (ev_t rfl))) rfl rfl ?_
                refine TL.opw (w_f rfl rfl rfl) (fun hg => y_call (vs := [r13_3.1, r9_6.1]) (v := (.bool (F_laws_eqIntSS ((F_impl_LeastSchedule (F_laws_toMetric m) (F_laws_toIntS a) (F_laws_toIntS reqs)).1) ((F_spec_LeastSchedule (F_laws_toMetric m) (F_laws_toIntS a) (F_laws_toIntS reqs)).1)))) en_29 ⟨(ev_g rfl hg), (ev_g rfl hg), trivial⟩ (fun w hw => laws_eqIntSS_ok w r13_3.1 r13_3.2 ((F_impl_LeastSchedule (F_laws_toMetric m) (F_laws_toIntS a) (F_laws_toIntS reqs)).1) ((rii_tab 3 rfl) w hw) r9_6.1 r9_6.2 ((F_spec_LeastSchedule (F_laws_toMetric m) (F_laws_toIntS a) (F_laws_toIntS reqs)).1) ((rii_tab 8 rfl) w hw))) rfl rfl ?_
                refine TL.opw (w_f rfl rfl rfl) (fun hg => yq (y_not (ev_g rfl hg))) rfl rfl ?_
                refine TL.op (yq (y_or (ev_t rfl) (fun hq => (ev_g rfl hq)))) rfl rfl rfl ?_
                refine TL.op (yq (y_move (ev_t rfl))) rfl rfl rfl ?_
                refine TL.opw (w_f rfl rfl rfl) (fun hg => yq (y_move (ev_t rfl))) rfl rfl ?_
                refine TL.opw (w_f rfl rfl rfl) (fun hg => yq (y_move (ev_t rfl))) rfl rfl ?_
                refine TL.opw (w_f rfl rfl rfl) (fun hg => yq (y_bneq (ev_g rfl hg) (ev_g rfl hg) Try.underlying4)) rfl rfl ?_
                refine TL.op (yq (y_or (ev_t rfl) (fun hq => (ev_g rfl hq)))) rfl rfl rfl ?_
                refine TL.nil ?_
                refine TN.seq ?_
                refine TC.cond (b := (((decide ((F_laws_markIntS (F_laws_toIntS reqs) ((F_laws_markIntS (F_laws_toIntS a) ((F_laws_markMetric (F_laws_toMetric m) 1).1)).1)).1 < 0)) || (!(F_laws_eqIntSS ((F_impl_LeastSchedule (F_laws_toMetric m) (F_laws_toIntS a) (F_laws_toIntS reqs)).1) ((F_spec_LeastSchedule (F_laws_toMetric m) (F_laws_toIntS a) (F_laws_toIntS reqs)).1)))) || (((F_impl_LeastSchedule (F_laws_toMetric m) (F_laws_toIntS a) (F_laws_toIntS reqs)).2) != ((F_spec_LeastSchedule (F_laws_toMetric m) (F_laws_toIntS a) (F_laws_toIntS reqs)).2)))) (ev_t rfl) (fun h41 => ?_) (fun h41 => ?_)
                · rw [bif_pos h41] at hF
                  have q42 := ((or_t h41).imp (fun h => ((or_t h).imp (fun h => (of_decide_eq_true h)) (fun h => (not_t h)))) (fun h => h))
                  refine TC.seq ?_
                  refine TC.region ?_
                  refine TL.op (yq (y_assign ev_c)) rfl rfl rfl ?_
                  refine TL.nil ?_
                  refine TN.seq ?_
                  refine TC.ret ?_
                  refine TN.thenR ?_
                  subst hF
                  exact TN.ret1 rfl (ev_t rfl) (fun w' hw => ⟨rfl, Hp.sublist hw (List.nil_sublist _)⟩)
                · rw [bif_neg h41] at hF
                  have q42 := (and_imp (or_f h41) (fun h => (and_imp (or_f h) (fun h => (of_decide_eq_false h)) (fun h => (not_f h)))) (fun h => h))
                  refine TC.skip ?_
                  refine TN.seq ?_
                  refine TC.seq ?_
                  refine TC.region ?_
                  refine TL.op (yq (y_assign ev_c)) rfl rfl rfl ?_
                  refine TL.nil ?_
                  refine TN.seq ?_
                  refine TC.seq ?_
                  refine TC.region ?_
                  refine TL.op (yq (y_move (ev_t rfl))) rfl rfl rfl ?_
                  refine TL.op (yq (y_move (ev_t rfl))) rfl rfl rfl ?_
                  refine TL.callm (ι := Unit) 3 (vs := [r13_3.1, (.int .i64 1)]) (fun _ => (.int .i64 ((F_laws_markIntSS ((F_impl_LeastSchedule (F_laws_toMetric m) (F_laws_toIntS a) (F_laws_toIntS reqs)).1) 1).1))) (fun _ => tabI 25 3 r13_3.1 r13_3.2 ((F_laws_markIntSS ((F_impl_LeastSchedule (F_laws_toMetric m) (F_laws_toIntS a) (F_laws_toIntS reqs)).1) 1).2)) en_30 ⟨(ev_t rfl), (ev_t rfl), trivial⟩ rfl rfl (fun w1 fr1 hw => laws_markIntSS_ok w w1 fr1 r13_3.1 r13_3.2 ((F_impl_LeastSchedule (F_laws_toMetric m) (F_laws_toIntS a) (F_laws_toIntS reqs)).1) hw 1 (by first | assumption | omega | grind) (by first | assumption | omega | grind)) (fun _ => ?_)
                  refine TL.op (yq (y_assign (ev_t rfl))) rfl rfl rfl ?_
                  refine TL.nil ?_
                  refine TN.seq ?_
                  refine TC.seq ?_
                  refine TC.region ?_
                  refine TL.op (yq (y_assign ev_c)) rfl rfl rfl ?_
                  refine TL.nil ?_
                  refine TN.seq ?_
                  refine TC.seq ?_
                  refine TC.region ?_
                  refine TL.op (yq (y_move (ev_t rfl))) rfl rfl rfl ?_
                  refine TL.op (yq (y_move (ev_t rfl))) rfl rfl rfl ?_
                  refine TL.op (y_call (vs := [r13_3.1, (.int .i64 1)]) (v := (.int .i64 (F_laws_heldIntSS ((F_laws_markIntSS ((F_impl_LeastSchedule (F_laws_toMetric m) (F_laws_toIntS a) (F_laws_toIntS reqs)).1) 1).2) 1))) en_31 ⟨(ev_t rfl), (ev_t rfl), trivial⟩ (fun w hw => laws_heldIntSS_ok w r13_3.1 r13_3.2 ((F_laws_markIntSS ((F_impl_LeastSchedule (F_laws_toMetric m) (F_laws_toIntS a) (F_laws_toIntS reqs)).1) 1).2) ((rii_tab 3 rfl) w hw) 1 (by first | assumption | omega | grind) (by first | assumption | omega | grind))) rfl rfl rfl ?_
                  refine TL.op (yq (y_assign (ev_t rfl))) rfl rfl rfl ?_
                  refine TL.nil ?_
                  refine TN.seq ?_
                  refine TC.seq ?_
                  refine TC.seq ?_
                  refine TC.region ?_
                  refine TL.op (yq (y_move (ev_t rfl))) rfl rfl rfl ?_
                  refine TL.op (yq (y_lss (ev_t rfl) ev_c)) rfl rfl rfl ?_
                  refine TL.nil ?_
                  refine TN.seq ?_
                  refine TC.cond (b := decide ((F_laws_heldIntSS ((F_laws_markIntSS ((F_impl_LeastSchedule (F_laws_toMetric m) (F_laws_toIntS a) (F_laws_toIntS reqs)).1) 1).2) 1) < 0)) (ev_t rfl) (fun h43 => ?_) (fun h43 => ?_)
                  · rw [bif_pos h43] at hF
                    have q44 := (of_decide_eq_true h43)
                    refine TC.seq ?_
                    refine TC.region ?_
                    refine TL.op (yq (y_assign ev_c)) rfl rfl rfl ?_
                    refine TL.nil ?_
                    refine TN.seq ?_
                    refine TC.ret ?_
                    refine TN.thenR ?_
                    subst hF
                    exact TN.ret1 rfl (ev_t rfl) (fun w' hw => ⟨rfl, Hp.sublist hw (List.nil_sublist _)⟩)
                  · rw [bif_neg h43] at hF
                    have q44 := (of_decide_eq_false h43)
                    refine TC.skip ?_
                    refine TN.seq ?_
                    refine TC.seq ?_
                    refine TC.seq ?_
                    refine TC.region ?_
                    refine TL.op (yq (y_move (ev_t rfl))) rfl rfl rfl ?_
                    refine TL.op (yq (y_move (ev_t rfl))) rfl rfl rfl ?_
                    refine TL.op (yq (y_neq (ev_t rfl) (ev_t rfl))) rfl rfl rfl ?_
                    refine TL.nil ?_
                    refine TN.seq ?_
                    refine TC.cond (b := !decide ((F_laws_heldIntSS ((F_laws_markIntSS ((F_impl_LeastSchedule (F_laws_toMetric m) (F_laws_toIntS a) (F_laws_toIntS reqs)).1) 1).2) 1) = (F_laws_markIntSS ((F_impl_LeastSchedule (F_laws_toMetric m) (F_laws_toIntS a) (F_laws_toIntS reqs)).1) 1).1)) (ev_t rfl) (fun h45 => ?_) (fun h45 => ?_)
                    · rw [bif_pos h45] at hF
                      have q46 := (of_decide_eq_false (not_t h45))
                      refine TC.seq ?_
                      refine TC.region ?_
                      refine TL.op (yq (y_assign ev_c)) rfl rfl rfl ?_
                      refine TL.nil ?_
                      refine TN.seq ?_
                      refine TC.ret ?_
                      refine TN.thenR ?_
                      subst hF
                      exact TN.ret1 rfl (ev_t rfl) (fun w' hw => ⟨rfl, Hp.sublist hw (List.nil_sublist _)⟩)
                    · rw [bif_neg h45] at hF
                      have q46 := (of_decide_eq_true (not_f h45))
                      refine TC.skip ?_
                      refine TN.seq ?_
                      refine TC.seq ?_
                      refine TC.region ?_
                      refine TL.op (yq (y_ldagg (cs := [vm]) 12 (ev_t rfl) agg_24 rfl)) rfl rfl rfl ?_
                      refine TL.callr (ι := Value × List Value) (vs := [(.agg #[vm])]) (fun i => (.agg #[i.1])) (fun i => [tabI 25 3 i.1 i.2 (F_laws_toMetric m)]) en_17 ⟨(ev_t rfl), trivial⟩ rfl (fun w hw => laws_toMetric_ok w vm um m ((rii_arg hm) w hw) (by first | assumption | omega | grind) (by first | assumption | omega | grind)) (fun r36_1 => ?_)
                      refine TL.op (yq (y_move (ev_t rfl))) rfl rfl rfl ?_
                      refine TL.callr (ι := Value) (vs := [va]) (fun i => i) (fun i => [rowI 3 i (F_laws_toIntS a)]) en_18 ⟨(ev_t rfl), trivial⟩ rfl (fun w hw => laws_toIntS_ok w va a ((ri_arg ha) w hw) (by first | assumption | omega | grind)) (fun r36_3 => ?_)
                      refine TL.op (yq (y_move (ev_t rfl))) rfl rfl rfl ?_
                      refine TL.callr (ι := Value) (vs := [vreqs]) (fun i => i) (fun i => [rowI 3 i (F_laws_toIntS reqs)]) en_18 ⟨(ev_t rfl), trivial⟩ rfl (fun w hw => laws_toIntS_ok w vreqs reqs ((ri_arg hreqs) w hw) (by first | assumption | omega | grind)) (fun r36_5 => ?_)
                      refine TL.callr (ι := Value × List Value) (vs := [(.agg #[r36_1.1]), r36_3, r36_5]) (fun i => (.tuple #[i.1, (.bool ((F_impl_LeastSchedule (F_laws_toMetric m) (F_laws_toIntS a) (F_laws_toIntS reqs)).2))])) (fun i => [tabI 25 3 i.1 i.2 ((F_impl_LeastSchedule (F_laws_toMetric m) (F_laws_toIntS a) (F_laws_toIntS reqs)).1)]) en_49 ⟨(ev_t rfl), (ev_t rfl), (ev_t rfl), trivial⟩ rfl (fun w hw => impl_LeastSchedule_ok w r36_1.1 r36_1.2 (F_laws_toMetric m) ((rii_tab 2 rfl) w hw) r36_3 (F_laws_toIntS a) ((ri_row 1 rfl) w hw) r36_5 (F_laws_toIntS reqs) ((ri_row 0 rfl) w hw)) (fun r36_6 => ?_)
                      refine TL.op (yq (y_move (ev_t rfl))) rfl rfl rfl ?_
                      refine TL.op (yq (y_extract (ev_t rfl) rfl)) rfl rfl rfl ?_
                      refine TL.op (yq (y_extract (ev_t rfl) rfl)) rfl rfl rfl ?_
                      refine TL.op (yq (y_assign (ev_t rfl))) rfl rfl rfl ?_
                      refine TL.op (yq (y_assign (ev_t rfl))) rfl rfl rfl ?_
                      refine TL.nil ?_
                      refine TN.seq ?_
                      refine TC.seq ?_
                      refine TC.seq ?_
                      refine TC.region ?_
                      refine TL.op (yq (y_move (ev_t rfl))) rfl rfl rfl ?_
                      refine TL.op (yq (y_move (ev_t rfl))) rfl rfl rfl ?_
                      refine TL.op (y_call (vs := [r36_6.1, r9_6.1]) (v := (.bool (F_laws_eqIntSS ((F_impl_LeastSchedule (F_laws_toMetric m) (F_laws_toIntS a) (F_laws_toIntS reqs)).1) ((F_spec_LeastSchedule (F_laws_toMetric m) (F_laws_toIntS a) (F_laws_toIntS reqs)).1)))) en_29 ⟨(ev_t rfl), (ev_t rfl), trivial⟩ (fun w hw => laws_eqIntSS_ok w r36_6.1 r36_6.2 ((F_impl_LeastSchedule (F_laws_toMetric m) (F_laws_toIntS a) (F_laws_toIntS reqs)).1) ((rii_tab 0 rfl) w hw) r9_6.1 r9_6.2 ((F_spec_LeastSchedule (F_laws_toMetric m) (F_laws_toIntS a) (F_laws_toIntS reqs)).1) ((rii_tab 12 rfl) w hw))) rfl rfl rfl ?_
                      refine TL.op (yq (y_not (ev_t rfl))) rfl rfl rfl ?_
                      refine TL.op (yq (y_move (ev_t rfl))) rfl rfl rfl ?_
                      refine TL.opw (w_f rfl rfl rfl) (fun hg => yq (y_move (ev_t rfl))) rfl rfl ?_
                      refine TL.opw (w_f rfl rfl rfl) (fun hg => yq (y_move (ev_t rfl))) rfl rfl ?_
                      refine TL.opw (w_f rfl rfl rfl) (fun hg => yq (y_bneq (ev_g rfl hg) (ev_g rfl hg) Try.underlying4)) rfl rfl ?_
                      refine TL.op (yq (y_or (ev_t rfl) (fun hq => (ev_g rfl hq)))) rfl rfl rfl ?_
                      refine TL.nil ?_
                      refine TN.seq ?_
                      refine TC.condF (ev_t rfl) h33 ?_
                      refine TC.skip ?_
                      refine TN.seq ?_
                      refine TC.seq ?_
                      refine TC.region ?_
                      refine TL.op (yq (y_assign ev_c)) rfl rfl rfl ?_
                      refine TL.nil ?_
                      refine TN.seq ?_
                      refine TC.seq ?_
                      refine TC.region ?_
                      refine TL.op (yq (y_move (ev_t rfl))) rfl rfl rfl ?_
                      refine TL.op (yq (y_move (ev_t rfl))) rfl rfl rfl ?_
                      refine TL.op (y_call (vs := [r13_3.1, (.int .i64 1)]) (v := (.int .i64 (F_laws_heldIntSS ((F_laws_markIntSS ((F_impl_LeastSchedule (F_laws_toMetric m) (F_laws_toIntS a) (F_laws_toIntS reqs)).1) 1).2) 1))) en_31 ⟨(ev_t rfl), (ev_t rfl), trivial⟩ (fun w hw => laws_heldIntSS_ok w r13_3.1 r13_3.2 ((F_laws_markIntSS ((F_impl_LeastSchedule (F_laws_toMetric m) (F_laws_toIntS a) (F_laws_toIntS reqs)).1) 1).2) ((rii_tab 7 rfl) w hw) 1 (by first | assumption | omega | grind) (by first | assumption | omega | grind))) rfl rfl rfl ?_
                      refine TL.op (yq (y_assign (ev_t rfl))) rfl rfl rfl ?_
                      refine TL.nil ?_
                      refine TN.seq ?_
                      refine TC.seq ?_
                      refine TC.seq ?_
                      refine TC.region ?_
                      refine TL.op (yq (y_move (ev_t rfl))) rfl rfl rfl ?_
                      refine TL.op (yq (y_lss (ev_t rfl) ev_c)) rfl rfl rfl ?_
                      refine TL.nil ?_
                      refine TN.seq ?_
                      refine TC.condF (ev_t rfl) h43 ?_
                      refine TC.skip ?_
                      refine TN.seq ?_
                      refine TC.seq ?_
                      refine TC.seq ?_
                      refine TC.region ?_
                      refine TL.op (yq (y_move (ev_t rfl))) rfl rfl rfl ?_
                      refine TL.op (yq (y_move (ev_t rfl))) rfl rfl rfl ?_
                      refine TL.op (yq (y_neq (ev_t rfl) (ev_t rfl))) rfl rfl rfl ?_
                      refine TL.nil ?_
                      refine TN.seq ?_
                      refine TC.condF (ev_t rfl) h45 ?_
                      refine TC.skip ?_
                      refine TN.seq ?_
                      refine TC.seq ?_
                      refine TC.region ?_
                      refine TL.op (yq (y_assign ev_c)) rfl rfl rfl ?_
                      refine TL.nil ?_
                      refine TN.seq ?_
                      refine TC.ret ?_
                      subst hF
                      exact TN.ret1 rfl (ev_t rfl) (fun w' hw => ⟨rfl, Hp.sublist hw (List.nil_sublist _)⟩)

end Go.Proofs.Ytilmadapmcnlgaa
