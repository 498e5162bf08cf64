/-
  Walks of functions of the program: each computes its plain function. No condition but the bounds that are typed.
-/
import Derived.Test.YtlhmmhlfledleaaQU
import Derived.Test.YtlhmmhlfledleaaQR
namespace Go.Proofs.Ytlhmmhlfledleaa
open Go Go.RowKit

set_option maxRecDepth 4000 in
set_option maxHeartbeats 1000000 in
theorem laws_FnExactLazyPlan_ok (w : World) (k : Int) (n : Int) (vreqs : Value) (reqs : List Int) (hreqs : RI w vreqs reqs) (vplan : Value) (plan : List Int) (hplan : RI w vplan plan)  :
    Calls Try.prog 8 ([(.int .i64 k), (.int .i64 n), vreqs, vplan] : List Value).toArray w (Ret (.bool (F_laws_FnExactLazyPlan k n reqs plan)) (Hp w [])) := by
  obtain ⟨rz, hF⟩ : ∃ rz, (F_laws_FnExactLazyPlan k n reqs plan) = rz := ⟨_, rfl⟩
  rw [hF]
  unfold F_laws_FnExactLazyPlan at hF
  have hta := toIntS_eq reqs
  have htb := toIntS_eq plan
  have hcl := lazyPlan_len k n (F_laws_toIntS reqs) (F_laws_toIntS plan)
  have hmk := markIntS_len (F_impl_LazyPlan k n (F_laws_toIntS reqs) (F_laws_toIntS plan)).1 1
  have hk1 := markIntS_fst (F_laws_toIntS reqs) 1
  have hk2 := markIntS_fst (F_laws_toIntS plan) (F_laws_markIntS (F_laws_toIntS reqs) 1).1
  have hlen_reqs := arg_len hreqs
  have hlen_plan := arg_len hplan
  refine calls_tc Try.func8 rfl rfl rfl ?_
  change TC _ _ _ _ (Hp w []) [(0, (.int .i64 k)), (1, (.int .i64 n)), (2, vreqs), (3, vplan)]
  refine TC.seq ?_
  refine TC.region ?_
  refine TL.op (yq (y_assign ev_c)) rfl rfl rfl ?_
  refine TL.nil ?_
  refine TN.seq ?_
  refine TC.seq ?_
  refine TC.seq ?_
  refine TC.region ?_
  refine TL.op (yq (y_move (ev_t rfl))) rfl rfl rfl ?_
  refine TL.op (yq (y_len (ev_t rfl) Try.underlying22 (fun w hw => ((ri_arg hreqs) w hw).ln))) rfl rfl rfl ?_
  refine TL.op (yq (y_gtr (ev_t rfl) ev_c)) rfl rfl rfl ?_
  refine TL.nil ?_
  refine TN.seq ?_
  refine TC.cond (b := decide (1048576 < (reqs.length : Int))) (ev_t rfl) (fun h23 => ?_) (fun h23 => ?_)
  · rw [bif_pos h23] at hF
    have q24 := (of_decide_eq_true h23)
    refine TC.seq ?_
    refine TC.region ?_
    refine TL.op (yq (y_assign ev_c)) rfl rfl rfl ?_
    refine TL.nil ?_
    refine TN.seq ?_
    refine TC.ret ?_
    refine TN.thenR ?_
    subst hF
    exact TN.ret1 rfl (ev_t rfl) (fun w' hw => ⟨rfl, hw⟩)
  · rw [bif_neg h23] at hF
    have q24 := (of_decide_eq_false h23)
    refine TC.skip ?_
    refine TN.seq ?_
    refine TC.seq ?_
    refine TC.seq ?_
    refine TC.region ?_
    refine TL.op (yq (y_move (ev_t rfl))) rfl rfl rfl ?_
    refine TL.op (yq (y_len (ev_t rfl) Try.underlying22 (fun w hw => ((ri_arg hplan) w hw).ln))) rfl rfl rfl ?_
    refine TL.op (yq (y_gtr (ev_t rfl) ev_c)) rfl rfl rfl ?_
    refine TL.nil ?_
    refine TN.seq ?_
    refine TC.cond (b := decide (1048576 < (plan.length : Int))) (ev_t rfl) (fun h25 => ?_) (fun h25 => ?_)
    · rw [bif_pos h25] at hF
      have q26 := (of_decide_eq_true h25)
      refine TC.seq ?_
      refine TC.region ?_
      refine TL.op (yq (y_assign ev_c)) rfl rfl rfl ?_
      refine TL.nil ?_
      refine TN.seq ?_
      refine TC.ret ?_
      refine TN.thenR ?_
      subst hF
      exact TN.ret1 rfl (ev_t rfl) (fun w' hw => ⟨rfl, hw⟩)
    · rw [bif_neg h25] at hF
      have q26 := (of_decide_eq_false h25)
      refine TC.skip ?_
      refine TN.seq ?_
      refine TC.seq ?_
      refine TC.region ?_
      refine TL.op (yq (y_move (ev_t rfl))) rfl rfl rfl ?_
      refine TL.op (yq (y_move (ev_t rfl))) rfl rfl rfl ?_
      refine TL.op (yq (y_move (ev_t rfl))) rfl rfl rfl ?_
      refine TL.callr (ι := Value) (vs := [vreqs]) (fun i => i) (fun i => [rowI 3 i (F_laws_toIntS reqs)]) en_14 ⟨(ev_t rfl), trivial⟩ rfl (fun w hw => laws_toIntS_ok w vreqs reqs ((ri_arg hreqs) w hw) (by first | assumption | omega | grind)) (fun r5_3 => ?_)
      refine TL.op (yq (y_move (ev_t rfl))) rfl rfl rfl ?_
      refine TL.callr (ι := Value) (vs := [vplan]) (fun i => i) (fun i => [rowI 3 i (F_laws_toIntS plan)]) en_14 ⟨(ev_t rfl), trivial⟩ rfl (fun w hw => laws_toIntS_ok w vplan plan ((ri_arg hplan) w hw) (by first | assumption | omega | grind)) (fun r5_5 => ?_)
      refine TL.callr (ι := Value) (vs := [(.int .i64 k), (.int .i64 n), r5_3, r5_5]) (fun i => (.tuple #[i, (.bool ((F_spec_LazyPlan k n (F_laws_toIntS reqs) (F_laws_toIntS plan)).2))])) (fun i => [rowI 3 i ((F_spec_LazyPlan k n (F_laws_toIntS reqs) (F_laws_toIntS plan)).1)]) en_30 ⟨(ev_t rfl), (ev_t rfl), (ev_t rfl), (ev_t rfl), trivial⟩ rfl (fun w hw => spec_LazyPlan_ok w k n r5_3 (F_laws_toIntS reqs) ((ri_row 1 rfl) w hw) r5_5 (F_laws_toIntS plan) ((ri_row 0 rfl) w hw)) (fun r5_6 => ?_)
      refine TL.op (yq (y_move (ev_t rfl))) rfl rfl rfl ?_
      refine TL.op (yq (y_extract (ev_t rfl) rfl)) rfl rfl rfl ?_
      refine TL.op (yq (y_extract (ev_t rfl) rfl)) rfl rfl rfl ?_
      refine TL.op (yq (y_assign (ev_t rfl))) rfl rfl rfl ?_
      refine TL.op (yq (y_assign (ev_t rfl))) rfl rfl rfl ?_
      refine TL.nil ?_
      refine TN.seq ?_
      refine TC.seq ?_
      refine TC.region ?_
      refine TL.op (yq (y_move (ev_t rfl))) rfl rfl rfl ?_
      refine TL.callr (ι := Value) (vs := [vreqs]) (fun i => i) (fun i => [rowI 3 i (F_laws_toIntS reqs)]) en_14 ⟨(ev_t rfl), trivial⟩ rfl (fun w hw => laws_toIntS_ok w vreqs reqs ((ri_arg hreqs) w hw) (by first | assumption | omega | grind)) (fun r6_1 => ?_)
      refine TL.op (yq (y_assign (ev_t rfl))) rfl rfl rfl ?_
      refine TL.nil ?_
      refine TN.seq ?_
      refine TC.seq ?_
      refine TC.region ?_
      refine TL.op (yq (y_move (ev_t rfl))) rfl rfl rfl ?_
      refine TL.callr (ι := Value) (vs := [vplan]) (fun i => i) (fun i => [rowI 3 i (F_laws_toIntS plan)]) en_14 ⟨(ev_t rfl), trivial⟩ rfl (fun w hw => laws_toIntS_ok w vplan plan ((ri_arg hplan) w hw) (by first | assumption | omega | grind)) (fun r7_1 => ?_)
      refine TL.op (yq (y_assign (ev_t rfl))) rfl rfl rfl ?_
      refine TL.nil ?_
      refine TN.seq ?_
      refine TC.seq ?_
      refine TC.region ?_
      refine TL.op (yq (y_move (ev_t rfl))) rfl rfl rfl ?_
      refine TL.op (yq (y_move (ev_t rfl))) rfl rfl rfl ?_
      refine TL.op (yq (y_move (ev_t rfl))) rfl rfl rfl ?_
      refine TL.op (yq (y_move (ev_t rfl))) rfl rfl rfl ?_
      refine TL.callr (ι := Value) (vs := [(.int .i64 k), (.int .i64 n), r6_1, r7_1]) (fun i => (.tuple #[i, (.bool ((F_impl_LazyPlan k n (F_laws_toIntS reqs) (F_laws_toIntS plan)).2))])) (fun i => [rowI 3 i ((F_impl_LazyPlan k n (F_laws_toIntS reqs) (F_laws_toIntS plan)).1)]) en_31 ⟨(ev_t rfl), (ev_t rfl), (ev_t rfl), (ev_t rfl), trivial⟩ rfl (fun w hw => impl_LazyPlan_ok w k n r6_1 (F_laws_toIntS reqs) ((ri_row 1 rfl) w hw) r7_1 (F_laws_toIntS plan) ((ri_row 0 rfl) w hw)) (fun r8_4 => ?_)
      refine TL.op (yq (y_move (ev_t rfl))) rfl rfl rfl ?_
      refine TL.op (yq (y_extract (ev_t rfl) rfl)) rfl rfl rfl ?_
      refine TL.op (yq (y_extract (ev_t rfl) rfl)) rfl rfl rfl ?_
      refine TL.op (yq (y_assign (ev_t rfl))) rfl rfl rfl ?_
      refine TL.op (yq (y_assign (ev_t rfl))) rfl rfl rfl ?_
      refine TL.nil ?_
      refine TN.seq ?_
      refine TC.seq ?_
      refine TC.seq ?_
      refine TC.region ?_
      refine TL.op (yq (y_move (ev_t rfl))) rfl rfl rfl ?_
      refine TL.op (yq (y_move (ev_t rfl))) rfl rfl rfl ?_
      refine TL.op (y_call (vs := [r8_4, r5_6]) (v := (.bool (F_laws_eqIntS ((F_impl_LazyPlan k n (F_laws_toIntS reqs) (F_laws_toIntS plan)).1) ((F_spec_LazyPlan k n (F_laws_toIntS reqs) (F_laws_toIntS plan)).1)))) en_16 ⟨(ev_t rfl), (ev_t rfl), trivial⟩ (fun w hw => laws_eqIntS_ok w r8_4 ((F_impl_LazyPlan k n (F_laws_toIntS reqs) (F_laws_toIntS plan)).1) ((ri_row 0 rfl) w hw) r5_6 ((F_spec_LazyPlan k n (F_laws_toIntS reqs) (F_laws_toIntS plan)).1) ((ri_row 3 rfl) w hw))) rfl rfl rfl ?_
      refine TL.op (yq (y_not (ev_t rfl))) rfl rfl rfl ?_
      refine TL.op (yq (y_move (ev_t rfl))) rfl rfl rfl ?_
      refine TL.opw (w_f rfl rfl rfl) (fun hg => yq (y_move (ev_t rfl))) rfl rfl ?_
      refine TL.opw (w_f rfl rfl rfl) (fun hg => yq (y_move (ev_t rfl))) rfl rfl ?_
      refine TL.opw (w_f rfl rfl rfl) (fun hg => yq (y_bneq (ev_g rfl hg) (ev_g rfl hg) Try.underlying4)) rfl rfl ?_
      refine TL.op (yq (y_or (ev_t rfl) (fun hq => (ev_g rfl hq)))) rfl rfl rfl ?_
      refine TL.nil ?_
      refine TN.seq ?_
      refine TC.cond (b := ((!(F_laws_eqIntS ((F_impl_LazyPlan k n (F_laws_toIntS reqs) (F_laws_toIntS plan)).1) ((F_spec_LazyPlan k n (F_laws_toIntS reqs) (F_laws_toIntS plan)).1))) || (((F_impl_LazyPlan k n (F_laws_toIntS reqs) (F_laws_toIntS plan)).2) != ((F_spec_LazyPlan k n (F_laws_toIntS reqs) (F_laws_toIntS plan)).2)))) (ev_t rfl) (fun h27 => ?_) (fun h27 => ?_)
      · rw [bif_pos h27] at hF
        have q28 := ((or_t h27).imp (fun h => (not_t h)) (fun h => h))
        refine TC.seq ?_
        refine TC.region ?_
        refine TL.op (yq (y_assign ev_c)) rfl rfl rfl ?_
        refine TL.nil ?_
        refine TN.seq ?_
        refine TC.ret ?_
        refine TN.thenR ?_
        subst hF
        exact TN.ret1 rfl (ev_t rfl) (fun w' hw => ⟨rfl, Hp.sublist hw (List.nil_sublist _)⟩)
      · rw [bif_neg h27] at hF
        have q28 := (and_imp (or_f h27) (fun h => (not_f h)) (fun h => h))
        refine TC.skip ?_
        refine TN.seq ?_
        refine TC.seq ?_
        refine TC.seq ?_
        refine TC.region ?_
        refine TL.op (yq (y_move (ev_t rfl))) rfl rfl rfl ?_
        refine TL.op (yq (y_move (ev_t rfl))) rfl rfl rfl ?_
        refine TL.callr (ι := Value) (vs := [vreqs]) (fun i => i) (fun i => [rowI 3 i (F_laws_toIntS reqs)]) en_14 ⟨(ev_t rfl), trivial⟩ rfl (fun w hw => laws_toIntS_ok w vreqs reqs ((ri_arg hreqs) w hw) (by first | assumption | omega | grind)) (fun r11_2 => ?_)
        refine TL.op (y_call (vs := [r6_1, r11_2]) (v := (.bool (F_laws_eqIntS (F_laws_toIntS reqs) (F_laws_toIntS reqs)))) en_16 ⟨(ev_t rfl), (ev_t rfl), trivial⟩ (fun w hw => laws_eqIntS_ok w r6_1 (F_laws_toIntS reqs) ((ri_row 3 rfl) w hw) r11_2 (F_laws_toIntS reqs) ((ri_row 0 rfl) w hw))) rfl rfl rfl ?_
        refine TL.op (yq (y_not (ev_t rfl))) rfl rfl rfl ?_
        refine TL.nil ?_
        refine TN.seq ?_
        refine TC.cond (b := !(F_laws_eqIntS (F_laws_toIntS reqs) (F_laws_toIntS reqs))) (ev_t rfl) (fun h29 => ?_) (fun h29 => ?_)
        · rw [bif_pos h29] at hF
          have q30 := (not_t h29)
          refine TC.seq ?_
          refine TC.region ?_
          refine TL.op (yq (y_assign ev_c)) rfl rfl rfl ?_
          refine TL.nil ?_
          refine TN.seq ?_
          refine TC.ret ?_
          refine TN.thenR ?_
          subst hF
          exact TN.ret1 rfl (ev_t rfl) (fun w' hw => ⟨rfl, Hp.sublist hw (List.nil_sublist _)⟩)
        · rw [bif_neg h29] at hF
          have q30 := (not_f h29)
          refine TC.skip ?_
          refine TN.seq ?_
          refine TC.seq ?_
          refine TC.seq ?_
          refine TC.region ?_
          refine TL.op (yq (y_move (ev_t rfl))) rfl rfl rfl ?_
          refine TL.op (yq (y_move (ev_t rfl))) rfl rfl rfl ?_
          refine TL.callr (ι := Value) (vs := [vplan]) (fun i => i) (fun i => [rowI 3 i (F_laws_toIntS plan)]) en_14 ⟨(ev_t rfl), trivial⟩ rfl (fun w hw => laws_toIntS_ok w vplan plan ((ri_arg hplan) w hw) (by first | assumption | omega | grind)) (fun r13_2 => ?_)
          refine TL.op (y_call (vs := [r7_1, r13_2]) (v := (.bool (F_laws_eqIntS (F_laws_toIntS plan) (F_laws_toIntS plan)))) en_16 ⟨(ev_t rfl), (ev_t rfl), trivial⟩ (fun w hw => laws_eqIntS_ok w r7_1 (F_laws_toIntS plan) ((ri_row 3 rfl) w hw) r13_2 (F_laws_toIntS plan) ((ri_row 0 rfl) w hw))) rfl rfl rfl ?_
          refine TL.op (yq (y_not (ev_t rfl))) rfl rfl rfl ?_
          refine TL.nil ?_
          refine TN.seq ?_
          refine TC.cond (b := !(F_laws_eqIntS (F_laws_toIntS plan) (F_laws_toIntS plan))) (ev_t rfl) (fun h31 => ?_) (fun h31 => ?_)
          · rw [bif_pos h31] at hF
            have q32 := (not_t h31)
            refine TC.seq ?_
            refine TC.region ?_
            refine TL.op (yq (y_assign ev_c)) rfl rfl rfl ?_
            refine TL.nil ?_
            refine TN.seq ?_
            refine TC.ret ?_
            refine TN.thenR ?_
            subst hF
            exact TN.ret1 rfl (ev_t rfl) (fun w' hw => ⟨rfl, Hp.sublist hw (List.nil_sublist _)⟩)
          · rw [bif_neg h31] at hF
            have q32 := (not_f h31)
            refine TC.skip ?_
            refine TN.seq ?_
            refine TC.seq ?_
            refine TC.region ?_
            refine TL.op (yq (y_assign ev_c)) rfl rfl rfl ?_
            refine TL.nil ?_
            refine TN.seq ?_
            refine TC.seq ?_
            refine TC.region ?_
            refine TL.op (yq (y_move (ev_t rfl))) rfl rfl rfl ?_
            refine TL.op (yq (y_move (ev_t rfl))) rfl rfl rfl ?_
            refine TL.callm (ι := Unit) 4 (vs := [r6_1, (.int .i64 1)]) (fun _ => (.int .i64 ((F_laws_markIntS (F_laws_toIntS reqs) 1).1))) (fun _ => rowI 3 r6_1 ((F_laws_markIntS (F_laws_toIntS reqs) 1).2)) en_19 ⟨(ev_t rfl), (ev_t rfl), trivial⟩ rfl rfl (fun w1 fr1 hw => laws_markIntS_ok w w1 _ r6_1 (F_laws_toIntS reqs) hw 1 (by first | assumption | omega | grind) (by first | assumption | omega | grind)) (fun _ => ?_)
            refine TL.op (yq (y_assign (ev_t rfl))) rfl rfl rfl ?_
            refine TL.nil ?_
            refine TN.seq ?_
            refine TC.seq ?_
            refine TC.region ?_
            refine TL.op (yq (y_move (ev_t rfl))) rfl rfl rfl ?_
            refine TL.op (yq (y_move (ev_t rfl))) rfl rfl rfl ?_
            refine TL.callm (ι := Unit) 3 (vs := [r7_1, (.int .i64 ((F_laws_markIntS (F_laws_toIntS reqs) 1).1))]) (fun _ => (.int .i64 ((F_laws_markIntS (F_laws_toIntS plan) ((F_laws_markIntS (F_laws_toIntS reqs) 1).1)).1))) (fun _ => rowI 3 r7_1 ((F_laws_markIntS (F_laws_toIntS plan) ((F_laws_markIntS (F_laws_toIntS reqs) 1).1)).2)) en_19 ⟨(ev_t rfl), (ev_t rfl), trivial⟩ rfl rfl (fun w1 fr1 hw => laws_markIntS_ok w w1 _ r7_1 (F_laws_toIntS plan) hw ((F_laws_markIntS (F_laws_toIntS reqs) 1).1) (by first | assumption | omega | grind) (by first | assumption | omega | grind)) (fun _ => ?_)
            refine TL.op (yq (y_assign (ev_t rfl))) rfl rfl rfl ?_
            refine TL.nil ?_
            refine TN.seq ?_
            refine TC.seq ?_
            refine TC.seq ?_
            refine TC.region ?_
            refine TL.op (yq (y_move (ev_t rfl))) rfl rfl rfl ?_
            refine TL.op (yq (y_lss (ev_t rfl) ev_c)) rfl rfl rfl ?_
            refine TL.op (yq (y_move (ev_t rfl))) rfl rfl rfl ?_
            refine TL.opw (w_f rfl rfl rfl) (fun hg => yq (y_move (ev_t rfl))) rfl rfl ?_
            refine TL.opw (w_f rfl rfl rfl) (fun hg => yq (y_move (ev_t rfl))) rfl rfl ?_
            refine TL.opw (w_f rfl rfl rfl) (fun hg => y_call (vs := [r8_4, r5_6]) (v := (.bool (F_laws_eqIntS ((F_impl_LazyPlan k n (F_laws_toIntS reqs) (F_laws_toIntS plan)).1) ((F_spec_LazyPlan k n (F_laws_toIntS reqs) (F_laws_toIntS plan)).1)))) en_16 ⟨(ev_g rfl hg), (ev_g rfl hg), trivial⟩ (fun w hw => laws_eqIntS_ok w r8_4 ((F_impl_LazyPlan k n (F_laws_toIntS reqs) (F_laws_toIntS plan)).1) ((ri_row 2 rfl) w hw) r5_6 ((F_spec_LazyPlan k n (F_laws_toIntS reqs) (F_laws_toIntS plan)).1) ((ri_row 5 rfl) w hw))) rfl rfl ?_
            refine TL.opw (w_f rfl rfl rfl) (fun hg => yq (y_not (ev_g rfl hg))) rfl rfl ?_
            refine TL.op (yq (y_or (ev_t rfl) (fun hq => (ev_g rfl hq)))) rfl rfl rfl ?_
            refine TL.op (yq (y_move (ev_t rfl))) rfl rfl rfl ?_
            refine TL.opw (w_f rfl rfl rfl) (fun hg => yq (y_move (ev_t rfl))) rfl rfl ?_
            refine TL.opw (w_f rfl rfl rfl) (fun hg => yq (y_move (ev_t rfl))) rfl rfl ?_
            refine TL.opw (w_f rfl rfl rfl) (fun hg => yq (y_bneq (ev_g rfl hg) (ev_g rfl hg) Try.underlying4)) rfl rfl ?_
            refine TL.op (yq (y_or (ev_t rfl) (fun hq => (ev_g rfl hq)))) rfl rfl rfl ?_
            refine TL.nil ?_
            refine TN.seq ?_
            refine TC.cond (b := (((decide ((F_laws_markIntS (F_laws_toIntS plan) ((F_laws_markIntS (F_laws_toIntS reqs) 1).1)).1 < 0)) || (!(F_laws_eqIntS ((F_impl_LazyPlan k n (F_laws_toIntS reqs) (F_laws_toIntS plan)).1) ((F_spec_LazyPlan k n (F_laws_toIntS reqs) (F_laws_toIntS plan)).1)))) || (((F_impl_LazyPlan k n (F_laws_toIntS reqs) (F_laws_toIntS plan)).2) != ((F_spec_LazyPlan k n (F_laws_toIntS reqs) (F_laws_toIntS plan)).2)))) (ev_t rfl) (fun h33 => ?_) (fun h33 => ?_)
            · rw [bif_pos h33] at hF
              have q34 := ((or_t h33).imp (fun h => ((or_t h).imp (fun h => (of_decide_eq_true h)) (fun h => (not_t h)))) (fun h => h))
              refine TC.seq ?_
              refine TC.region ?_
              refine TL.op (yq (y_assign ev_c)) rfl rfl rfl ?_
              refine TL.nil ?_
              refine TN.seq ?_
              refine TC.ret ?_
              refine TN.thenR ?_
              subst hF
              exact TN.ret1 rfl (ev_t rfl) (fun w' hw => ⟨rfl, Hp.sublist hw (List.nil_sublist _)⟩)
            · rw [bif_neg h33] at hF
              have q34 := (and_imp (or_f h33) (fun h => (and_imp (or_f h) (fun h => (of_decide_eq_false h)) (fun h => (not_f h)))) (fun h => h))
              refine TC.skip ?_
              refine TN.seq ?_
              refine TC.seq ?_
              refine TC.region ?_
              refine TL.op (yq (y_assign ev_c)) rfl rfl rfl ?_
              refine TL.nil ?_
              refine TN.seq ?_
              refine TC.seq ?_
              refine TC.region ?_
              refine TL.op (yq (y_move (ev_t rfl))) rfl rfl rfl ?_
              refine TL.op (yq (y_move (ev_t rfl))) rfl rfl rfl ?_
              refine TL.callm (ι := Unit) 2 (vs := [r8_4, (.int .i64 1)]) (fun _ => (.int .i64 ((F_laws_markIntS ((F_impl_LazyPlan k n (F_laws_toIntS reqs) (F_laws_toIntS plan)).1) 1).1))) (fun _ => rowI 3 r8_4 ((F_laws_markIntS ((F_impl_LazyPlan k n (F_laws_toIntS reqs) (F_laws_toIntS plan)).1) 1).2)) en_19 ⟨(ev_t rfl), (ev_t rfl), trivial⟩ rfl rfl (fun w1 fr1 hw => laws_markIntS_ok w w1 _ r8_4 ((F_impl_LazyPlan k n (F_laws_toIntS reqs) (F_laws_toIntS plan)).1) hw 1 (by first | assumption | omega | grind) (by first | assumption | omega | grind)) (fun _ => ?_)
              refine TL.op (yq (y_assign (ev_t rfl))) rfl rfl rfl ?_
              refine TL.nil ?_
              refine TN.seq ?_
              refine TC.seq ?_
              refine TC.region ?_
              refine TL.op (yq (y_assign ev_c)) rfl rfl rfl ?_
              refine TL.nil ?_
              refine TN.seq ?_
              refine TC.seq ?_
              refine TC.region ?_
              refine TL.op (yq (y_move (ev_t rfl))) rfl rfl rfl ?_
              refine TL.op (yq (y_move (ev_t rfl))) rfl rfl rfl ?_
              refine TL.op (y_call (vs := [r8_4, (.int .i64 1)]) (v := (.int .i64 (F_laws_heldIntS ((F_laws_markIntS ((F_impl_LazyPlan k n (F_laws_toIntS reqs) (F_laws_toIntS plan)).1) 1).2) 1))) en_20 ⟨(ev_t rfl), (ev_t rfl), trivial⟩ (fun w hw => laws_heldIntS_ok w r8_4 ((F_laws_markIntS ((F_impl_LazyPlan k n (F_laws_toIntS reqs) (F_laws_toIntS plan)).1) 1).2) ((ri_row 2 rfl) w hw) 1 (by first | assumption | omega | grind) (by first | assumption | omega | grind))) rfl rfl rfl ?_
              refine TL.op (yq (y_assign (ev_t rfl))) rfl rfl rfl ?_
              refine TL.nil ?_
              refine TN.seq ?_
              refine TC.seq ?_
              refine TC.seq ?_
              refine TC.region ?_
              refine TL.op (yq (y_move (ev_t rfl))) rfl rfl rfl ?_
              refine TL.op (yq (y_lss (ev_t rfl) ev_c)) rfl rfl rfl ?_
              refine TL.nil ?_
              refine TN.seq ?_
              refine TC.cond (b := decide ((F_laws_heldIntS ((F_laws_markIntS ((F_impl_LazyPlan k n (F_laws_toIntS reqs) (F_laws_toIntS plan)).1) 1).2) 1) < 0)) (ev_t rfl) (fun h35 => ?_) (fun h35 => ?_)
              · rw [bif_pos h35] at hF
                have q36 := (of_decide_eq_true h35)
                refine TC.seq ?_
                refine TC.region ?_
                refine TL.op (yq (y_assign ev_c)) rfl rfl rfl ?_
                refine TL.nil ?_
                refine TN.seq ?_
                refine TC.ret ?_
                refine TN.thenR ?_
                subst hF
                exact TN.ret1 rfl (ev_t rfl) (fun w' hw => ⟨rfl, Hp.sublist hw (List.nil_sublist _)⟩)
              · rw [bif_neg h35] at hF
                have q36 := (of_decide_eq_false h35)
                refine TC.skip ?_
                refine TN.seq ?_
                refine TC.seq ?_
                refine TC.seq ?_
                refine TC.region ?_
                refine TL.op (yq (y_move (ev_t rfl))) rfl rfl rfl ?_
                refine TL.op (yq (y_move (ev_t rfl))) rfl rfl rfl ?_
                refine TL.op (yq (y_neq (ev_t rfl) (ev_t rfl))) rfl rfl rfl ?_
                refine TL.nil ?_
                refine TN.seq ?_
                refine TC.cond (b := !decide ((F_laws_heldIntS ((F_laws_markIntS ((F_impl_LazyPlan k n (F_laws_toIntS reqs) (F_laws_toIntS plan)).1) 1).2) 1) = (F_laws_markIntS ((F_impl_LazyPlan k n (F_laws_toIntS reqs) (F_laws_toIntS plan)).1) 1).1)) (ev_t rfl) (fun h37 => ?_) (fun h37 => ?_)
                · rw [bif_pos h37] at hF
                  have q38 := (of_decide_eq_false (not_t h37))
                  refine TC.seq ?_
                  refine TC.region ?_
                  refine TL.op (yq (y_assign ev_c)) rfl rfl rfl ?_
                  refine TL.nil ?_
                  refine TN.seq ?_
                  refine TC.ret ?_
                  refine TN.thenR ?_
                  subst hF
                  exact TN.ret1 rfl (ev_t rfl) (fun w' hw => ⟨rfl, Hp.sublist hw (List.nil_sublist _)⟩)
                · rw [bif_neg h37] at hF
                  have q38 := (of_decide_eq_true (not_f h37))
                  refine TC.skip ?_
                  refine TN.seq ?_
                  refine TC.seq ?_
                  refine TC.region ?_
                  refine TL.op (yq (y_move (ev_t rfl))) rfl rfl rfl ?_
                  refine TL.op (yq (y_move (ev_t rfl))) rfl rfl rfl ?_
                  refine TL.op (yq (y_move (ev_t rfl))) rfl rfl rfl ?_
                  refine TL.callr (ι := Value) (vs := [vreqs]) (fun i => i) (fun i => [rowI 3 i (F_laws_toIntS reqs)]) en_14 ⟨(ev_t rfl), trivial⟩ rfl (fun w hw => laws_toIntS_ok w vreqs reqs ((ri_arg hreqs) w hw) (by first | assumption | omega | grind)) (fun r28_3 => ?_)
                  refine TL.op (yq (y_move (ev_t rfl))) rfl rfl rfl ?_
                  refine TL.callr (ι := Value) (vs := [vplan]) (fun i => i) (fun i => [rowI 3 i (F_laws_toIntS plan)]) en_14 ⟨(ev_t rfl), trivial⟩ rfl (fun w hw => laws_toIntS_ok w vplan plan ((ri_arg hplan) w hw) (by first | assumption | omega | grind)) (fun r28_5 => ?_)
                  refine TL.callr (ι := Value) (vs := [(.int .i64 k), (.int .i64 n), r28_3, r28_5]) (fun i => (.tuple #[i, (.bool ((F_impl_LazyPlan k n (F_laws_toIntS reqs) (F_laws_toIntS plan)).2))])) (fun i => [rowI 3 i ((F_impl_LazyPlan k n (F_laws_toIntS reqs) (F_laws_toIntS plan)).1)]) en_31 ⟨(ev_t rfl), (ev_t rfl), (ev_t rfl), (ev_t rfl), trivial⟩ rfl (fun w hw => impl_LazyPlan_ok w k n r28_3 (F_laws_toIntS reqs) ((ri_row 1 rfl) w hw) r28_5 (F_laws_toIntS plan) ((ri_row 0 rfl) w hw)) (fun r28_6 => ?_)
                  refine TL.op (yq (y_move (ev_t rfl))) rfl rfl rfl ?_
                  refine TL.op (yq (y_extract (ev_t rfl) rfl)) rfl rfl rfl ?_
                  refine TL.op (yq (y_extract (ev_t rfl) rfl)) rfl rfl rfl ?_
                  refine TL.op (yq (y_assign (ev_t rfl))) rfl rfl rfl ?_
                  refine TL.op (yq (y_assign (ev_t rfl))) rfl rfl rfl ?_
                  refine TL.nil ?_
                  refine TN.seq ?_
                  refine TC.seq ?_
                  refine TC.seq ?_
                  refine TC.region ?_
                  refine TL.op (yq (y_move (ev_t rfl))) rfl rfl rfl ?_
                  refine TL.op (yq (y_move (ev_t rfl))) rfl rfl rfl ?_
                  refine TL.op (y_call (vs := [r28_6, r5_6]) (v := (.bool (F_laws_eqIntS ((F_impl_LazyPlan k n (F_laws_toIntS reqs) (F_laws_toIntS plan)).1) ((F_spec_LazyPlan k n (F_laws_toIntS reqs) (F_laws_toIntS plan)).1)))) en_16 ⟨(ev_t rfl), (ev_t rfl), trivial⟩ (fun w hw => laws_eqIntS_ok w r28_6 ((F_impl_LazyPlan k n (F_laws_toIntS reqs) (F_laws_toIntS plan)).1) ((ri_row 0 rfl) w hw) r5_6 ((F_spec_LazyPlan k n (F_laws_toIntS reqs) (F_laws_toIntS plan)).1) ((ri_row 8 rfl) w hw))) rfl rfl rfl ?_
                  refine TL.op (yq (y_not (ev_t rfl))) rfl rfl rfl ?_
                  refine TL.op (yq (y_move (ev_t rfl))) rfl rfl rfl ?_
                  refine TL.opw (w_f rfl rfl rfl) (fun hg => yq (y_move (ev_t rfl))) rfl rfl ?_
                  refine TL.opw (w_f rfl rfl rfl) (fun hg => yq (y_move (ev_t rfl))) rfl rfl ?_
                  refine TL.opw (w_f rfl rfl rfl) (fun hg => yq (y_bneq (ev_g rfl hg) (ev_g rfl hg) Try.underlying4)) rfl rfl ?_
                  refine TL.op (yq (y_or (ev_t rfl) (fun hq => (ev_g rfl hq)))) rfl rfl rfl ?_
                  refine TL.nil ?_
                  refine TN.seq ?_
                  refine TC.condF (ev_t rfl) h27 ?_
                  refine TC.skip ?_
                  refine TN.seq ?_
                  refine TC.seq ?_
                  refine TC.region ?_
                  refine TL.op (yq (y_assign ev_c)) rfl rfl rfl ?_
                  refine TL.nil ?_
                  refine TN.seq ?_
                  refine TC.seq ?_
                  refine TC.region ?_
                  refine TL.op (yq (y_move (ev_t rfl))) rfl rfl rfl ?_
                  refine TL.op (yq (y_move (ev_t rfl))) rfl rfl rfl ?_
                  refine TL.op (y_call (vs := [r8_4, (.int .i64 1)]) (v := (.int .i64 (F_laws_heldIntS ((F_laws_markIntS ((F_impl_LazyPlan k n (F_laws_toIntS reqs) (F_laws_toIntS plan)).1) 1).2) 1))) en_20 ⟨(ev_t rfl), (ev_t rfl), trivial⟩ (fun w hw => laws_heldIntS_ok w r8_4 ((F_laws_markIntS ((F_impl_LazyPlan k n (F_laws_toIntS reqs) (F_laws_toIntS plan)).1) 1).2) ((ri_row 5 rfl) w hw) 1 (by first | assumption | omega | grind) (by first | assumption | omega | grind))) rfl rfl rfl ?_
                  refine TL.op (yq (y_assign (ev_t rfl))) rfl rfl rfl ?_
                  refine TL.nil ?_
                  refine TN.seq ?_
                  refine TC.seq ?_
                  refine TC.seq ?_
                  refine TC.region ?_
                  refine TL.op (yq (y_move (ev_t rfl))) rfl rfl rfl ?_
                  refine TL.op (yq (y_lss (ev_t rfl) ev_c)) rfl rfl rfl ?_
                  refine TL.nil ?_
                  refine TN.seq ?_
                  refine TC.condF (ev_t rfl) h35 ?_
                  refine TC.skip ?_
                  refine TN.seq ?_
                  refine TC.seq ?_
                  refine TC.seq ?_
                  refine TC.region ?_
                  refine TL.op (yq (y_move (ev_t rfl))) rfl rfl rfl ?_
                  refine TL.op (yq (y_move (ev_t rfl))) rfl rfl rfl ?_
                  refine TL.op (yq (y_neq (ev_t rfl) (ev_t rfl))) rfl rfl rfl ?_
                  refine TL.nil ?_
                  refine TN.seq ?_
                  refine TC.condF (ev_t rfl) h37 ?_
                  refine TC.skip ?_
                  refine TN.seq ?_
                  refine TC.seq ?_
                  refine TC.region ?_
                  refine TL.op (yq (y_assign ev_c)) rfl rfl rfl ?_
                  refine TL.nil ?_
                  refine TN.seq ?_
                  refine TC.ret ?_
                  subst hF
                  exact TN.ret1 rfl (ev_t rfl) (fun w' hw => ⟨rfl, Hp.sublist hw (List.nil_sublist _)⟩)


end Go.Proofs.Ytlhmmhlfledleaa
