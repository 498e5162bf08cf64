/-
  Walks of functions of the program: each computes its plain function. No condition but the bounds that are typed.
-/
import Derived.Test.YtilmadapmcnlgaaVU
import Derived.Test.YtilmadapmcnlgaaV4
namespace Go.Proofs.Ytilmadapmcnlgaa
open Go Go.RowKit
set_option linter.unusedVariables false

set_option maxRecDepth 4000 in
set_option maxHeartbeats 1000000 in
theorem laws_FnExactPriceBound_ok (w : World) (vm : Value) (um : List Value) (m : List (List Int)) (hm : RII w vm um m) (va : Value) (a : List Int) (ha : RI w va a) (vreqs : Value) (reqs : List Int) (hreqs : RI w vreqs reqs) (vprices : Value) (prices : List Int) (hprices : RI w vprices prices)  :
    Calls Try.prog 14 ([(.agg #[vm]), va, vreqs, vprices] : List Value).toArray w (Ret (.bool (F_laws_FnExactPriceBound m a reqs prices)) (Hp w [])) := by
  obtain ⟨rz, hF⟩ : ∃ rz, (F_laws_FnExactPriceBound m a reqs prices) = rz := ⟨_, rfl⟩
  rw [hF]
  unfold F_laws_FnExactPriceBound at hF
  have hta := toIntS_eq a
  have htb := toIntS_eq reqs
  have htc := toIntS_eq prices
  have hlen_m := argT_len hm
  have hlen_a := arg_len ha
  have hlen_reqs := arg_len hreqs
  have hlen_prices := arg_len hprices
  refine calls_tc Try.func14 rfl rfl rfl ?_
  change TC _ _ _ _ (Hp w []) [(0, (.agg #[vm])), (1, va), (2, vreqs), (3, vprices)]
  refine TC.seq ?_
  refine TC.region ?_
  refine TL.box (ev_t rfl) rfl (fun g0_0 => ?_)
  refine TL.op (yq (y_assign ev_c)) rfl rfl rfl ?_
  refine TL.nil ?_
  refine TN.seq ?_
  refine TC.seq ?_
  refine TC.seq ?_
  refine TC.region ?_
  refine TL.op (yq (y_move (ev_t rfl))) rfl rfl rfl ?_
  refine TL.op (yq (y_len (ev_t rfl) Try.underlying25 (fun w hw => ((ri_arg ha) w hw).ln))) rfl rfl rfl ?_
  refine TL.op (yq (y_gtr (ev_t rfl) ev_c)) rfl rfl rfl ?_
  refine TL.nil ?_
  refine TN.seq ?_
  refine TC.cond (b := decide (1048576 < (a.length : Int))) (ev_t rfl) (fun h19 => ?_) (fun h19 => ?_)
  · rw [bif_pos h19] at hF
    have q20 := (of_decide_eq_true h19)
    refine TC.seq ?_
    refine TC.region ?_
    refine TL.op (yq (y_assign ev_c)) rfl rfl rfl ?_
    refine TL.nil ?_
    refine TN.seq ?_
    refine TC.ret ?_
    refine TN.thenR ?_
    subst hF
    exact TN.ret1 rfl (ev_t rfl) (fun w' hw => ⟨rfl, Hp.sublist hw (List.nil_sublist _)⟩)
  · rw [bif_neg h19] at hF
    have q20 := (of_decide_eq_false h19)
    refine TC.skip ?_
    refine TN.seq ?_
    refine TC.seq ?_
    refine TC.seq ?_
    refine TC.region ?_
    refine TL.op (yq (y_move (ev_t rfl))) rfl rfl rfl ?_
    refine TL.op (yq (y_len (ev_t rfl) Try.underlying25 (fun w hw => ((ri_arg hreqs) w hw).ln))) rfl rfl rfl ?_
    refine TL.op (yq (y_gtr (ev_t rfl) ev_c)) rfl rfl rfl ?_
    refine TL.nil ?_
    refine TN.seq ?_
    refine TC.cond (b := decide (1048576 < (reqs.length : Int))) (ev_t rfl) (fun h21 => ?_) (fun h21 => ?_)
    · rw [bif_pos h21] at hF
      have q22 := (of_decide_eq_true h21)
      refine TC.seq ?_
      refine TC.region ?_
      refine TL.op (yq (y_assign ev_c)) rfl rfl rfl ?_
      refine TL.nil ?_
      refine TN.seq ?_
      refine TC.ret ?_
      refine TN.thenR ?_
      subst hF
      exact TN.ret1 rfl (ev_t rfl) (fun w' hw => ⟨rfl, Hp.sublist hw (List.nil_sublist _)⟩)
    · rw [bif_neg h21] at hF
      have q22 := (of_decide_eq_false h21)
      refine TC.skip ?_
      refine TN.seq ?_
      refine TC.seq ?_
      refine TC.seq ?_
      refine TC.region ?_
      refine TL.op (yq (y_move (ev_t rfl))) rfl rfl rfl ?_
      refine TL.op (yq (y_len (ev_t rfl) Try.underlying25 (fun w hw => ((ri_arg hprices) w hw).ln))) rfl rfl rfl ?_
      refine TL.op (yq (y_gtr (ev_t rfl) ev_c)) rfl rfl rfl ?_
      refine TL.nil ?_
      refine TN.seq ?_
      refine TC.cond (b := decide (1048576 < (prices.length : Int))) (ev_t rfl) (fun h23 => ?_) (fun h23 => ?_)
      · rw [bif_pos h23] at hF
        have q24 := (of_decide_eq_true h23)
        refine TC.seq ?_
        refine TC.region ?_
        refine TL.op (yq (y_assign ev_c)) rfl rfl rfl ?_
        refine TL.nil ?_
        refine TN.seq ?_
        refine TC.ret ?_
        refine TN.thenR ?_
        subst hF
        exact TN.ret1 rfl (ev_t rfl) (fun w' hw => ⟨rfl, Hp.sublist hw (List.nil_sublist _)⟩)
      · rw [bif_neg h23] at hF
        have q24 := (of_decide_eq_false h23)
        refine TC.skip ?_
        refine TN.seq ?_
        refine TC.seq ?_
        refine TC.region ?_
        refine TL.op (yq (y_assign ev_c)) rfl rfl rfl ?_
        refine TL.nil ?_
        refine TN.seq ?_
        refine TC.seq ?_
        refine TC.region ?_
        refine TL.op (yq (y_ldagg (cs := [vm]) 0 (ev_t rfl) agg_24 rfl)) rfl rfl rfl ?_
        refine TL.op (yq (y_move (ev_t rfl))) rfl rfl rfl ?_
        refine TL.op (y_call (vs := [(.agg #[vm]), (.int .i64 1048576)]) (v := (.int .i64 (F_laws_szMetric m 1048576))) en_15 ⟨(ev_t rfl), (ev_t rfl), trivial⟩ (fun w hw => laws_szMetric_ok w vm um m ((rii_arg hm) w hw) 1048576 (by first | assumption | omega | grind) (by first | assumption | omega | grind))) rfl rfl rfl ?_
        refine TL.op (yq (y_assign (ev_t rfl))) rfl rfl rfl ?_
        refine TL.nil ?_
        refine TN.seq ?_
        refine TC.seq ?_
        refine TC.seq ?_
        refine TC.region ?_
        refine TL.op (yq (y_move (ev_t rfl))) rfl rfl rfl ?_
        refine TL.op (yq (y_lss (ev_t rfl) ev_c)) rfl rfl rfl ?_
        refine TL.nil ?_
        refine TN.seq ?_
        refine TC.cond (b := decide ((F_laws_szMetric m 1048576) < 0)) (ev_t rfl) (fun h25 => ?_) (fun h25 => ?_)
        · rw [bif_pos h25] at hF
          have q26 := (of_decide_eq_true h25)
          refine TC.seq ?_
          refine TC.region ?_
          refine TL.op (yq (y_assign ev_c)) rfl rfl rfl ?_
          refine TL.nil ?_
          refine TN.seq ?_
          refine TC.ret ?_
          refine TN.thenR ?_
          subst hF
          exact TN.ret1 rfl (ev_t rfl) (fun w' hw => ⟨rfl, Hp.sublist hw (List.nil_sublist _)⟩)
        · rw [bif_neg h25] at hF
          have q26 := (of_decide_eq_false h25)
          have hsz := szMetric_t (m := m) (left := 1048576) (by omega)
          have hsz1 : ∀ i, (m.getD i []).length ≤ 1048576 := fun i => by have := hsz.2 i; omega
          have hsz2 : m.length + total m ≤ 1048576 := by have := hsz.1; omega
          have htm := toMetric_eq m
          refine TC.skip ?_
          refine TN.seq ?_
          refine TC.seq ?_
          refine TC.region ?_
          refine TL.op (yq (y_ldagg (cs := [vm]) 0 (ev_t rfl) agg_24 rfl)) rfl rfl rfl ?_
          refine TL.callr (ι := Value × List Value) (vs := [(.agg #[vm])]) (fun i => (.agg #[i.1])) (fun i => [tabI 25 3 i.1 i.2 (F_laws_toMetric m)]) en_17 ⟨(ev_t rfl), trivial⟩ rfl (fun w hw => laws_toMetric_ok w vm um m ((rii_arg hm) w hw) (by first | assumption | omega | grind) (by first | assumption | omega | grind)) (fun r11_1 => ?_)
          refine TL.op (yq (y_move (ev_t rfl))) rfl rfl rfl ?_
          refine TL.callr (ι := Value) (vs := [va]) (fun i => i) (fun i => [rowI 3 i (F_laws_toIntS a)]) en_18 ⟨(ev_t rfl), trivial⟩ rfl (fun w hw => laws_toIntS_ok w va a ((ri_arg ha) w hw) (by first | assumption | omega | grind)) (fun r11_3 => ?_)
          refine TL.op (yq (y_move (ev_t rfl))) rfl rfl rfl ?_
          refine TL.callr (ι := Value) (vs := [vreqs]) (fun i => i) (fun i => [rowI 3 i (F_laws_toIntS reqs)]) en_18 ⟨(ev_t rfl), trivial⟩ rfl (fun w hw => laws_toIntS_ok w vreqs reqs ((ri_arg hreqs) w hw) (by first | assumption | omega | grind)) (fun r11_5 => ?_)
          refine TL.op (yq (y_move (ev_t rfl))) rfl rfl rfl ?_
          refine TL.callr (ι := Value) (vs := [vprices]) (fun i => i) (fun i => [rowI 3 i (F_laws_toIntS prices)]) en_18 ⟨(ev_t rfl), trivial⟩ rfl (fun w hw => laws_toIntS_ok w vprices prices ((ri_arg hprices) w hw) (by first | assumption | omega | grind)) (fun r11_7 => ?_)
          refine TL.op (y_call (vs := [(.agg #[r11_1.1]), r11_3, r11_5, r11_7]) (v := (.tuple #[(.int .i64 ((F_spec_PriceBound (F_laws_toMetric m) (F_laws_toIntS a) (F_laws_toIntS reqs) (F_laws_toIntS prices)).1)), (.bool ((F_spec_PriceBound (F_laws_toMetric m) (F_laws_toIntS a) (F_laws_toIntS reqs) (F_laws_toIntS prices)).2))])) en_50 ⟨(ev_t rfl), (ev_t rfl), (ev_t rfl), (ev_t rfl), trivial⟩ (fun w hw => spec_PriceBound_ok w r11_1.1 r11_1.2 (F_laws_toMetric m) ((rii_tab 3 rfl) w hw) r11_3 (F_laws_toIntS a) ((ri_row 2 rfl) w hw) r11_5 (F_laws_toIntS reqs) ((ri_row 1 rfl) w hw) r11_7 (F_laws_toIntS prices) ((ri_row 0 rfl) w hw))) rfl rfl rfl ?_
          refine TL.op (yq (y_move (ev_t rfl))) rfl rfl rfl ?_
          refine TL.op (yq (y_extract (ev_t rfl) rfl)) rfl rfl rfl ?_
          refine TL.op (yq (y_extract (ev_t rfl) rfl)) rfl rfl rfl ?_
          refine TL.op (yq (y_assign (ev_t rfl))) rfl rfl rfl ?_
          refine TL.op (yq (y_assign (ev_t rfl))) rfl rfl rfl ?_
          refine TL.nil ?_
          refine TN.seq ?_
          refine TC.seq ?_
          refine TC.region ?_
          refine TL.op (yq (y_ldagg (cs := [vm]) 4 (ev_t rfl) agg_24 rfl)) rfl rfl rfl ?_
          refine TL.callr (ι := Value × List Value) (vs := [(.agg #[vm])]) (fun i => (.agg #[i.1])) (fun i => [tabI 25 3 i.1 i.2 (F_laws_toMetric m)]) en_17 ⟨(ev_t rfl), trivial⟩ rfl (fun w hw => laws_toMetric_ok w vm um m ((rii_arg hm) w hw) (by first | assumption | omega | grind) (by first | assumption | omega | grind)) (fun r12_1 => ?_)
          refine TL.alloc (u := (.agg #[(.slice none 0 0)])) (by kernel_rfl) rfl (fun g12_2 => ?_)
          refine TL.storeAgg (cs := [(.slice none 0 0)]) (us := [r12_1.1]) 0 (ev_t rfl) (ev_t rfl) agg_29 rfl rfl (fun w hw => (ocs_cons (ln_one ((fun w hw => ((rii_tab 1 rfl) w hw).1) w hw).ln) ocs_nil)) ?_
          refine TL.nil ?_
          refine TN.seq ?_
          refine TC.seq ?_
          refine TC.region ?_
          refine TL.op (yq (y_move (ev_t rfl))) rfl rfl rfl ?_
          refine TL.callr (ι := Value) (vs := [va]) (fun i => i) (fun i => [rowI 3 i (F_laws_toIntS a)]) en_18 ⟨(ev_t rfl), trivial⟩ rfl (fun w hw => laws_toIntS_ok w va a ((ri_arg ha) w hw) (by first | assumption | omega | grind)) (fun r13_1 => ?_)
          refine TL.op (yq (y_assign (ev_t rfl))) rfl rfl rfl ?_
          refine TL.nil ?_
          refine TN.seq ?_
          refine TC.seq ?_
          refine TC.region ?_
          refine TL.op (yq (y_move (ev_t rfl))) rfl rfl rfl ?_
          refine TL.callr (ι := Value) (vs := [vreqs]) (fun i => i) (fun i => [rowI 3 i (F_laws_toIntS reqs)]) en_18 ⟨(ev_t rfl), trivial⟩ rfl (fun w hw => laws_toIntS_ok w vreqs reqs ((ri_arg hreqs) w hw) (by first | assumption | omega | grind)) (fun r14_1 => ?_)
          refine TL.op (yq (y_assign (ev_t rfl))) rfl rfl rfl ?_
          refine TL.nil ?_
          refine TN.seq ?_
          refine TC.seq ?_
          refine TC.region ?_
          refine TL.op (yq (y_move (ev_t rfl))) rfl rfl rfl ?_
          refine TL.callr (ι := Value) (vs := [vprices]) (fun i => i) (fun i => [rowI 3 i (F_laws_toIntS prices)]) en_18 ⟨(ev_t rfl), trivial⟩ rfl (fun w hw => laws_toIntS_ok w vprices prices ((ri_arg hprices) w hw) (by first | assumption | omega | grind)) (fun r15_1 => ?_)
          refine TL.op (yq (y_assign (ev_t rfl))) rfl rfl rfl ?_
          refine TL.nil ?_
          refine TN.seq ?_
          refine TC.seq ?_
          refine TC.region ?_
          refine TL.op (yq (y_ldagg (cs := [r12_1.1]) 3 (ev_t rfl) agg_29 rfl)) rfl rfl rfl ?_
          refine TL.op (yq (y_move (ev_t rfl))) rfl rfl rfl ?_
          refine TL.op (yq (y_move (ev_t rfl))) rfl rfl rfl ?_
          refine TL.op (yq (y_move (ev_t rfl))) rfl rfl rfl ?_
          refine TL.op (y_call (vs := [(.agg #[r12_1.1]), r13_1, r14_1, r15_1]) (v := (.tuple #[(.int .i64 ((F_impl_PriceBound (F_laws_toMetric m) (F_laws_toIntS a) (F_laws_toIntS reqs) (F_laws_toIntS prices)).1)), (.bool ((F_impl_PriceBound (F_laws_toMetric m) (F_laws_toIntS a) (F_laws_toIntS reqs) (F_laws_toIntS prices)).2))])) en_51 ⟨(ev_t rfl), (ev_t rfl), (ev_t rfl), (ev_t rfl), trivial⟩ (fun w hw => impl_PriceBound_ok w r12_1.1 r12_1.2 (F_laws_toMetric m) ((rii_tab 4 rfl) w hw) r13_1 (F_laws_toIntS a) ((ri_row 2 rfl) w hw) r14_1 (F_laws_toIntS reqs) ((ri_row 1 rfl) w hw) r15_1 (F_laws_toIntS prices) ((ri_row 0 rfl) w hw))) rfl rfl rfl ?_
          refine TL.op (yq (y_move (ev_t rfl))) rfl rfl rfl ?_
          refine TL.op (yq (y_extract (ev_t rfl) rfl)) rfl rfl rfl ?_
          refine TL.op (yq (y_extract (ev_t rfl) rfl)) rfl rfl rfl ?_
          refine TL.op (yq (y_assign (ev_t rfl))) rfl rfl rfl ?_
          refine TL.op (yq (y_assign (ev_t rfl))) rfl rfl rfl ?_
          refine TL.nil ?_
          refine TN.seq ?_
          refine TC.seq ?_
          refine TC.seq ?_
          refine TC.region ?_
          refine TL.op (yq (y_move (ev_t rfl))) rfl rfl rfl ?_
          refine TL.op (yq (y_move (ev_t rfl))) rfl rfl rfl ?_
          refine TL.op (yq (y_neq (ev_t rfl) (ev_t rfl))) rfl rfl rfl ?_
          refine TL.op (yq (y_move (ev_t rfl))) rfl rfl rfl ?_
          refine TL.opw (w_f rfl rfl rfl) (fun hg => yq (y_move (ev_t rfl))) rfl rfl ?_
          refine TL.opw (w_f rfl rfl rfl) (fun hg => yq (y_move (ev_t rfl))) rfl rfl ?_
          refine TL.opw (w_f rfl rfl rfl) (fun hg => yq (y_bneq (ev_g rfl hg) (ev_g rfl hg) Try.underlying4)) rfl rfl ?_
          refine TL.op (yq (y_or (ev_t rfl) (fun hq => (ev_g rfl hq)))) rfl rfl rfl ?_
          refine TL.nil ?_
          refine TN.seq ?_
          refine TC.cond (b := ((!decide ((F_impl_PriceBound (F_laws_toMetric m) (F_laws_toIntS a) (F_laws_toIntS reqs) (F_laws_toIntS prices)).1 = (F_spec_PriceBound (F_laws_toMetric m) (F_laws_toIntS a) (F_laws_toIntS reqs) (F_laws_toIntS prices)).1)) || (((F_impl_PriceBound (F_laws_toMetric m) (F_laws_toIntS a) (F_laws_toIntS reqs) (F_laws_toIntS prices)).2) != ((F_spec_PriceBound (F_laws_toMetric m) (F_laws_toIntS a) (F_laws_toIntS reqs) (F_laws_toIntS prices)).2)))) (ev_t rfl) (fun h27 => ?_) (fun h27 => ?_)
          · rw [bif_pos h27] at hF
            have q28 := ((or_t h27).imp (fun h => (of_decide_eq_false (not_t h))) (fun h => h))
            refine TC.seq ?_
            refine TC.region ?_
            refine TL.op (yq (y_assign ev_c)) rfl rfl rfl ?_
            refine TL.nil ?_
            refine TN.seq ?_
            refine TC.ret ?_
            refine TN.thenR ?_
            subst hF
            exact TN.ret1 rfl (ev_t rfl) (fun w' hw => ⟨rfl, Hp.sublist hw (List.nil_sublist _)⟩)
          · rw [bif_neg h27] at hF
            have q28 := (and_imp (or_f h27) (fun h => (of_decide_eq_true (not_f h))) (fun h => h))
            refine TC.skip ?_
            refine TN.seq ?_
            refine TC.seq ?_
            refine TC.seq ?_
            refine TC.regionH 5 (Hp w [rowI 3 r15_1 (F_laws_toIntS prices), rowI 3 r14_1 (F_laws_toIntS reqs), rowI 3 r13_1 (F_laws_toIntS a), .blk g12_2 29 [r12_1.1], tabI 25 3 r12_1.1 r12_1.2 (F_laws_toMetric m), rowI 3 r11_7 (F_laws_toIntS prices), rowI 3 r11_5 (F_laws_toIntS reqs), rowI 3 r11_3 (F_laws_toIntS a), tabI 25 3 r11_1.1 r11_1.2 (F_laws_toMetric m), .blk g0_0 24 [vm]]) rfl (by kernel_rfl) dr_hp (fun w hw => hw) ?_
            refine TH.take 0 rfl (by kernel_rfl) (y_ldagg (cs := [r12_1.1]) 3 (ev_t rfl) agg_29 rfl) rfl rfl rfl ?_
            refine TH.take 1 rfl (by kernel_rfl) (y_ldagg (cs := [vm]) 9 (ev_t rfl) agg_24 rfl) rfl rfl rfl ?_
            refine TH.loud 2 rfl (by kernel_rfl) ?_
            refine TL.callr (ι := Value × List Value) (vs := [(.agg #[vm])]) (fun i => (.agg #[i.1])) (fun i => [tabI 25 3 i.1 i.2 (F_laws_toMetric m)]) en_17 ⟨(ev_t rfl), trivial⟩ rfl (fun w hw => laws_toMetric_ok w vm um m ((rii_arg hm) w hw) (by first | assumption | omega | grind) (by first | assumption | omega | grind)) (fun r19_2 => ?_)
            refine TL.nil ?_
            refine TH.back (fun w hw => Hp.sublist hw (.cons _ (.cons_cons _ (.cons_cons _ (.cons_cons _ (.cons_cons _ (.cons_cons _ (.cons_cons _ (.cons_cons _ (.cons_cons _ (.cons_cons _ (.cons_cons _ .slnil)))))))))))) ?_
            refine TH.loud 3 rfl (by kernel_rfl) ?_
            refine TL.op (y_call (vs := [(.agg #[r12_1.1]), (.agg #[r19_2.1])]) (v := (.bool (F_laws_eqMetric (F_laws_toMetric m) (F_laws_toMetric m)))) en_20 ⟨(ev_t rfl), (ev_t rfl), trivial⟩ (fun w hw => laws_eqMetric_ok w r12_1.1 r12_1.2 (F_laws_toMetric m) ((rii_tab 5 rfl) w hw) r19_2.1 r19_2.2 (F_laws_toMetric m) ((rii_tab 0 rfl) w hw))) rfl rfl rfl ?_
            refine TL.nil ?_
            refine TH.back (fun w hw => Hp.sublist hw (.cons _ (.cons_cons _ (.cons_cons _ (.cons_cons _ (.cons_cons _ (.cons_cons _ (.cons_cons _ (.cons_cons _ (.cons_cons _ (.cons_cons _ (.cons_cons _ .slnil)))))))))))) ?_
            refine TH.take 4 rfl (by kernel_rfl) (y_not (ev_t rfl)) rfl rfl rfl ?_
            refine TH.done (by kernel_rfl) ?_
            refine TN.seq ?_
            refine TC.cond (b := !(F_laws_eqMetric (F_laws_toMetric m) (F_laws_toMetric m))) (ev_t rfl) (fun h29 => ?_) (fun h29 => ?_)
            · rw [bif_pos h29] at hF
              have q30 := (not_t h29)
              refine TC.seq ?_
              refine TC.region ?_
              refine TL.op (yq (y_assign ev_c)) rfl rfl rfl ?_
              refine TL.nil ?_
              refine TN.seq ?_
              refine TC.ret ?_
              refine TN.thenR ?_
              subst hF
              exact TN.ret1 rfl (ev_t rfl) (fun w' hw => ⟨rfl, Hp.sublist hw (List.nil_sublist _)⟩)
            · rw [bif_neg h29] at hF
              have q30 := (not_f h29)
              refine TC.skip ?_
              refine TN.seq ?_
              refine TC.seq ?_
              refine TC.seq ?_
              refine TC.region ?_
              refine TL.op (yq (y_move (ev_t rfl))) rfl rfl rfl ?_
              refine TL.op (yq (y_move (ev_t rfl))) rfl rfl rfl ?_
              refine TL.callr (ι := Value) (vs := [va]) (fun i => i) (fun i => [rowI 3 i (F_laws_toIntS a)]) en_18 ⟨(ev_t rfl), trivial⟩ rfl (fun w hw => laws_toIntS_ok w va a ((ri_arg ha) w hw) (by first | assumption | omega | grind)) (fun r21_2 => ?_)
              refine TL.op (y_call (vs := [r13_1, r21_2]) (v := (.bool (F_laws_eqIntS (F_laws_toIntS a) (F_laws_toIntS a)))) en_21 ⟨(ev_t rfl), (ev_t rfl), trivial⟩ (fun w hw => laws_eqIntS_ok w r13_1 (F_laws_toIntS a) ((ri_row 4 rfl) w hw) r21_2 (F_laws_toIntS a) ((ri_row 0 rfl) w hw))) rfl rfl rfl ?_
              refine TL.op (yq (y_not (ev_t rfl))) rfl rfl rfl ?_
              refine TL.nil ?_
              refine TN.seq ?_
              refine TC.cond (b := !(F_laws_eqIntS (F_laws_toIntS a) (F_laws_toIntS a))) (ev_t rfl) (fun h31 => ?_) (fun h31 => ?_)
              · rw [bif_pos h31] at hF
                have q32 := (not_t h31)
                refine TC.seq ?_
                refine TC.region ?_
                refine TL.op (yq (y_assign ev_c)) rfl rfl rfl ?_
                refine TL.nil ?_
                refine TN.seq ?_
                refine TC.ret ?_
                refine TN.thenR ?_
                subst hF
                exact TN.ret1 rfl (ev_t rfl) (fun w' hw => ⟨rfl, Hp.sublist hw (List.nil_sublist _)⟩)
              · rw [bif_neg h31] at hF
                have q32 := (not_f h31)
                refine TC.skip ?_
                refine TN.seq ?_
                refine TC.seq ?_
                refine TC.seq ?_
                refine TC.region ?_
                refine TL.op (yq (y_move (ev_t rfl))) rfl rfl rfl ?_
                refine TL.op (yq (y_move (ev_t rfl))) rfl rfl rfl ?_
                refine TL.callr (ι := Value) (vs := [vreqs]) (fun i => i) (fun i => [rowI 3 i (F_laws_toIntS reqs)]) en_18 ⟨(ev_t rfl), trivial⟩ rfl (fun w hw => laws_toIntS_ok w vreqs reqs ((ri_arg hreqs) w hw) (by first | assumption | omega | grind)) (fun r23_2 => ?_)
                refine TL.op (y_call (vs := [r14_1, r23_2]) (v := (.bool (F_laws_eqIntS (F_laws_toIntS reqs) (F_laws_toIntS reqs)))) en_21 ⟨(ev_t rfl), (ev_t rfl), trivial⟩ (fun w hw => laws_eqIntS_ok w r14_1 (F_laws_toIntS reqs) ((ri_row 4 rfl) w hw) r23_2 (F_laws_toIntS reqs) ((ri_row 0 rfl) w hw))) rfl rfl rfl ?_
                refine TL.op (yq (y_not (ev_t rfl))) rfl rfl rfl ?_
                refine TL.nil ?_
                refine TN.seq ?_
                refine TC.cond (b := !(F_laws_eqIntS (F_laws_toIntS reqs) (F_laws_toIntS reqs))) (ev_t rfl) (fun h33 => ?_) (fun h33 => ?_)
                · rw [bif_pos h33] at hF
                  have q34 := (not_t h33)
                  refine TC.seq ?_
                  refine TC.region ?_
                  refine TL.op (yq (y_assign ev_c)) rfl rfl rfl ?_
                  refine TL.nil ?_
                  refine TN.seq ?_
                  refine TC.ret ?_
                  refine TN.thenR ?_
                  subst hF
                  exact TN.ret1 rfl (ev_t rfl) (fun w' hw => ⟨rfl, Hp.sublist hw (List.nil_sublist _)⟩)
                · rw [bif_neg h33] at hF
                  have q34 := (not_f h33)
                  refine TC.skip ?_
                  refine TN.seq ?_
                  refine TC.seq ?_
                  refine TC.seq ?_
                  refine TC.region ?_
                  refine TL.op (yq (y_move (ev_t rfl))) rfl rfl rfl ?_
                  refine TL.op (yq (y_move (ev_t rfl))) rfl rfl rfl ?_
                  refine TL.callr (ι := Value) (vs := [vprices]) (fun i => i) (fun i => [rowI 3 i (F_laws_toIntS prices)]) en_18 ⟨(ev_t rfl), trivial⟩ rfl (fun w hw => laws_toIntS_ok w vprices prices ((ri_arg hprices) w hw) (by first | assumption | omega | grind)) (fun r25_2 => ?_)
                  refine TL.op (y_call (vs := [r15_1, r25_2]) (v := (.bool (F_laws_eqIntS (F_laws_toIntS prices) (F_laws_toIntS prices)))) en_21 ⟨(ev_t rfl), (ev_t rfl), trivial⟩ (fun w hw => laws_eqIntS_ok w r15_1 (F_laws_toIntS prices) ((ri_row 4 rfl) w hw) r25_2 (F_laws_toIntS prices) ((ri_row 0 rfl) w hw))) rfl rfl rfl ?_
                  refine TL.op (yq (y_not (ev_t rfl))) rfl rfl rfl ?_
                  refine TL.nil ?_
                  refine TN.seq ?_
                  refine TC.cond (b := !(F_laws_eqIntS (F_laws_toIntS prices) (F_laws_toIntS prices))) (ev_t rfl) (fun h35 => ?_) (fun h35 => ?_)
                  · rw [bif_pos h35] at hF
                    have q36 := (not_t h35)
                    refine TC.seq ?_
                    refine TC.region ?_
                    refine TL.op (yq (y_assign ev_c)) rfl rfl rfl ?_
                    refine TL.nil ?_
                    refine TN.seq ?_
                    refine TC.ret ?_
                    refine TN.thenR ?_
                    subst hF
                    exact TN.ret1 rfl (ev_t rfl) (fun w' hw => ⟨rfl, Hp.sublist hw (List.nil_sublist _)⟩)
                  · rw [bif_neg h35] at hF
                    have q36 := (not_f h35)
                    refine TC.skip ?_
                    refine TN.seq ?_
                    refine TC.seq ?_
                    refine TC.region ?_
                    refine TL.op (yq (y_assign ev_c)) rfl rfl rfl ?_
                    refine TL.nil ?_
                    refine TN.seq ?_
                    refine TC.ret ?_
                    subst hF
                    exact TN.ret1 rfl (ev_t rfl) (fun w' hw => ⟨rfl, Hp.sublist hw (List.nil_sublist _)⟩)

end Go.Proofs.Ytilmadapmcnlgaa
