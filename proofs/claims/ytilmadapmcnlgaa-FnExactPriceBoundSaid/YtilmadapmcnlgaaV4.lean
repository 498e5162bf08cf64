/-
  Walks of functions of the program: each computes its plain function. No condition but the bounds that are typed.
-/
import Derived.Test.YtilmadapmcnlgaaV3
namespace Go.Proofs.Ytilmadapmcnlgaa
open Go Go.RowKit
set_option linter.unusedVariables false

set_option maxRecDepth 4000 in
set_option maxHeartbeats 1000000 in
theorem spec_PriceBound_ok (w : World) (vm : Value) (um : List Value) (m : List (List Int)) (hm : RII w vm um m) (va : Value) (a : List Int) (ha : RI w va a) (vreqs : Value) (reqs : List Int) (hreqs : RI w vreqs reqs) (vprices : Value) (prices : List Int) (hprices : RI w vprices prices)  :
    Calls Try.prog 50 ([(.agg #[vm]), va, vreqs, vprices] : List Value).toArray w (Ret (.tuple #[(.int .i64 ((F_spec_PriceBound m a reqs prices).1)), (.bool ((F_spec_PriceBound m a reqs prices).2))]) (Hp w [])) := by
  obtain ⟨rz, hF⟩ : ∃ rz, (F_spec_PriceBound m a reqs prices) = rz := ⟨_, rfl⟩
  rw [hF]
  unfold F_spec_PriceBound at hF
  have hlen_m := argT_len hm
  have hlen_a := arg_len ha
  have hlen_reqs := arg_len hreqs
  have hlen_prices := arg_len hprices
  refine calls_tc Try.func50 rfl rfl rfl ?_
  change TC _ _ _ _ (Hp w []) [(0, (.agg #[vm])), (1, va), (2, vreqs), (3, vprices)]
  refine TC.seq ?_
  refine TC.region ?_
  refine TL.box (ev_t rfl) rfl (fun g0_0 => ?_)
  refine TL.op (yq (y_assign ev_c)) rfl rfl rfl ?_
  refine TL.op (yq (y_assign ev_c)) rfl rfl rfl ?_
  refine TL.nil ?_
  refine TN.seq ?_
  refine TC.seq ?_
  refine TC.seq ?_
  refine TC.region ?_
  refine TL.op (yq (y_ldagg (cs := [vm]) 0 (ev_t rfl) agg_29 rfl)) rfl rfl rfl ?_
  refine TL.op (y_call (vs := [(.agg #[vm])]) (v := (.bool (F_spec_l6Good m))) en_64 ⟨(ev_t rfl), trivial⟩ (fun w hw => spec_l6Good_ok w vm um m ((rii_arg hm) w hw))) rfl rfl rfl ?_
  refine TL.op (yq (y_not (ev_t rfl))) rfl rfl rfl ?_
  refine TL.op (yq (y_move (ev_t rfl))) rfl rfl rfl ?_
  refine TL.opw (w_f rfl rfl rfl) (fun hg => yq (y_ldagg (cs := [vm]) 0 (ev_t rfl) agg_29 rfl)) rfl rfl ?_
  refine TL.opw (w_f rfl rfl rfl) (fun hg => yq (y_move (ev_t rfl))) rfl rfl ?_
  refine TL.opw (w_f rfl rfl rfl) (fun hg => yq (y_move (ev_t rfl))) rfl rfl ?_
  refine TL.opw (w_f rfl rfl rfl) (fun hg => y_call (vs := [(.agg #[vm]), va, vreqs]) (v := (.bool (F_spec_l6Start m a reqs))) en_84 ⟨(ev_g rfl hg), (ev_g rfl hg), (ev_g rfl hg), trivial⟩ (fun w hw => spec_l6Start_ok w vm um m ((rii_arg hm) w hw) va a ((ri_arg ha) w hw) vreqs reqs ((ri_arg hreqs) w hw))) rfl rfl ?_
  refine TL.opw (w_f rfl rfl rfl) (fun hg => yq (y_not (ev_g rfl hg))) rfl rfl ?_
  refine TL.op (yq (y_or (ev_t rfl) (fun hq => (ev_g rfl hq)))) rfl rfl rfl ?_
  refine TL.op (yq (y_move (ev_t rfl))) rfl rfl rfl ?_
  refine TL.opw (w_f rfl rfl rfl) (fun hg => yq (y_move (ev_t rfl))) rfl rfl ?_
  refine TL.opw (w_f rfl rfl rfl) (fun hg => yq (y_move (ev_t rfl))) rfl rfl ?_
  refine TL.opw (w_f rfl rfl rfl) (fun hg => y_call (vs := [vreqs, vprices]) (v := (.bool (F_spec_l7Prices reqs prices))) en_93 ⟨(ev_g rfl hg), (ev_g rfl hg), trivial⟩ (fun w hw => spec_l7Prices_ok w vreqs reqs ((ri_arg hreqs) w hw) vprices prices ((ri_arg hprices) w hw))) rfl rfl ?_
  refine TL.opw (w_f rfl rfl rfl) (fun hg => yq (y_not (ev_g rfl hg))) rfl rfl ?_
  refine TL.op (yq (y_or (ev_t rfl) (fun hq => (ev_g rfl hq)))) rfl rfl rfl ?_
  refine TL.nil ?_
  refine TN.seq ?_
  refine TC.cond (b := (((!(F_spec_l6Good m)) || (!(F_spec_l6Start m a reqs))) || (!(F_spec_l7Prices reqs prices)))) (ev_t rfl) (fun h16 => ?_) (fun h16 => ?_)
  · rw [bif_pos h16] at hF
    have q17 := ((or_t h16).imp (fun h => ((or_t h).imp (fun h => (not_t h)) (fun h => (not_t h)))) (fun h => (not_t h)))
    refine TC.seq ?_
    refine TC.region ?_
    refine TL.op (yq (y_assign ev_c)) rfl rfl rfl ?_
    refine TL.op (yq (y_assign ev_c)) rfl rfl rfl ?_
    refine TL.nil ?_
    refine TN.seq ?_
    refine TC.ret ?_
    refine TN.thenR ?_
    subst hF
    exact TN.ret2 rfl (ev_t rfl) (ev_t rfl) (fun w' hw => ⟨rfl, Hp.sublist hw (List.nil_sublist _)⟩)
  · rw [bif_neg h16] at hF
    have q17 := (and_imp (or_f h16) (fun h => (and_imp (or_f h) (fun h => (l6Good_t (not_f h))) (fun h => (l6Start_t (not_f h))))) (fun h => (l7Prices_t (not_f h))))
    have hS := q17.1.2
    have hpp := q17.2
    have hpl := hpp.1
    have hpb := hpp.2
    have hr60 := hS.r60
    have hn3 := hS.cf.n3
    refine TC.skip ?_
    refine TN.seq ?_
    refine TC.seq ?_
    refine TC.region ?_
    refine TL.op (yq (y_assign ev_c)) rfl rfl rfl ?_
    refine TL.nil ?_
    refine TN.seq ?_
    refine TC.seq ?_
    refine TC.seq ?_
    refine TC.region ?_
    refine TL.op (yq (y_assign ev_c)) rfl rfl rfl ?_
    refine TL.nil ?_
    refine TN.seq ?_
    refine TC.block ?_
    obtain ⟨c18, hc19⟩ : ∃ c, F_spec_PriceBound_L1 prices ((prices.length - 0) + 1) (0, 0) = c := ⟨_, rfl⟩
    rw [hc19] at hF
    refine TC.loop (ι := Nat × Int × Nat) (fun (fu1, sum1, i1) => [(1, va), (2, vreqs), (3, vprices), (4, (.pointer (some ⟨g0_0, 0, none⟩))), (10, (.int .i64 sum1)), (11, (.int .i64 (i1 : Int)))]) (fun (fu1, sum1, i1) => Hp w [.blk g0_0 29 [vm]]) (fun (fu1, sum1, i1) => (i1 ≤ prices.length) ∧ (0 ≤ sum1) ∧ (sum1 ≤ 99999 * (i1 : Int)) ∧ prices.length - i1 < fu1 ∧ F_spec_PriceBound_L1 prices fu1 (sum1, i1) = c18) (fun (fu1, sum1, i1) => fu1) ((prices.length - 0) + 1, 0, 0) ⟨(by first | omega | (simp [-List.getD_eq_getElem?_getD] <;> omega)), (by first | omega | (simp [-List.getD_eq_getElem?_getD] <;> omega)), (by first | omega | (simp [-List.getD_eq_getElem?_getD] <;> omega)), (by omega), hc19⟩ ⟨rfl, rfl, rfl, rfl, rfl, rfl, trivial⟩ (fun w hw => hw) ?_
    rintro ⟨fu1, sum1, i1⟩ hJ1
    obtain ⟨hi1_0, hi1_1, hi1_2, hmu1, hL1⟩ : (i1 ≤ prices.length) ∧ (0 ≤ sum1) ∧ (sum1 ≤ 99999 * (i1 : Int)) ∧ prices.length - i1 < fu1 ∧ F_spec_PriceBound_L1 prices fu1 (sum1, i1) = c18 := hJ1
    change TC _ _ _ _ (Hp w [.blk g0_0 29 [vm]]) [(1, va), (2, vreqs), (3, vprices), (4, (.pointer (some ⟨g0_0, 0, none⟩))), (10, (.int .i64 sum1)), (11, (.int .i64 (i1 : Int)))]
    obtain ⟨mf1, rfl⟩ : ∃ m, fu1 = m + 1 := ⟨fu1 - 1, by omega⟩
    rw [F_spec_PriceBound_L1_s] at hL1
    have hp1 := hpb i1
    refine TC.seq ?_
    refine TC.seq ?_
    refine TC.region ?_
    refine TL.op (yq (y_move (ev_t rfl))) rfl rfl rfl ?_
    refine TL.op (yq (y_move (ev_t rfl))) rfl rfl rfl ?_
    refine TL.op (yq (y_len (ev_t rfl) Try.underlying25 (fun w hw => ((ri_arg hprices) w hw).ln))) rfl rfl rfl ?_
    refine TL.op (yq (y_lss (ev_t rfl) (ev_t rfl))) rfl rfl rfl ?_
    refine TL.nil ?_
    refine TN.seq ?_
    refine TC.cond (b := decide ((i1 : Int) < (prices.length : Int))) (ev_t rfl) (fun h20 => ?_) (fun h20 => ?_)
    · rw [bif_pos h20] at hL1
      have q21 := (of_decide_eq_true h20)
      refine TC.skip ?_
      refine TN.seq ?_
      refine TC.seq ?_
      refine TC.block ?_
      refine TC.region ?_
      refine TL.op (yq (y_move (ev_t rfl))) rfl rfl rfl ?_
      refine TL.op (yq (y_move (ev_t rfl))) rfl rfl rfl ?_
      refine TL.op (yq (y_move (ev_t rfl))) rfl rfl rfl ?_
      have hb22 : i1 < prices.length := (by first | omega | (simp only [List.length_set, List.length_append, List.length_cons, List.length_nil, List.length_replicate]; omega) | (rw [sortI_length]; simp only [List.length_cons, List.length_nil]; omega))
      refine TL.op (yq (y_idx (k := i1) (ev_t rfl) (ev_t rfl) (by first | omega | simp) slT_25 (ri_arg hprices) hb22)) rfl rfl rfl ?_
      refine TL.op (yq (y_ldi (ev_t rfl) one_3 (ri_arg hprices) hb22)) rfl rfl rfl ?_
      refine TL.op (yq (y_add (ev_t rfl) (ev_t rfl) (by unfold In64; omega))) rfl rfl rfl ?_
      refine TL.op (yq (y_assign (ev_t rfl))) rfl rfl rfl ?_
      refine TL.nil ?_
      refine TN.blockN ?_
      refine TN.seq ?_
      refine TC.region ?_
      refine TL.op (yq (y_move (ev_t rfl))) rfl rfl rfl ?_
      refine TL.op (yq (y_add (ev_t rfl) ev_c (by unfold In64; omega))) rfl rfl rfl ?_
      refine TL.op (yq (y_assign (ev_t rfl))) rfl rfl rfl ?_
      refine TL.nil ?_
      exact TN.hand (mf1, sum1 + (prices.getD i1 0), (i1 + 1)) ⟨(by first | omega | (simp [-List.getD_eq_getElem?_getD] <;> omega)), (by first | omega | (simp [-List.getD_eq_getElem?_getD] <;> omega)), (by first | omega | (simp [-List.getD_eq_getElem?_getD] <;> omega)), (by omega), hL1⟩ (Nat.lt_succ_self _) ⟨rfl, rfl, rfl, rfl, rfl, rfl, trivial⟩ (fun w hw => hw)
    · rw [bif_neg h20] at hL1
      have q21 := (of_decide_eq_false h20)
      refine TC.exit ?_
      refine TN.thenE ?_
      refine TN.thenE ?_
      rw [← hL1, elim_next] at hF
      try dsimp only at hF
      refine TN.blockH ?_
      refine TN.seq ?_
      refine TC.seq ?_
      refine TC.seq ?_
      refine TC.region ?_
      refine TL.op (yq (y_assign ev_c)) rfl rfl rfl ?_
      refine TL.nil ?_
      refine TN.seq ?_
      refine TC.block ?_
      obtain ⟨c23, hc24⟩ : ∃ c, F_spec_PriceBound_L2 m a reqs prices (((((a.length : Int) + (reqs.length : Int)).toNat) - 0) + 1) (sum1, 0) = c := ⟨_, rfl⟩
      rw [hc24] at hF
      refine TC.loop (ι := Nat × Int × Nat) (fun (fu2, sum2, l2) => [(1, va), (2, vreqs), (3, vprices), (4, (.pointer (some ⟨g0_0, 0, none⟩))), (10, (.int .i64 sum2)), (12, (.int .i64 (l2 : Int)))]) (fun (fu2, sum2, l2) => Hp w [.blk g0_0 29 [vm]]) (fun (fu2, sum2, l2) => (l2 ≤ (((a.length : Int) + (reqs.length : Int)).toNat)) ∧ (sum2 ≤ 99999 * 60) ∧ (-99999 * (l2 : Int) ≤ sum2) ∧ (((a.length : Int) + (reqs.length : Int)).toNat) - l2 < fu2 ∧ F_spec_PriceBound_L2 m a reqs prices fu2 (sum2, l2) = c23) (fun (fu2, sum2, l2) => fu2) (((((a.length : Int) + (reqs.length : Int)).toNat) - 0) + 1, sum1, 0) ⟨(by first | omega | (simp [-List.getD_eq_getElem?_getD] <;> omega)), (by first | omega | (simp [-List.getD_eq_getElem?_getD] <;> omega)), (by first | omega | (simp [-List.getD_eq_getElem?_getD] <;> omega)), (by omega), hc24⟩ ⟨rfl, rfl, rfl, rfl, rfl, rfl, trivial⟩ (fun w hw => hw) ?_
      rintro ⟨fu2, sum2, l2⟩ hJ2
      obtain ⟨hi2_0, hi2_1, hi2_2, hmu2, hL2⟩ : (l2 ≤ (((a.length : Int) + (reqs.length : Int)).toNat)) ∧ (sum2 ≤ 99999 * 60) ∧ (-99999 * (l2 : Int) ≤ sum2) ∧ (((a.length : Int) + (reqs.length : Int)).toNat) - l2 < fu2 ∧ F_spec_PriceBound_L2 m a reqs prices fu2 (sum2, l2) = c23 := hJ2
      change TC _ _ _ _ (Hp w [.blk g0_0 29 [vm]]) [(1, va), (2, vreqs), (3, vprices), (4, (.pointer (some ⟨g0_0, 0, none⟩))), (10, (.int .i64 sum2)), (12, (.int .i64 (l2 : Int)))]
      obtain ⟨mf2, rfl⟩ : ∃ m, fu2 = m + 1 := ⟨fu2 - 1, by omega⟩
      rw [F_spec_PriceBound_L2_s] at hL2
      have hrt := rent_bd hS.tp a reqs hpb l2
      refine TC.seq ?_
      refine TC.seq ?_
      refine TC.region ?_
      refine TL.op (yq (y_move (ev_t rfl))) rfl rfl rfl ?_
      refine TL.op (yq (y_move (ev_t rfl))) rfl rfl rfl ?_
      refine TL.op (yq (y_len (ev_t rfl) Try.underlying25 (fun w hw => ((ri_arg ha) w hw).ln))) rfl rfl rfl ?_
      refine TL.op (yq (y_move (ev_t rfl))) rfl rfl rfl ?_
      refine TL.op (yq (y_len (ev_t rfl) Try.underlying25 (fun w hw => ((ri_arg hreqs) w hw).ln))) rfl rfl rfl ?_
      refine TL.op (yq (y_add (ev_t rfl) (ev_t rfl) (by unfold In64; omega))) rfl rfl rfl ?_
      refine TL.op (yq (y_lss (ev_t rfl) (ev_t rfl))) rfl rfl rfl ?_
      refine TL.nil ?_
      refine TN.seq ?_
      refine TC.cond (b := decide ((l2 : Int) < (a.length : Int) + (reqs.length : Int))) (ev_t rfl) (fun h25 => ?_) (fun h25 => ?_)
      · rw [bif_pos h25] at hL2
        have q26 := (of_decide_eq_true h25)
        refine TC.skip ?_
        refine TN.seq ?_
        refine TC.seq ?_
        refine TC.block ?_
        refine TC.region ?_
        refine TL.op (yq (y_move (ev_t rfl))) rfl rfl rfl ?_
        refine TL.op (yq (y_ldagg (cs := [vm]) 0 (ev_t rfl) agg_29 rfl)) rfl rfl rfl ?_
        refine TL.op (yq (y_move (ev_t rfl))) rfl rfl rfl ?_
        refine TL.op (yq (y_move (ev_t rfl))) rfl rfl rfl ?_
        refine TL.op (yq (y_move (ev_t rfl))) rfl rfl rfl ?_
        refine TL.op (yq (y_move (ev_t rfl))) rfl rfl rfl ?_
        refine TL.op (y_call (vs := [(.agg #[vm]), va, vreqs, vprices, (.int .i64 (l2 : Int))]) (v := (.int .i64 (F_spec_l7Rent m a reqs prices (l2 : Int)))) en_94 ⟨(ev_t rfl), (ev_t rfl), (ev_t rfl), (ev_t rfl), (ev_t rfl), trivial⟩ (fun w hw => spec_l7Rent_ok w vm um m ((rii_arg hm) w hw) va a ((ri_arg ha) w hw) vreqs reqs ((ri_arg hreqs) w hw) vprices prices ((ri_arg hprices) w hw) (l2 : Int) (by first | assumption | omega | grind) (by first | assumption | omega | grind) (by first | assumption | omega | grind) (by first | assumption | omega | grind) (by first | assumption | omega | grind))) rfl rfl rfl ?_
        refine TL.op (yq (y_sub (ev_t rfl) (ev_t rfl) (by unfold In64; omega))) rfl rfl rfl ?_
        refine TL.op (yq (y_assign (ev_t rfl))) rfl rfl rfl ?_
        refine TL.nil ?_
        refine TN.blockN ?_
        refine TN.seq ?_
        refine TC.region ?_
        refine TL.op (yq (y_move (ev_t rfl))) rfl rfl rfl ?_
        refine TL.op (yq (y_add (ev_t rfl) ev_c (by unfold In64; omega))) rfl rfl rfl ?_
        refine TL.op (yq (y_assign (ev_t rfl))) rfl rfl rfl ?_
        refine TL.nil ?_
        exact TN.hand (mf2, sum2 - (F_spec_l7Rent m a reqs prices (l2 : Int)), (l2 + 1)) ⟨(by first | omega | (simp [-List.getD_eq_getElem?_getD] <;> omega)), (by first | omega | (simp [-List.getD_eq_getElem?_getD] <;> omega)), (by first | omega | (simp [-List.getD_eq_getElem?_getD] <;> omega)), (by omega), hL2⟩ (Nat.lt_succ_self _) ⟨rfl, rfl, rfl, rfl, rfl, rfl, trivial⟩ (fun w hw => hw)
      · rw [bif_neg h25] at hL2
        have q26 := (of_decide_eq_false h25)
        refine TC.exit ?_
        refine TN.thenE ?_
        refine TN.thenE ?_
        rw [← hL2, elim_next] at hF
        try dsimp only at hF
        refine TN.blockH ?_
        refine TN.seq ?_
        refine TC.seq ?_
        refine TC.region ?_
        refine TL.op (yq (y_move (ev_t rfl))) rfl rfl rfl ?_
        refine TL.op (yq (y_assign (ev_t rfl))) rfl rfl rfl ?_
        refine TL.op (yq (y_assign ev_c)) rfl rfl rfl ?_
        refine TL.nil ?_
        refine TN.seq ?_
        refine TC.ret ?_
        subst hF
        exact TN.ret2 rfl (ev_t rfl) (ev_t rfl) (fun w' hw => ⟨rfl, Hp.sublist hw (List.nil_sublist _)⟩)

end Go.Proofs.Ytilmadapmcnlgaa
