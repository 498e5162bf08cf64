/-
  Part of a proof: rules of the walk, plain functions and their laws, walks. No condition.
-/
import Derived.Test.YtgnikdpgndmldaaKChainsOf8
namespace Go.Proofs.Ytgnikdpgndmldaa
set_option linter.unusedVariables false
set_option linter.unusedSimpArgs false
open Go Go.RowKit
set_option linter.unusedVariables false

set_option maxRecDepth 4000 in
set_option maxHeartbeats 1000000 in
theorem spec_l7Add_ok (w : World) (vm : Value) (um : List Value) (m : List (List Int)) (hm : RII w vm um m) (va : Value) (a : List Int) (ha : RI w va a) (vreqs : Value) (reqs : List Int) (hreqs : RI w vreqs reqs) (vbefore : Value) (before : List Int) (hbefore : RI w vbefore before) (hp0 : ∃ p r, Aq m a reqs before p r) (hp1 : before.length < reqs.length) :
    Calls Try.prog 44 ([(.agg #[vm]), va, vreqs, vbefore] : List Value).toArray w (fun e w' => ∃ i : Value, e = .returned i ∧ Hp w [rowI 3 i (F_spec_l7Add m a reqs before)] w') := by
  obtain ⟨rz, hF⟩ : ∃ rz, (F_spec_l7Add m a reqs before) = rz := ⟨_, rfl⟩
  rw [hF]
  unfold F_spec_l7Add at hF
  obtain ⟨p, r, hA⟩ := hp0
  have hq := hA.rq hp1
  have hS := hA.sv
  have hn3 := hS.cf.n3
  have hr60 := hS.r60
  have hFn := reach_fin hq
  have hF1 := hFn.bf.lf
  have hF2 := hFn.bf.lm
  have hlh := hq.pre.lh
  have hga := fun l i : Int => gap_any hS l i
  have hnb := hA.hb
  have hlen_m := argT_len hm
  have hlen_a := arg_len ha
  have hlen_reqs := arg_len hreqs
  have hlen_before := arg_len hbefore
  refine calls_tc Try.func44 rfl rfl rfl ?_
  change TC _ _ _ _ (Hp w []) [(0, (.agg #[vm])), (1, va), (2, vreqs), (3, vbefore)]
  refine TC.seq ?_
  refine TC.region ?_
  refine TL.box (ev_t rfl) rfl (fun g0_0 => ?_)
  refine TL.op (yq (y_assign ev_c)) rfl rfl rfl ?_
  refine TL.nil ?_
  refine TN.seq ?_
  refine TC.seq ?_
  refine TC.region ?_
  refine TL.op (yq (y_move (ev_t rfl))) rfl rfl rfl ?_
  refine TL.op (yq (y_len (ev_t rfl) Try.underlying25 (fun w hw => ((ri_arg hbefore) w hw).ln))) rfl rfl rfl ?_
  refine TL.op (yq (y_assign (ev_t rfl))) rfl rfl rfl ?_
  refine TL.nil ?_
  refine TN.seq ?_
  refine TC.seq ?_
  refine TC.region ?_
  refine TL.op (yq (y_move (ev_t rfl))) rfl rfl rfl ?_
  refine TL.op (yq (y_len (ev_t rfl) Try.underlying25 (fun w hw => ((ri_arg ha) w hw).ln))) rfl rfl rfl ?_
  refine TL.op (yq (y_move (ev_t rfl))) rfl rfl rfl ?_
  refine TL.op (yq (y_add (ev_t rfl) (ev_t rfl) (by unfold In64; constructor <;> omega))) rfl rfl rfl ?_
  refine TL.op (yq (y_move (ev_t rfl))) rfl rfl rfl ?_
  refine TL.callr (ι := Value) (vs := [(.int .i64 ((a.length : Int) + (before.length : Int))), vbefore]) (fun i => i) (fun i => [rowI 3 i (F_spec_l7Holders ((a.length : Int) + (before.length : Int)) before)]) en_58 ⟨(ev_t rfl), (ev_t rfl), trivial⟩ rfl (fun w hw => spec_l7Holders_ok w ((a.length : Int) + (before.length : Int)) vbefore before ((ri_arg hbefore) w hw) (by first | assumption | omega | grind) (by first | assumption | omega | grind) (by first | assumption | omega | grind) (by first | assumption | omega | grind)) (fun r2_5 => ?_)
  refine TL.op (yq (y_assign (ev_t rfl))) rfl rfl rfl ?_
  refine TL.nil ?_
  refine TN.seq ?_
  refine TC.seq ?_
  refine TC.region ?_
  refine TL.op (yq (y_ldagg (cs := [vm]) 1 (ev_t rfl) agg_29 rfl)) rfl rfl rfl ?_
  refine TL.op (yq (y_move (ev_t rfl))) rfl rfl rfl ?_
  refine TL.op (yq (y_move (ev_t rfl))) rfl rfl rfl ?_
  refine TL.op (yq (y_move (ev_t rfl))) rfl rfl rfl ?_
  refine TL.op (yq (y_move (ev_t rfl))) rfl rfl rfl ?_
  refine TL.callr (ι := Value × Value) (vs := [(.agg #[vm]), va, vreqs, vbefore, r2_5]) (fun i => (.tuple #[i.1, i.2])) (fun i => [rowI 3 i.1 ((F_spec_l7Reach m a reqs before (F_spec_l7Holders ((a.length : Int) + (before.length : Int)) before)).1), rowI 3 i.2 ((F_spec_l7Reach m a reqs before (F_spec_l7Holders ((a.length : Int) + (before.length : Int)) before)).2)]) en_59 ⟨(ev_t rfl), (ev_t rfl), (ev_t rfl), (ev_t rfl), (ev_t rfl), trivial⟩ rfl (fun w hw => spec_l7Reach_ok w vm um m ((rii_arg hm) w hw) va a ((ri_arg ha) w hw) vreqs reqs ((ri_arg hreqs) w hw) vbefore before ((ri_arg hbefore) w hw) r2_5 (F_spec_l7Holders ((a.length : Int) + (before.length : Int)) before) ((ri_row 0 rfl) w hw) (by first | assumption | omega | grind)) (fun r3_5 => ?_)
  refine TL.op (yq (y_move (ev_t rfl))) rfl rfl rfl ?_
  refine TL.op (yq (y_extract (ev_t rfl) rfl)) rfl rfl rfl ?_
  refine TL.op (yq (y_extract (ev_t rfl) rfl)) rfl rfl rfl ?_
  refine TL.op (yq (y_assign (ev_t rfl))) rfl rfl rfl ?_
  refine TL.op (yq (y_assign (ev_t rfl))) rfl rfl rfl ?_
  refine TL.nil ?_
  refine TN.seq ?_
  refine TC.seq ?_
  refine TC.region ?_
  refine TL.op (yq (y_assign ev_c)) rfl rfl rfl ?_
  refine TL.nil ?_
  refine TN.seq ?_
  refine TC.seq ?_
  refine TC.region ?_
  refine TL.op (yq (y_assign ev_c)) rfl rfl rfl ?_
  refine TL.nil ?_
  refine TN.seq ?_
  refine TC.seq ?_
  refine TC.region ?_
  refine TL.op (yq (y_assign ev_c)) rfl rfl rfl ?_
  refine TL.nil ?_
  refine TN.seq ?_
  refine TC.seq ?_
  refine TC.seq ?_
  refine TC.region ?_
  refine TL.op (yq (y_assign ev_c)) rfl rfl rfl ?_
  refine TL.nil ?_
  refine TN.seq ?_
  refine TC.block ?_
  obtain ⟨c53, hc54⟩ : ∃ c, F_spec_l7Add_L1 m a reqs before ((before.length + 1 - 0) + 1) (1099511627776, 0, 0, 0) = c := ⟨_, rfl⟩
  rw [hc54] at hF
  refine TC.loop (ι := Nat × Int × Nat × Nat × Nat) (fun (fu1, k13_1, k14_1, k15_1, k16_1) => [(1, va), (2, vreqs), (3, vbefore), (4, (.pointer (some ⟨g0_0, 0, none⟩))), (9, (.int .i64 (before.length : Int))), (10, r2_5), (11, r3_5.1), (12, r3_5.2), (13, (.int .i64 k13_1)), (14, (.int .i64 (k14_1 : Int))), (15, (.int .i64 (k15_1 : Int))), (16, (.int .i64 (k16_1 : Int)))]) (fun (fu1, k13_1, k14_1, k15_1, k16_1) => Hp w [rowI 3 r3_5.1 ((F_spec_l7Reach m a reqs before (F_spec_l7Holders ((a.length : Int) + (before.length : Int)) before)).1), rowI 3 r3_5.2 ((F_spec_l7Reach m a reqs before (F_spec_l7Holders ((a.length : Int) + (before.length : Int)) before)).2), rowI 3 r2_5 (F_spec_l7Holders ((a.length : Int) + (before.length : Int)) before), .blk g0_0 29 [vm]]) (fun (fu1, k13_1, k14_1, k15_1, k16_1) => (k16_1 ≤ before.length + 1) ∧ (Th.Best before.length a.length (fun l x => gap m a reqs l x) (F_spec_l7Holders ((a.length : Int) + (before.length : Int)) before) (F_spec_l7Reach m a reqs before (F_spec_l7Holders ((a.length : Int) + (before.length : Int)) before)).1 k16_1 0 k13_1 k14_1 k15_1) ∧ before.length + 1 - k16_1 < fu1 ∧ F_spec_l7Add_L1 m a reqs before fu1 (k13_1, k14_1, k15_1, k16_1) = c53) (fun (fu1, k13_1, k14_1, k15_1, k16_1) => fu1) ((before.length + 1 - 0) + 1, 1099511627776, 0, 0, 0) ⟨(by first | omega | (simp [-List.getD_eq_getElem?_getD] <;> omega)), Th.Best.init, (by omega), hc54⟩ ⟨rfl, rfl, rfl, rfl, rfl, rfl, rfl, rfl, rfl, rfl, rfl, rfl, trivial⟩ (fun w hw => hw) ?_
  rintro ⟨fu1, k13_1, k14_1, k15_1, k16_1⟩ hJ1
  obtain ⟨hi1_0, hi1_1, hmu1, hL1⟩ : (k16_1 ≤ before.length + 1) ∧ (Th.Best before.length a.length (fun l x => gap m a reqs l x) (F_spec_l7Holders ((a.length : Int) + (before.length : Int)) before) (F_spec_l7Reach m a reqs before (F_spec_l7Holders ((a.length : Int) + (before.length : Int)) before)).1 k16_1 0 k13_1 k14_1 k15_1) ∧ before.length + 1 - k16_1 < fu1 ∧ F_spec_l7Add_L1 m a reqs before fu1 (k13_1, k14_1, k15_1, k16_1) = c53 := hJ1
  change TC _ _ _ _ (Hp w [rowI 3 r3_5.1 ((F_spec_l7Reach m a reqs before (F_spec_l7Holders ((a.length : Int) + (before.length : Int)) before)).1), rowI 3 r3_5.2 ((F_spec_l7Reach m a reqs before (F_spec_l7Holders ((a.length : Int) + (before.length : Int)) before)).2), rowI 3 r2_5 (F_spec_l7Holders ((a.length : Int) + (before.length : Int)) before), .blk g0_0 29 [vm]]) [(1, va), (2, vreqs), (3, vbefore), (4, (.pointer (some ⟨g0_0, 0, none⟩))), (9, (.int .i64 (before.length : Int))), (10, r2_5), (11, r3_5.1), (12, r3_5.2), (13, (.int .i64 k13_1)), (14, (.int .i64 (k14_1 : Int))), (15, (.int .i64 (k15_1 : Int))), (16, (.int .i64 (k16_1 : Int)))]
  obtain ⟨mf1, rfl⟩ : ∃ m, fu1 = m + 1 := ⟨fu1 - 1, by omega⟩
  rw [F_spec_l7Add_L1_s] at hL1
  refine TC.seq ?_
  refine TC.seq ?_
  refine TC.region ?_
  refine TL.op (yq (y_move (ev_t rfl))) rfl rfl rfl ?_
  refine TL.op (yq (y_move (ev_t rfl))) rfl rfl rfl ?_
  refine TL.op (yq (y_leq (ev_t rfl) (ev_t rfl))) rfl rfl rfl ?_
  refine TL.nil ?_
  refine TN.seq ?_
  refine TC.cond (b := decide ((k16_1 : Int) ≤ (before.length : Int))) (ev_t rfl) (fun h55 => ?_) (fun h55 => ?_)
  · rw [bif_pos h55] at hL1
    have q56 := (of_decide_eq_true h55)
    refine TC.skip ?_
    refine TN.seq ?_
    refine TC.seq ?_
    refine TC.block ?_
    refine TC.seq ?_
    refine TC.region ?_
    refine TL.op (yq (y_assign ev_c)) rfl rfl rfl ?_
    refine TL.nil ?_
    refine TN.seq ?_
    refine TC.block ?_
    obtain ⟨c57, hc58⟩ : ∃ c, F_spec_l7Add_L2 m a reqs before k16_1 (((((a.length : Int) + (k16_1 : Int)).toNat) - 0) + 1) (k13_1, k14_1, k15_1, 0) = c := ⟨_, rfl⟩
    rw [hc58] at hL1
    refine TC.loop (ι := Nat × Int × Nat × Nat × Nat) (fun (fu2, k13_2, k14_2, k15_2, k17_2) => [(1, va), (2, vreqs), (3, vbefore), (4, (.pointer (some ⟨g0_0, 0, none⟩))), (9, (.int .i64 (before.length : Int))), (10, r2_5), (11, r3_5.1), (12, r3_5.2), (13, (.int .i64 k13_2)), (14, (.int .i64 (k14_2 : Int))), (15, (.int .i64 (k15_2 : Int))), (16, (.int .i64 (k16_1 : Int))), (17, (.int .i64 (k17_2 : Int)))]) (fun (fu2, k13_2, k14_2, k15_2, k17_2) => Hp w [rowI 3 r3_5.1 ((F_spec_l7Reach m a reqs before (F_spec_l7Holders ((a.length : Int) + (before.length : Int)) before)).1), rowI 3 r3_5.2 ((F_spec_l7Reach m a reqs before (F_spec_l7Holders ((a.length : Int) + (before.length : Int)) before)).2), rowI 3 r2_5 (F_spec_l7Holders ((a.length : Int) + (before.length : Int)) before), .blk g0_0 29 [vm]]) (fun (fu2, k13_2, k14_2, k15_2, k17_2) => (k17_2 ≤ (((a.length : Int) + (k16_1 : Int)).toNat)) ∧ (Th.Best before.length a.length (fun l x => gap m a reqs l x) (F_spec_l7Holders ((a.length : Int) + (before.length : Int)) before) (F_spec_l7Reach m a reqs before (F_spec_l7Holders ((a.length : Int) + (before.length : Int)) before)).1 k16_1 k17_2 k13_2 k14_2 k15_2) ∧ (((a.length : Int) + (k16_1 : Int)).toNat) - k17_2 < fu2 ∧ F_spec_l7Add_L2 m a reqs before k16_1 fu2 (k13_2, k14_2, k15_2, k17_2) = c57) (fun (fu2, k13_2, k14_2, k15_2, k17_2) => fu2) (((((a.length : Int) + (k16_1 : Int)).toNat) - 0) + 1, k13_1, k14_1, k15_1, 0) ⟨(by first | omega | (simp [-List.getD_eq_getElem?_getD] <;> omega)), hi1_1, (by omega), hc58⟩ ⟨rfl, rfl, rfl, rfl, rfl, rfl, rfl, rfl, rfl, rfl, rfl, rfl, rfl, trivial⟩ (fun w hw => hw) ?_
    rintro ⟨fu2, k13_2, k14_2, k15_2, k17_2⟩ hJ2
    obtain ⟨hi2_0, hi2_1, hmu2, hL2⟩ : (k17_2 ≤ (((a.length : Int) + (k16_1 : Int)).toNat)) ∧ (Th.Best before.length a.length (fun l x => gap m a reqs l x) (F_spec_l7Holders ((a.length : Int) + (before.length : Int)) before) (F_spec_l7Reach m a reqs before (F_spec_l7Holders ((a.length : Int) + (before.length : Int)) before)).1 k16_1 k17_2 k13_2 k14_2 k15_2) ∧ (((a.length : Int) + (k16_1 : Int)).toNat) - k17_2 < fu2 ∧ F_spec_l7Add_L2 m a reqs before k16_1 fu2 (k13_2, k14_2, k15_2, k17_2) = c57 := hJ2
    change TC _ _ _ _ (Hp w [rowI 3 r3_5.1 ((F_spec_l7Reach m a reqs before (F_spec_l7Holders ((a.length : Int) + (before.length : Int)) before)).1), rowI 3 r3_5.2 ((F_spec_l7Reach m a reqs before (F_spec_l7Holders ((a.length : Int) + (before.length : Int)) before)).2), rowI 3 r2_5 (F_spec_l7Holders ((a.length : Int) + (before.length : Int)) before), .blk g0_0 29 [vm]]) [(1, va), (2, vreqs), (3, vbefore), (4, (.pointer (some ⟨g0_0, 0, none⟩))), (9, (.int .i64 (before.length : Int))), (10, r2_5), (11, r3_5.1), (12, r3_5.2), (13, (.int .i64 k13_2)), (14, (.int .i64 (k14_2 : Int))), (15, (.int .i64 (k15_2 : Int))), (16, (.int .i64 (k16_1 : Int))), (17, (.int .i64 (k17_2 : Int)))]
    obtain ⟨mf2, rfl⟩ : ∃ m, fu2 = m + 1 := ⟨fu2 - 1, by omega⟩
    rw [F_spec_l7Add_L2_s] at hL2
    have hb2 := (hFn.bf.low hq.pre).1 k16_1 (by omega)
    have hg1 := hga (k17_2 : Int) (k16_1 : Int)
    refine TC.seq ?_
    refine TC.seq ?_
    refine TC.region ?_
    refine TL.op (yq (y_move (ev_t rfl))) rfl rfl rfl ?_
    refine TL.op (yq (y_move (ev_t rfl))) rfl rfl rfl ?_
    refine TL.op (yq (y_len (ev_t rfl) Try.underlying25 (fun w hw => ((ri_arg ha) w hw).ln))) rfl rfl rfl ?_
    refine TL.op (yq (y_move (ev_t rfl))) rfl rfl rfl ?_
    refine TL.op (yq (y_add (ev_t rfl) (ev_t rfl) (by unfold In64; constructor <;> omega))) rfl rfl rfl ?_
    refine TL.op (yq (y_lss (ev_t rfl) (ev_t rfl))) rfl rfl rfl ?_
    refine TL.nil ?_
    refine TN.seq ?_
    refine TC.cond (b := decide ((k17_2 : Int) < (a.length : Int) + (k16_1 : Int))) (ev_t rfl) (fun h59 => ?_) (fun h59 => ?_)
    · rw [bif_pos h59] at hL2
      have q60 := (of_decide_eq_true h59)
      refine TC.skip ?_
      refine TN.seq ?_
      refine TC.seq ?_
      refine TC.block ?_
      refine TC.seq ?_
      refine TC.regionQ (by kernel_rfl) (by kernel_rfl) dr_hp ?_
      refine TQ.op (yq (y_move (ev_t rfl))) rfl rfl rfl ?_
      refine TQ.op (yq (y_move (ev_t rfl))) rfl rfl rfl ?_
      have hb61 : k17_2 < (F_spec_l7Holders ((a.length : Int) + (before.length : Int)) before).length := (by first | omega | (simp only [List.length_set, List.length_append, List.length_cons, List.length_nil, List.length_replicate]; omega) | (rw [sortI_length]; simp only [List.length_cons, List.length_nil]; omega) | (simp only [ByteArray.size_append]; omega))
      refine TQ.op (yq (y_idx (k := k17_2) (ev_t rfl) (ev_t rfl) (by first | omega | simp) slT_25 (ri_row 2 rfl) hb61)) rfl rfl rfl ?_
      refine TQ.op (yq (y_ldi (ev_t rfl) one_3 (ri_row 2 rfl) hb61)) rfl rfl rfl ?_
      refine TQ.op (yq (y_lss (ev_t rfl) ev_c)) rfl rfl rfl ?_
      refine TQ.op (yq (y_move (ev_t rfl))) rfl rfl rfl ?_
      refine TQ.opw (w_t rfl rfl rfl) (fun hg => yq (y_move (ev_t rfl))) rfl rfl ?_
      refine TQ.opw (w_t rfl rfl rfl) (fun hg => yq (y_move (ev_t rfl))) rfl rfl ?_
      refine TQ.opw (w_t rfl rfl rfl) (fun hg => yq (y_idx (k := k16_1) (ev_g rfl hg) (ev_g rfl hg) (by have hgf := (of_decide_eq_true hg); first | omega | simp) slT_25 (ri_row 0 rfl) (show k16_1 < (F_spec_l7Reach m a reqs before (F_spec_l7Holders ((a.length : Int) + (before.length : Int)) before)).1.length by have hgf := (of_decide_eq_true hg); omega))) rfl rfl ?_
      refine TQ.opw (w_t rfl rfl rfl) (fun hg => yq (y_ldi (ev_g rfl hg) one_3 (ri_row 0 rfl) (show k16_1 < (F_spec_l7Reach m a reqs before (F_spec_l7Holders ((a.length : Int) + (before.length : Int)) before)).1.length by have hgf := (of_decide_eq_true hg); omega))) rfl rfl ?_
      refine TQ.opw (w_t rfl rfl rfl) (fun hg => yq (y_ldagg (cs := [vm]) 3 (ev_t rfl) agg_29 rfl)) rfl rfl ?_
      refine TQ.opw (w_t rfl rfl rfl) (fun hg => yq (y_move (ev_t rfl))) rfl rfl ?_
      refine TQ.opw (w_t rfl rfl rfl) (fun hg => yq (y_move (ev_t rfl))) rfl rfl ?_
      refine TQ.opw (w_t rfl rfl rfl) (fun hg => yq (y_move (ev_t rfl))) rfl rfl ?_
      refine TQ.opw (w_t rfl rfl rfl) (fun hg => yq (y_move (ev_t rfl))) rfl rfl ?_
      refine TQ.opw (w_t rfl rfl rfl) (fun hg => y_call (vs := [(.agg #[vm]), va, vreqs, (.int .i64 (k17_2 : Int)), (.int .i64 (k16_1 : Int))]) (v := (.int .i64 (F_spec_l7Gap m a reqs (k17_2 : Int) (k16_1 : Int)))) en_43 ⟨(ev_g rfl hg), (ev_g rfl hg), (ev_g rfl hg), (ev_g rfl hg), (ev_g rfl hg), trivial⟩ (fun w hw => spec_l7Gap_ok w vm um m ((rii_arg hm) w hw) va a ((ri_arg ha) w hw) vreqs reqs ((ri_arg hreqs) w hw) (k17_2 : Int) (k16_1 : Int) (by have hgf := (of_decide_eq_true hg); first | assumption | omega | (have hq := hgf.n6; omega) | (have hq := hgf.1.n6; omega) | grind) (by have hgf := (of_decide_eq_true hg); first | assumption | omega | (have hq := hgf.n6; omega) | (have hq := hgf.1.n6; omega) | grind) (by have hgf := (of_decide_eq_true hg); first | assumption | omega | (have hq := hgf.n6; omega) | (have hq := hgf.1.n6; omega) | grind) (by have hgf := (of_decide_eq_true hg); first | assumption | omega | (have hq := hgf.n6; omega) | (have hq := hgf.1.n6; omega) | grind) (by have hgf := (of_decide_eq_true hg); first | assumption | omega | (have hq := hgf.n6; omega) | (have hq := hgf.1.n6; omega) | grind))) rfl rfl ?_
      refine TQ.opw (w_t rfl rfl rfl) (fun hg => yq (y_add (ev_g rfl hg) (ev_g rfl hg) (by unfold In64; constructor <;> omega))) rfl rfl ?_
      refine TQ.opw (w_t rfl rfl rfl) (fun hg => yq (y_move (ev_t rfl))) rfl rfl ?_
      refine TQ.opw (w_t rfl rfl rfl) (fun hg => yq (y_lss (ev_g rfl hg) (ev_g rfl hg))) rfl rfl ?_
      refine TQ.op (yq (y_and (ev_t rfl) (fun hq => (ev_g rfl hq)))) rfl rfl rfl ?_
      refine TQ.nil ?_
      refine TN.seq ?_
      refine TC.cond (b := ((decide (((F_spec_l7Holders ((a.length : Int) + (before.length : Int)) before).getD k17_2 0) < 0)) && (decide (((F_spec_l7Reach m a reqs before (F_spec_l7Holders ((a.length : Int) + (before.length : Int)) before)).1.getD k16_1 0) + (F_spec_l7Gap m a reqs (k17_2 : Int) (k16_1 : Int)) < k13_2)))) (ev_t rfl) (fun h62 => ?_) (fun h62 => ?_)
      · rw [bif_pos h62] at hL2
        have q63 := (and_imp (and_t h62) (fun h => (of_decide_eq_true h)) (fun h => (of_decide_eq_true h)))
        have htk := q63
        refine TC.seq ?_
        refine TC.regionQ (by kernel_rfl) (by kernel_rfl) dr_hp ?_
        refine TQ.op (yq (y_move (ev_t rfl))) rfl rfl rfl ?_
        refine TQ.op (yq (y_move (ev_t rfl))) rfl rfl rfl ?_
        have hb64 : k16_1 < (F_spec_l7Reach m a reqs before (F_spec_l7Holders ((a.length : Int) + (before.length : Int)) before)).1.length := (by first | omega | (simp only [List.length_set, List.length_append, List.length_cons, List.length_nil, List.length_replicate]; omega) | (rw [sortI_length]; simp only [List.length_cons, List.length_nil]; omega) | (simp only [ByteArray.size_append]; omega))
        refine TQ.op (yq (y_idx (k := k16_1) (ev_t rfl) (ev_t rfl) (by first | omega | simp) slT_25 (ri_row 0 rfl) hb64)) rfl rfl rfl ?_
        refine TQ.op (yq (y_ldi (ev_t rfl) one_3 (ri_row 0 rfl) hb64)) rfl rfl rfl ?_
        refine TQ.op (yq (y_ldagg (cs := [vm]) 3 (ev_t rfl) agg_29 rfl)) rfl rfl rfl ?_
        refine TQ.op (yq (y_move (ev_t rfl))) rfl rfl rfl ?_
        refine TQ.op (yq (y_move (ev_t rfl))) rfl rfl rfl ?_
        refine TQ.op (yq (y_move (ev_t rfl))) rfl rfl rfl ?_
        refine TQ.op (yq (y_move (ev_t rfl))) rfl rfl rfl ?_
        refine TQ.op (y_call (vs := [(.agg #[vm]), va, vreqs, (.int .i64 (k17_2 : Int)), (.int .i64 (k16_1 : Int))]) (v := (.int .i64 (F_spec_l7Gap m a reqs (k17_2 : Int) (k16_1 : Int)))) en_43 ⟨(ev_t rfl), (ev_t rfl), (ev_t rfl), (ev_t rfl), (ev_t rfl), trivial⟩ (fun w hw => spec_l7Gap_ok w vm um m ((rii_arg hm) w hw) va a ((ri_arg ha) w hw) vreqs reqs ((ri_arg hreqs) w hw) (k17_2 : Int) (k16_1 : Int) (by first | assumption | omega | grind) (by first | assumption | omega | grind) (by first | assumption | omega | grind) (by first | assumption | omega | grind) (by first | assumption | omega | grind))) rfl rfl rfl ?_
        refine TQ.op (yq (y_add (ev_t rfl) (ev_t rfl) (by unfold In64; constructor <;> omega))) rfl rfl rfl ?_
        refine TQ.op (yq (y_assign (ev_t rfl))) rfl rfl rfl ?_
        refine TQ.nil ?_
        refine TN.seq ?_
        refine TC.seq ?_
        refine TC.region ?_
        refine TL.op (yq (y_move (ev_t rfl))) rfl rfl rfl ?_
        refine TL.op (yq (y_assign (ev_t rfl))) rfl rfl rfl ?_
        refine TL.nil ?_
        refine TN.seq ?_
        refine TC.region ?_
        refine TL.op (yq (y_move (ev_t rfl))) rfl rfl rfl ?_
        refine TL.op (yq (y_assign (ev_t rfl))) rfl rfl rfl ?_
        refine TL.nil ?_
        refine TN.blockN ?_
        refine TN.seq ?_
        refine TC.region ?_
        refine TL.op (yq (y_move (ev_t rfl))) rfl rfl rfl ?_
        refine TL.op (yq (y_add (ev_t rfl) ev_c (by unfold In64; constructor <;> omega))) rfl rfl rfl ?_
        refine TL.op (yq (y_assign (ev_t rfl))) rfl rfl rfl ?_
        refine TL.nil ?_
        exact TN.hand (mf2, ((F_spec_l7Reach m a reqs before (F_spec_l7Holders ((a.length : Int) + (before.length : Int)) before)).1.getD k16_1 0) + (F_spec_l7Gap m a reqs (k17_2 : Int) (k16_1 : Int)), k16_1, k17_2, (k17_2 + 1)) ⟨(by first | omega | (simp [-List.getD_eq_getElem?_getD] <;> omega)), (by first | exact add_take hq hi2_1 (by omega) (by omega) htk | exact add_keep hq hi2_1 (by omega) htn), (by omega), hL2⟩ (Nat.lt_succ_self _) ⟨rfl, rfl, rfl, rfl, rfl, rfl, rfl, rfl, rfl, rfl, rfl, rfl, rfl, trivial⟩ (fun w hw => hw)
      · rw [bif_neg h62] at hL2
        have q63 := ((and_f h62).imp (fun h => (of_decide_eq_false h)) (fun h => (of_decide_eq_false h)))
        have htn := q63
        refine TC.skip ?_
        refine TN.blockN ?_
        refine TN.seq ?_
        refine TC.region ?_
        refine TL.op (yq (y_move (ev_t rfl))) rfl rfl rfl ?_
        refine TL.op (yq (y_add (ev_t rfl) ev_c (by unfold In64; constructor <;> omega))) rfl rfl rfl ?_
        refine TL.op (yq (y_assign (ev_t rfl))) rfl rfl rfl ?_
        refine TL.nil ?_
        exact TN.hand (mf2, k13_2, k14_2, k15_2, (k17_2 + 1)) ⟨(by first | omega | (simp [-List.getD_eq_getElem?_getD] <;> omega)), (by first | exact add_take hq hi2_1 (by omega) (by omega) htk | exact add_keep hq hi2_1 (by omega) htn), (by omega), hL2⟩ (Nat.lt_succ_self _) ⟨rfl, rfl, rfl, rfl, rfl, rfl, rfl, rfl, rfl, rfl, rfl, rfl, rfl, trivial⟩ (fun w hw => hw)
    · rw [bif_neg h59] at hL2
      have q60 := (of_decide_eq_false h59)
      refine TC.exit ?_
      refine TN.thenE ?_
      refine TN.thenE ?_
      rw [← hL2, elim_next] at hL1
      try dsimp only at hL1
      refine TN.blockH ?_
      refine TN.blockN ?_
      refine TN.seq ?_
      refine TC.region ?_
      refine TL.op (yq (y_move (ev_t rfl))) rfl rfl rfl ?_
      refine TL.op (yq (y_add (ev_t rfl) ev_c (by unfold In64; constructor <;> omega))) rfl rfl rfl ?_
      refine TL.op (yq (y_assign (ev_t rfl))) rfl rfl rfl ?_
      refine TL.nil ?_
      exact TN.hand (mf1, k13_2, k14_2, k15_2, (k16_1 + 1)) ⟨(by first | omega | (simp [-List.getD_eq_getElem?_getD] <;> omega)), (hi2_1.row (by omega)), (by omega), hL1⟩ (Nat.lt_succ_self _) ⟨rfl, rfl, rfl, rfl, rfl, rfl, rfl, rfl, rfl, rfl, rfl, rfl, trivial⟩ (fun w hw => hw)
  · rw [bif_neg h55] at hL1
    have q56 := (of_decide_eq_false h55)
    refine TC.exit ?_
    refine TN.thenE ?_
    refine TN.thenE ?_
    rw [← hL1, elim_next] at hF
    try dsimp only at hF
    have hpk := hi1_1.pick (by omega) hq.pre hFn.bf.src
    have hai := Th.Ag.init hq.pre hFn hpk.1
    have hpx := hpk.1.xi
    have hpl := hpk.1.lk
    refine TN.blockH ?_
    refine TN.seq ?_
    refine TC.seq ?_
    refine TC.region ?_
    refine TL.op (yq (y_move (ev_t rfl))) rfl rfl rfl ?_
    refine TL.callr (ι := Value) (vs := [vbefore]) (fun i => i) (fun i => [rowI 3 i before]) en_35 ⟨(ev_t rfl), trivial⟩ rfl (fun w hw => spec_l1Own_ok w vbefore before ((ri_arg hbefore) w hw) (by first | assumption | omega | grind)) (fun r17_1 => ?_)
    refine TL.buildI (zs := [.const (.int .i64 0)]) (qs := [0]) slT_25 rfl ⟨ev_c, trivial⟩ rfl (by decide) rfl (fun v17_2 => ?_)
    refine TL.appendI 1 (ev_t rfl) (ev_t rfl) rfl slT_25 (ri_row 0 rfl) (by first | omega | (simp [-List.getD_eq_getElem?_getD] <;> omega)) rfl (fun v17_3 => ?_)
    refine TL.op (yq (y_assign (ev_t rfl))) rfl rfl rfl ?_
    refine TL.nil ?_
    refine TN.seq ?_
    refine TC.seq ?_
    refine TC.block ?_
    obtain ⟨c65, hc66⟩ : ∃ c, F_spec_l7Add_L3 m a reqs before ((Th.dep before.length (F_spec_l7Reach m a reqs before (F_spec_l7Holders ((a.length : Int) + (before.length : Int)) before)).2 (before.length + 1) (k14_1 : Int).toNat) + 1) ((k14_1 : Int), (k15_1 : Int), (before ++ ([0]))) = c := ⟨_, rfl⟩
    rw [hc66] at hF
    refine TC.loop (ι := Nat × Int × Int × List Int) (fun (fu3, k14_3, k15_3, m0_3) => [(9, (.int .i64 (before.length : Int))), (12, r3_5.2), (14, (.int .i64 k14_3)), (15, (.int .i64 k15_3)), (18, v17_3)]) (fun (fu3, k14_3, k15_3, m0_3) => Hp w [rowI 3 v17_3 m0_3, rowI 3 r3_5.2 ((F_spec_l7Reach m a reqs before (F_spec_l7Holders ((a.length : Int) + (before.length : Int)) before)).2)]) (fun (fu3, k14_3, k15_3, m0_3) => (0 ≤ k14_3) ∧ (0 ≤ k15_3) ∧ (Th.Ag before.length a.length (a.length + reqs.length) (fun l x => gap m a reqs l x) before (F_spec_l7Holders ((a.length : Int) + (before.length : Int)) before) (fun x => if x = before.length then 0 else p x) r (F_spec_l7Reach m a reqs before (F_spec_l7Holders ((a.length : Int) + (before.length : Int)) before)).1 (F_spec_l7Reach m a reqs before (F_spec_l7Holders ((a.length : Int) + (before.length : Int)) before)).2 k13_1 m0_3 k14_3.toNat k15_3.toNat) ∧ Th.dep before.length (F_spec_l7Reach m a reqs before (F_spec_l7Holders ((a.length : Int) + (before.length : Int)) before)).2 (before.length + 1) k14_3.toNat < fu3 ∧ F_spec_l7Add_L3 m a reqs before fu3 (k14_3, k15_3, m0_3) = c65) (fun (fu3, k14_3, k15_3, m0_3) => fu3) ((Th.dep before.length (F_spec_l7Reach m a reqs before (F_spec_l7Holders ((a.length : Int) + (before.length : Int)) before)).2 (before.length + 1) (k14_1 : Int).toNat) + 1, (k14_1 : Int), (k15_1 : Int), (before ++ ([0]))) ⟨(by first | omega | (simp [-List.getD_eq_getElem?_getD] <;> omega)), (by first | omega | (simp [-List.getD_eq_getElem?_getD] <;> omega)), hai, (by omega), hc66⟩ ⟨rfl, rfl, rfl, rfl, rfl, trivial⟩ (fun w hw => Hp.sublist hw (.cons _ (.cons_cons _ (.cons _ (.cons_cons _ (.cons _ (.cons _ .slnil))))))) ?_
    rintro ⟨fu3, k14_3, k15_3, m0_3⟩ hJ3
    obtain ⟨hi3_0, hi3_1, hi3_2, hmu3, hL3⟩ : (0 ≤ k14_3) ∧ (0 ≤ k15_3) ∧ (Th.Ag before.length a.length (a.length + reqs.length) (fun l x => gap m a reqs l x) before (F_spec_l7Holders ((a.length : Int) + (before.length : Int)) before) (fun x => if x = before.length then 0 else p x) r (F_spec_l7Reach m a reqs before (F_spec_l7Holders ((a.length : Int) + (before.length : Int)) before)).1 (F_spec_l7Reach m a reqs before (F_spec_l7Holders ((a.length : Int) + (before.length : Int)) before)).2 k13_1 m0_3 k14_3.toNat k15_3.toNat) ∧ Th.dep before.length (F_spec_l7Reach m a reqs before (F_spec_l7Holders ((a.length : Int) + (before.length : Int)) before)).2 (before.length + 1) k14_3.toNat < fu3 ∧ F_spec_l7Add_L3 m a reqs before fu3 (k14_3, k15_3, m0_3) = c65 := hJ3
    change TC _ _ _ _ (Hp w [rowI 3 v17_3 m0_3, rowI 3 r3_5.2 ((F_spec_l7Reach m a reqs before (F_spec_l7Holders ((a.length : Int) + (before.length : Int)) before)).2)]) [(9, (.int .i64 (before.length : Int))), (12, r3_5.2), (14, (.int .i64 k14_3)), (15, (.int .i64 k15_3)), (18, v17_3)]
    obtain ⟨mf3, rfl⟩ : ∃ m, fu3 = m + 1 := ⟨fu3 - 1, by omega⟩
    rw [F_spec_l7Add_L3_s] at hL3
    have hlo3 := hi3_2.lo
    have hai3 := hi3_2.ai
    refine TC.seq ?_
    refine TC.seq ?_
    refine TC.region ?_
    refine TL.op (yq (y_move (ev_t rfl))) rfl rfl rfl ?_
    refine TL.op (yq (y_move (ev_t rfl))) rfl rfl rfl ?_
    refine TL.op (yq (y_neq (ev_t rfl) (ev_t rfl))) rfl rfl rfl ?_
    refine TL.nil ?_
    refine TN.seq ?_
    refine TC.cond (b := !decide (k14_3 = (before.length : Int))) (ev_t rfl) (fun h67 => ?_) (fun h67 => ?_)
    · rw [bif_pos h67] at hL3
      have q68 := (of_decide_eq_false (not_t h67))
      have hsp := add_step hq hFn hi3_0 hi3_1 hi3_2 q68
      refine TC.skip ?_
      refine TN.seq ?_
      refine TC.block ?_
      refine TC.seq ?_
      refine TC.region ?_
      refine TL.op (yq (y_move (ev_t rfl))) rfl rfl rfl ?_
      refine TL.op (yq (y_move (ev_t rfl))) rfl rfl rfl ?_
      have hb69 : (k14_3).toNat < m0_3.length := (by first | omega | (simp only [List.length_set, List.length_append, List.length_cons, List.length_nil, List.length_replicate]; omega) | (rw [sortI_length]; simp only [List.length_cons, List.length_nil]; omega) | (simp only [ByteArray.size_append]; omega))
      refine TL.op (yq (y_idx (k := (k14_3).toNat) (ev_t rfl) (ev_t rfl) (by first | omega | simp) slT_25 (ri_row 0 rfl) hb69)) rfl rfl rfl ?_
      refine TL.op (yq (y_ldi (ev_t rfl) one_3 (ri_row 0 rfl) hb69)) rfl rfl rfl ?_
      refine TL.op (yq (y_assign (ev_t rfl))) rfl rfl rfl ?_
      refine TL.nil ?_
      refine TN.seq ?_
      refine TC.seq ?_
      refine TC.region ?_
      refine TL.op (yq (y_move (ev_t rfl))) rfl rfl rfl ?_
      refine TL.op (yq (y_move (ev_t rfl))) rfl rfl rfl ?_
      refine TL.op (yq (y_move (ev_t rfl))) rfl rfl rfl ?_
      have hb70 : (k14_3).toNat < m0_3.length := (by first | omega | (simp only [List.length_set, List.length_append, List.length_cons, List.length_nil, List.length_replicate]; omega) | (rw [sortI_length]; simp only [List.length_cons, List.length_nil]; omega) | (simp only [ByteArray.size_append]; omega))
      refine TL.op (yq (y_idx (k := (k14_3).toNat) (ev_t rfl) (ev_t rfl) (by first | omega | simp) slT_25 (ri_row 0 rfl) hb70)) rfl rfl rfl ?_
      refine TL.storeI 0 (ev_t rfl) (ev_t rfl) one_3 rfl hb70 ?_
      refine TL.nil ?_
      refine TN.seq ?_
      refine TC.seq ?_
      refine TC.region ?_
      refine TL.op (yq (y_move (ev_t rfl))) rfl rfl rfl ?_
      refine TL.op (yq (y_assign (ev_t rfl))) rfl rfl rfl ?_
      refine TL.nil ?_
      refine TN.seq ?_
      refine TC.region ?_
      refine TL.op (yq (y_move (ev_t rfl))) rfl rfl rfl ?_
      refine TL.op (yq (y_move (ev_t rfl))) rfl rfl rfl ?_
      have hb71 : (k14_3).toNat < (F_spec_l7Reach m a reqs before (F_spec_l7Holders ((a.length : Int) + (before.length : Int)) before)).2.length := (by first | omega | (simp only [List.length_set, List.length_append, List.length_cons, List.length_nil, List.length_replicate]; omega) | (rw [sortI_length]; simp only [List.length_cons, List.length_nil]; omega) | (simp only [ByteArray.size_append]; omega))
      refine TL.op (yq (y_idx (k := (k14_3).toNat) (ev_t rfl) (ev_t rfl) (by first | omega | simp) slT_25 (ri_row 1 rfl) hb71)) rfl rfl rfl ?_
      refine TL.op (yq (y_ldi (ev_t rfl) one_3 (ri_row 1 rfl) hb71)) rfl rfl rfl ?_
      refine TL.op (yq (y_assign (ev_t rfl))) rfl rfl rfl ?_
      refine TL.nil ?_
      refine TN.blockN ?_
      have hmu3 := hsp.2.2.2
      exact TN.hand (mf3, ((F_spec_l7Reach m a reqs before (F_spec_l7Holders ((a.length : Int) + (before.length : Int)) before)).2.getD ((k14_3).toNat) 0), (m0_3.getD ((k14_3).toNat) 0), (m0_3.set ((k14_3).toNat) k15_3)) ⟨hsp.1, hsp.2.1, hsp.2.2.1, (by omega), hL3⟩ (Nat.lt_succ_self _) ⟨rfl, rfl, rfl, rfl, rfl, trivial⟩ (fun w hw => hw)
    · rw [bif_neg h67] at hL3
      have q68 := (of_decide_eq_true (not_f h67))
      refine TC.exit ?_
      refine TN.thenE ?_
      refine TN.thenE ?_
      rw [← hL3, elim_next] at hF
      try dsimp only at hF
      refine TN.blockH ?_
      refine TN.seq ?_
      refine TC.seq ?_
      refine TC.region ?_
      refine TL.op (yq (y_move (ev_t rfl))) rfl rfl rfl ?_
      refine TL.op (yq (y_move (ev_t rfl))) rfl rfl rfl ?_
      refine TL.op (yq (y_move (ev_t rfl))) rfl rfl rfl ?_
      have hb72 : before.length < m0_3.length := (by first | omega | (simp only [List.length_set, List.length_append, List.length_cons, List.length_nil, List.length_replicate]; omega) | (rw [sortI_length]; simp only [List.length_cons, List.length_nil]; omega) | (simp only [ByteArray.size_append]; omega))
      refine TL.op (yq (y_idx (k := before.length) (ev_t rfl) (ev_t rfl) (by first | omega | simp) slT_25 (ri_row 0 rfl) hb72)) rfl rfl rfl ?_
      refine TL.storeI 0 (ev_t rfl) (ev_t rfl) one_3 rfl hb72 ?_
      refine TL.nil ?_
      refine TN.seq ?_
      refine TC.seq ?_
      refine TC.region ?_
      refine TL.op (yq (y_move (ev_t rfl))) rfl rfl rfl ?_
      refine TL.op (yq (y_assign (ev_t rfl))) rfl rfl rfl ?_
      refine TL.nil ?_
      refine TN.seq ?_
      refine TC.ret ?_
      subst hF
      exact TN.ret1 rfl (ev_t rfl) (fun w' hw => ⟨v17_3, rfl, Hp.sublist hw (.cons_cons _ (.cons _ .slnil))⟩)

set_option maxRecDepth 4000 in
set_option maxHeartbeats 1000000 in
theorem spec_l7Flow_ok (w : World) (vm : Value) (um : List Value) (m : List (List Int)) (hm : RII w vm um m) (va : Value) (a : List Int) (ha : RI w va a) (vreqs : Value) (reqs : List Int) (hreqs : RI w vreqs reqs) (hp0 : Sv m a reqs) :
    Calls Try.prog 24 ([(.agg #[vm]), va, vreqs] : List Value).toArray w (fun e w' => ∃ i : Value, e = .returned i ∧ Hp w [rowI 3 i (F_spec_l7Flow m a reqs)] w') := by
  obtain ⟨rz, hF⟩ : ∃ rz, (F_spec_l7Flow m a reqs) = rz := ⟨_, rfl⟩
  rw [hF]
  unfold F_spec_l7Flow at hF
  have hr60 := hp0.r60
  have hlen_m := argT_len hm
  have hlen_a := arg_len ha
  have hlen_reqs := arg_len hreqs
  refine calls_tc Try.func24 rfl rfl rfl ?_
  change TC _ _ _ _ (Hp w []) [(0, (.agg #[vm])), (1, va), (2, vreqs)]
  refine TC.seq ?_
  refine TC.region ?_
  refine TL.box (ev_t rfl) rfl (fun g0_0 => ?_)
  refine TL.op (yq (y_assign ev_c)) rfl rfl rfl ?_
  refine TL.nil ?_
  refine TN.seq ?_
  refine TC.seq ?_
  refine TC.region ?_
  refine TL.buildI (zs := []) (qs := []) slT_25 rfl trivial rfl (by decide) rfl (fun v1_0 => ?_)
  refine TL.op (yq (y_assign (ev_t rfl))) rfl rfl rfl ?_
  refine TL.nil ?_
  refine TN.seq ?_
  refine TC.seq ?_
  refine TC.block ?_
  obtain ⟨c5, hc6⟩ : ∃ c, F_spec_l7Flow_L1 m a reqs ((reqs.length - ([] : List Int).length) + 1) ([] : List Int) = c := ⟨_, rfl⟩
  rw [hc6] at hF
  refine TC.loop (ι := Nat × List Int × Value) (fun (fu1, out1, vout1) => [(1, va), (2, vreqs), (3, (.pointer (some ⟨g0_0, 0, none⟩))), (7, vout1)]) (fun (fu1, out1, vout1) => Hp w [rowI 3 vout1 out1, .blk g0_0 29 [vm]]) (fun (fu1, out1, vout1) => (∃ p r, Aq m a reqs out1 p r) ∧ (out1.length ≤ reqs.length) ∧ reqs.length - out1.length < fu1 ∧ F_spec_l7Flow_L1 m a reqs fu1 out1 = c5) (fun (fu1, out1, vout1) => fu1) ((reqs.length - ([] : List Int).length) + 1, ([] : List Int), v1_0) ⟨(aq_nil hp0), (by first | omega | (simp [-List.getD_eq_getElem?_getD] <;> omega)), (by omega), hc6⟩ ⟨rfl, rfl, rfl, rfl, trivial⟩ (fun w hw => hw) ?_
  rintro ⟨fu1, out1, vout1⟩ hJ1
  obtain ⟨hi1_0, hi1_1, hmu1, hL1⟩ : (∃ p r, Aq m a reqs out1 p r) ∧ (out1.length ≤ reqs.length) ∧ reqs.length - out1.length < fu1 ∧ F_spec_l7Flow_L1 m a reqs fu1 out1 = c5 := hJ1
  change TC _ _ _ _ (Hp w [rowI 3 vout1 out1, .blk g0_0 29 [vm]]) [(1, va), (2, vreqs), (3, (.pointer (some ⟨g0_0, 0, none⟩))), (7, vout1)]
  obtain ⟨mf1, rfl⟩ : ∃ m, fu1 = m + 1 := ⟨fu1 - 1, by omega⟩
  rw [F_spec_l7Flow_L1_s] at hL1
  refine TC.seq ?_
  refine TC.seq ?_
  refine TC.region ?_
  refine TL.op (yq (y_move (ev_t rfl))) rfl rfl rfl ?_
  refine TL.op (yq (y_len (ev_t rfl) Try.underlying25 (fun w hw => ((ri_row 0 rfl) w hw).ln))) rfl rfl rfl ?_
  refine TL.op (yq (y_move (ev_t rfl))) rfl rfl rfl ?_
  refine TL.op (yq (y_len (ev_t rfl) Try.underlying25 (fun w hw => ((ri_arg hreqs) w hw).ln))) rfl rfl rfl ?_
  refine TL.op (yq (y_lss (ev_t rfl) (ev_t rfl))) rfl rfl rfl ?_
  refine TL.nil ?_
  refine TN.seq ?_
  refine TC.cond (b := decide ((out1.length : Int) < (reqs.length : Int))) (ev_t rfl) (fun h7 => ?_) (fun h7 => ?_)
  · rw [bif_pos h7] at hL1
    have q8 := (of_decide_eq_true h7)
    refine TC.skip ?_
    refine TN.seq ?_
    refine TC.block ?_
    refine TC.region ?_
    refine TL.op (yq (y_ldagg (cs := [vm]) 1 (ev_t rfl) agg_29 rfl)) rfl rfl rfl ?_
    refine TL.op (yq (y_move (ev_t rfl))) rfl rfl rfl ?_
    refine TL.op (yq (y_move (ev_t rfl))) rfl rfl rfl ?_
    refine TL.op (yq (y_move (ev_t rfl))) rfl rfl rfl ?_
    refine TL.callr (ι := Value) (vs := [(.agg #[vm]), va, vreqs, vout1]) (fun i => i) (fun i => [rowI 3 i (F_spec_l7Add m a reqs out1)]) en_44 ⟨(ev_t rfl), (ev_t rfl), (ev_t rfl), (ev_t rfl), trivial⟩ rfl (fun w hw => spec_l7Add_ok w vm um m ((rii_arg hm) w hw) va a ((ri_arg ha) w hw) vreqs reqs ((ri_arg hreqs) w hw) vout1 out1 ((ri_row 0 rfl) w hw) (by first | assumption | omega | grind) (by first | assumption | omega | grind)) (fun r3_4 => ?_)
    refine TL.op (yq (y_assign (ev_t rfl))) rfl rfl rfl ?_
    refine TL.nil ?_
    refine TN.blockN ?_
    have hal := (aq_add hi1_0 (by omega)).2
    exact TN.hand (mf1, (F_spec_l7Add m a reqs out1), r3_4) ⟨(aq_add hi1_0 (by omega)).1, (by first | omega | (simp [-List.getD_eq_getElem?_getD] <;> omega)), (by omega), hL1⟩ (Nat.lt_succ_self _) ⟨rfl, rfl, rfl, rfl, trivial⟩ (fun w hw => Hp.sublist hw (.cons_cons _ (.cons _ (.cons_cons _ .slnil))))
  · rw [bif_neg h7] at hL1
    have q8 := (of_decide_eq_false h7)
    refine TC.exit ?_
    refine TN.thenE ?_
    refine TN.thenE ?_
    rw [← hL1, elim_next] at hF
    try dsimp only at hF
    refine TN.blockH ?_
    refine TN.seq ?_
    refine TC.seq ?_
    refine TC.region ?_
    refine TL.op (yq (y_move (ev_t rfl))) rfl rfl rfl ?_
    refine TL.op (yq (y_assign (ev_t rfl))) rfl rfl rfl ?_
    refine TL.nil ?_
    refine TN.seq ?_
    refine TC.ret ?_
    subst hF
    exact TN.ret1 rfl (ev_t rfl) (fun w' hw => ⟨vout1, rfl, Hp.sublist hw (.cons_cons _ (.cons _ .slnil))⟩)

set_option maxRecDepth 4000 in
set_option maxHeartbeats 1000000 in
theorem spec_l7Cost_ok (w : World) (vm : Value) (um : List Value) (m : List (List Int)) (hm : RII w vm um m) (va : Value) (a : List Int) (ha : RI w va a) (vreqs : Value) (reqs : List Int) (hreqs : RI w vreqs reqs) (vbefore : Value) (before : List Int) (hbefore : RI w vbefore before) (hp0 : Sv m a reqs) (hp1 : before.length = reqs.length) (hp2 : ∀ i, i < before.length → 0 ≤ before.getD i 0 ∧ before.getD i 0 < a.length + reqs.length) :
    Calls Try.prog 23 ([(.agg #[vm]), va, vreqs, vbefore] : List Value).toArray w (Ret (.int .i64 (F_spec_l7Cost m a reqs before)) (Hp w [])) := by
  obtain ⟨rz, hF⟩ : ∃ rz, (F_spec_l7Cost m a reqs before) = rz := ⟨_, rfl⟩
  rw [hF]
  unfold F_spec_l7Cost at hF
  have hr60 := hp0.r60
  have hlen_m := argT_len hm
  have hlen_a := arg_len ha
  have hlen_reqs := arg_len hreqs
  have hlen_before := arg_len hbefore
  refine calls_tc Try.func23 rfl rfl rfl ?_
  change TC _ _ _ _ (Hp w []) [(0, (.agg #[vm])), (1, va), (2, vreqs), (3, vbefore)]
  refine TC.seq ?_
  refine TC.region ?_
  refine TL.box (ev_t rfl) rfl (fun g0_0 => ?_)
  refine TL.op (yq (y_assign ev_c)) rfl rfl rfl ?_
  refine TL.nil ?_
  refine TN.seq ?_
  refine TC.seq ?_
  refine TC.region ?_
  refine TL.op (yq (y_assign ev_c)) rfl rfl rfl ?_
  refine TL.nil ?_
  refine TN.seq ?_
  refine TC.seq ?_
  refine TC.seq ?_
  refine TC.region ?_
  refine TL.op (yq (y_assign ev_c)) rfl rfl rfl ?_
  refine TL.nil ?_
  refine TN.seq ?_
  refine TC.block ?_
  obtain ⟨c10, hc11⟩ : ∃ c, F_spec_l7Cost_L1 m a reqs before ((before.length - 0) + 1) (0, 0) = c := ⟨_, rfl⟩
  rw [hc11] at hF
  refine TC.loop (ι := Nat × Int × Nat) (fun (fu1, sum1, i1) => [(1, va), (2, vreqs), (3, vbefore), (4, (.pointer (some ⟨g0_0, 0, none⟩))), (9, (.int .i64 sum1)), (10, (.int .i64 (i1 : Int)))]) (fun (fu1, sum1, i1) => Hp w [.blk g0_0 29 [vm]]) (fun (fu1, sum1, i1) => (i1 ≤ before.length) ∧ (0 ≤ sum1) ∧ (sum1 ≤ 99 * i1) ∧ before.length - i1 < fu1 ∧ F_spec_l7Cost_L1 m a reqs before fu1 (sum1, i1) = c10) (fun (fu1, sum1, i1) => fu1) ((before.length - 0) + 1, 0, 0) ⟨(by first | omega | (simp [-List.getD_eq_getElem?_getD] <;> omega)), (by first | omega | (simp [-List.getD_eq_getElem?_getD] <;> omega)), (by first | omega | (simp [-List.getD_eq_getElem?_getD] <;> omega)), (by omega), hc11⟩ ⟨rfl, rfl, rfl, rfl, rfl, rfl, trivial⟩ (fun w hw => hw) ?_
  rintro ⟨fu1, sum1, i1⟩ hJ1
  obtain ⟨hi1_0, hi1_1, hi1_2, hmu1, hL1⟩ : (i1 ≤ before.length) ∧ (0 ≤ sum1) ∧ (sum1 ≤ 99 * i1) ∧ before.length - i1 < fu1 ∧ F_spec_l7Cost_L1 m a reqs before fu1 (sum1, i1) = c10 := hJ1
  change TC _ _ _ _ (Hp w [.blk g0_0 29 [vm]]) [(1, va), (2, vreqs), (3, vbefore), (4, (.pointer (some ⟨g0_0, 0, none⟩))), (9, (.int .i64 sum1)), (10, (.int .i64 (i1 : Int)))]
  obtain ⟨mf1, rfl⟩ : ∃ m, fu1 = m + 1 := ⟨fu1 - 1, by omega⟩
  rw [F_spec_l7Cost_L1_s] at hL1
  have hbe := hp2 i1
  have hga := gap_any hp0 (before.getD i1 0) (i1 : Int)
  refine TC.seq ?_
  refine TC.seq ?_
  refine TC.region ?_
  refine TL.op (yq (y_move (ev_t rfl))) rfl rfl rfl ?_
  refine TL.op (yq (y_move (ev_t rfl))) rfl rfl rfl ?_
  refine TL.op (yq (y_len (ev_t rfl) Try.underlying25 (fun w hw => ((ri_arg hbefore) w hw).ln))) rfl rfl rfl ?_
  refine TL.op (yq (y_lss (ev_t rfl) (ev_t rfl))) rfl rfl rfl ?_
  refine TL.nil ?_
  refine TN.seq ?_
  refine TC.cond (b := decide ((i1 : Int) < (before.length : Int))) (ev_t rfl) (fun h12 => ?_) (fun h12 => ?_)
  · rw [bif_pos h12] at hL1
    have q13 := (of_decide_eq_true h12)
    refine TC.skip ?_
    refine TN.seq ?_
    refine TC.seq ?_
    refine TC.block ?_
    refine TC.regionQ (by kernel_rfl) (by kernel_rfl) dr_hp ?_
    refine TQ.op (yq (y_move (ev_t rfl))) rfl rfl rfl ?_
    refine TQ.op (yq (y_ldagg (cs := [vm]) 0 (ev_t rfl) agg_29 rfl)) rfl rfl rfl ?_
    refine TQ.op (yq (y_move (ev_t rfl))) rfl rfl rfl ?_
    refine TQ.op (yq (y_move (ev_t rfl))) rfl rfl rfl ?_
    refine TQ.op (yq (y_move (ev_t rfl))) rfl rfl rfl ?_
    refine TQ.op (yq (y_move (ev_t rfl))) rfl rfl rfl ?_
    have hb14 : i1 < before.length := (by first | omega | (simp only [List.length_set, List.length_append, List.length_cons, List.length_nil, List.length_replicate]; omega) | (rw [sortI_length]; simp only [List.length_cons, List.length_nil]; omega) | (simp only [ByteArray.size_append]; omega))
    refine TQ.op (yq (y_idx (k := i1) (ev_t rfl) (ev_t rfl) (by first | omega | simp) slT_25 (ri_arg hbefore) hb14)) rfl rfl rfl ?_
    refine TQ.op (yq (y_ldi (ev_t rfl) one_3 (ri_arg hbefore) hb14)) rfl rfl rfl ?_
    refine TQ.op (yq (y_move (ev_t rfl))) rfl rfl rfl ?_
    refine TQ.op (y_call (vs := [(.agg #[vm]), va, vreqs, (.int .i64 (before.getD i1 0)), (.int .i64 (i1 : Int))]) (v := (.int .i64 (F_spec_l7Gap m a reqs (before.getD i1 0) (i1 : Int)))) en_43 ⟨(ev_t rfl), (ev_t rfl), (ev_t rfl), (ev_t rfl), (ev_t rfl), trivial⟩ (fun w hw => spec_l7Gap_ok w vm um m ((rii_arg hm) w hw) va a ((ri_arg ha) w hw) vreqs reqs ((ri_arg hreqs) w hw) (before.getD i1 0) (i1 : Int) (by first | assumption | omega | grind) (by first | assumption | omega | grind) (by first | assumption | omega | grind) (by first | assumption | omega | grind) (by first | assumption | omega | grind))) rfl rfl rfl ?_
    refine TQ.op (yq (y_add (ev_t rfl) (ev_t rfl) (by unfold In64; constructor <;> omega))) rfl rfl rfl ?_
    refine TQ.op (yq (y_assign (ev_t rfl))) rfl rfl rfl ?_
    refine TQ.nil ?_
    refine TN.blockN ?_
    refine TN.seq ?_
    refine TC.region ?_
    refine TL.op (yq (y_move (ev_t rfl))) rfl rfl rfl ?_
    refine TL.op (yq (y_add (ev_t rfl) ev_c (by unfold In64; constructor <;> omega))) rfl rfl rfl ?_
    refine TL.op (yq (y_assign (ev_t rfl))) rfl rfl rfl ?_
    refine TL.nil ?_
    exact TN.hand (mf1, sum1 + (F_spec_l7Gap m a reqs (before.getD i1 0) (i1 : Int)), (i1 + 1)) ⟨(by first | omega | (simp [-List.getD_eq_getElem?_getD] <;> omega)), (by first | omega | (simp [-List.getD_eq_getElem?_getD] <;> omega)), (by first | omega | (simp [-List.getD_eq_getElem?_getD] <;> omega)), (by omega), hL1⟩ (Nat.lt_succ_self _) ⟨rfl, rfl, rfl, rfl, rfl, rfl, trivial⟩ (fun w hw => hw)
  · rw [bif_neg h12] at hL1
    have q13 := (of_decide_eq_false h12)
    refine TC.exit ?_
    refine TN.thenE ?_
    refine TN.thenE ?_
    rw [← hL1, elim_next] at hF
    try dsimp only at hF
    refine TN.blockH ?_
    refine TN.seq ?_
    refine TC.seq ?_
    refine TC.region ?_
    refine TL.op (yq (y_move (ev_t rfl))) rfl rfl rfl ?_
    refine TL.op (yq (y_assign (ev_t rfl))) rfl rfl rfl ?_
    refine TL.nil ?_
    refine TN.seq ?_
    refine TC.ret ?_
    subst hF
    exact TN.ret1 rfl (ev_t rfl) (fun w' hw => ⟨rfl, Hp.sublist hw (List.nil_sublist _)⟩)

set_option maxRecDepth 4000 in
set_option maxHeartbeats 1000000 in
theorem spec_FlowCost_ok (w : World) (vm : Value) (um : List Value) (m : List (List Int)) (hm : RII w vm um m) (va : Value) (a : List Int) (ha : RI w va a) (vreqs : Value) (reqs : List Int) (hreqs : RI w vreqs reqs)  :
    Calls Try.prog 7 ([(.agg #[vm]), va, vreqs] : List Value).toArray w (Ret (.tuple #[(.int .i64 ((F_spec_FlowCost m a reqs).1)), (.bool ((F_spec_FlowCost m a reqs).2))]) (Hp w [])) := by
  obtain ⟨rz, hF⟩ : ∃ rz, (F_spec_FlowCost m a reqs) = rz := ⟨_, rfl⟩
  rw [hF]
  unfold F_spec_FlowCost at hF
  have hlen_m := argT_len hm
  have hlen_a := arg_len ha
  have hlen_reqs := arg_len hreqs
  refine calls_tc Try.func7 rfl rfl rfl ?_
  change TC _ _ _ _ (Hp w []) [(0, (.agg #[vm])), (1, va), (2, vreqs)]
  refine TC.seq ?_
  refine TC.region ?_
  refine TL.box (ev_t rfl) rfl (fun g0_0 => ?_)
  refine TL.op (yq (y_assign ev_c)) rfl rfl rfl ?_
  refine TL.op (yq (y_assign ev_c)) rfl rfl rfl ?_
  refine TL.nil ?_
  refine TN.seq ?_
  refine TC.seq ?_
  refine TC.seq ?_
  refine TC.region ?_
  refine TL.op (yq (y_ldagg (cs := [vm]) 0 (ev_t rfl) agg_29 rfl)) rfl rfl rfl ?_
  refine TL.op (y_call (vs := [(.agg #[vm])]) (v := (.bool (F_spec_l6Good m))) en_21 ⟨(ev_t rfl), trivial⟩ (fun w hw => spec_l6Good_ok w vm um m ((rii_arg hm) w hw))) rfl rfl rfl ?_
  refine TL.op (yq (y_not (ev_t rfl))) rfl rfl rfl ?_
  refine TL.op (yq (y_move (ev_t rfl))) rfl rfl rfl ?_
  refine TL.opw (w_f rfl rfl rfl) (fun hg => yq (y_ldagg (cs := [vm]) 0 (ev_t rfl) agg_29 rfl)) rfl rfl ?_
  refine TL.opw (w_f rfl rfl rfl) (fun hg => yq (y_move (ev_t rfl))) rfl rfl ?_
  refine TL.opw (w_f rfl rfl rfl) (fun hg => yq (y_move (ev_t rfl))) rfl rfl ?_
  refine TL.opw (w_f rfl rfl rfl) (fun hg => y_call (vs := [(.agg #[vm]), va, vreqs]) (v := (.bool (F_spec_l6Start m a reqs))) en_22 ⟨(ev_g rfl hg), (ev_g rfl hg), (ev_g rfl hg), trivial⟩ (fun w hw => spec_l6Start_ok w vm um m ((rii_arg hm) w hw) va a ((ri_arg ha) w hw) vreqs reqs ((ri_arg hreqs) w hw))) rfl rfl ?_
  refine TL.opw (w_f rfl rfl rfl) (fun hg => yq (y_not (ev_g rfl hg))) rfl rfl ?_
  refine TL.op (yq (y_or (ev_t rfl) (fun hq => (ev_g rfl hq)))) rfl rfl rfl ?_
  refine TL.nil ?_
  refine TN.seq ?_
  refine TC.cond (b := ((!(F_spec_l6Good m)) || (!(F_spec_l6Start m a reqs)))) (ev_t rfl) (fun h3 => ?_) (fun h3 => ?_)
  · rw [bif_pos h3] at hF
    have q4 := ((or_t h3).imp (fun h => (not_t h)) (fun h => (not_t h)))
    refine TC.seq ?_
    refine TC.region ?_
    refine TL.op (yq (y_assign ev_c)) rfl rfl rfl ?_
    refine TL.op (yq (y_assign ev_c)) rfl rfl rfl ?_
    refine TL.nil ?_
    refine TN.seq ?_
    refine TC.ret ?_
    refine TN.thenR ?_
    subst hF
    exact TN.ret2 rfl (ev_t rfl) (ev_t rfl) (fun w' hw => ⟨rfl, Hp.sublist hw (List.nil_sublist _)⟩)
  · rw [bif_neg h3] at hF
    have q4 := (and_imp (or_f h3) (fun h => (l6Good_t (not_f h))) (fun h => (l6Start_t (not_f h))))
    have hS := q4.2
    have hfw := flow_ok hS
    have hf1 := hfw.1
    have hf2 := hfw.2.1
    refine TC.skip ?_
    refine TN.seq ?_
    refine TC.seq ?_
    refine TC.regionH 10 (Hp w [.blk g0_0 29 [vm]]) rfl (by kernel_rfl) dr_hp (fun w hw => hw) ?_
    refine TH.take 0 rfl (by kernel_rfl) (y_ldagg (cs := [vm]) 0 (ev_t rfl) agg_29 rfl) rfl rfl rfl ?_
    refine TH.take 1 rfl (by kernel_rfl) (y_move (ev_t rfl)) rfl rfl rfl ?_
    refine TH.take 2 rfl (by kernel_rfl) (y_move (ev_t rfl)) rfl rfl rfl ?_
    refine TH.take 3 rfl (by kernel_rfl) (y_ldagg (cs := [vm]) 0 (ev_t rfl) agg_29 rfl) rfl rfl rfl ?_
    refine TH.take 4 rfl (by kernel_rfl) (y_move (ev_t rfl)) rfl rfl rfl ?_
    refine TH.take 5 rfl (by kernel_rfl) (y_move (ev_t rfl)) rfl rfl rfl ?_
    refine TH.loud 6 rfl (by kernel_rfl) ?_
    refine TL.callr (ι := Value) (vs := [(.agg #[vm]), va, vreqs]) (fun i => i) (fun i => [rowI 3 i (F_spec_l7Flow m a reqs)]) en_24 ⟨(ev_t rfl), (ev_t rfl), (ev_t rfl), trivial⟩ rfl (fun w hw => spec_l7Flow_ok w vm um m ((rii_arg hm) w hw) va a ((ri_arg ha) w hw) vreqs reqs ((ri_arg hreqs) w hw) (by first | assumption | omega | grind)) (fun r3_6 => ?_)
    refine TL.nil ?_
    refine TH.back (fun w hw => Hp.sublist hw (.cons _ (.cons_cons _ .slnil))) ?_
    refine TH.loud 7 rfl (by kernel_rfl) ?_
    refine TL.op (y_call (vs := [(.agg #[vm]), va, vreqs, r3_6]) (v := (.int .i64 (F_spec_l7Cost m a reqs (F_spec_l7Flow m a reqs)))) en_23 ⟨(ev_t rfl), (ev_t rfl), (ev_t rfl), (ev_t rfl), trivial⟩ (fun w hw => spec_l7Cost_ok w vm um m ((rii_arg hm) w hw) va a ((ri_arg ha) w hw) vreqs reqs ((ri_arg hreqs) w hw) r3_6 (F_spec_l7Flow m a reqs) ((ri_row 0 rfl) w hw) (by first | assumption | omega | grind) (by first | assumption | omega | grind) (by first | assumption | omega | grind))) rfl rfl rfl ?_
    refine TL.nil ?_
    refine TH.back (fun w hw => Hp.sublist hw (.cons _ (.cons_cons _ .slnil))) ?_
    refine TH.take 8 rfl (by kernel_rfl) (y_assign (ev_t rfl)) rfl rfl rfl ?_
    refine TH.take 9 rfl (by kernel_rfl) (y_assign ev_c) rfl rfl rfl ?_
    refine TH.done (by kernel_rfl) ?_
    refine TN.seq ?_
    refine TC.ret ?_
    subst hF
    exact TN.ret2 rfl (ev_t rfl) (ev_t rfl) (fun w' hw => ⟨rfl, Hp.sublist hw (List.nil_sublist _)⟩)

end Go.Proofs.Ytgnikdpgndmldaa
namespace Go.Proofs.Ytgnikdpgndmldaa
set_option linter.unusedVariables false
set_option linter.unusedSimpArgs false
open Go Go.RowKit
set_option linter.unusedVariables false

set_option maxRecDepth 4000 in
set_option maxHeartbeats 20000000 in
theorem impl_assigned_ok (w : World) (vcosts : Value) (ucosts : List Value) (costs : List (List Int)) (hcosts : RII w vcosts ucosts costs) (hp0 : Cs costs) :
    Calls Try.prog 27 ([vcosts] : List Value).toArray w (fun e w' => ∃ i : Value, e = .returned (.tuple #[i, (.int .i64 ((F_impl_assigned costs).2))]) ∧ Hp w [rowI 3 i ((F_impl_assigned costs).1)] w') := by
  obtain ⟨rz, hF⟩ : ∃ rz, (F_impl_assigned costs) = rz := ⟨_, rfl⟩
  rw [hF]
  unfold F_impl_assigned at hF
  have hn60 := hp0.n60
  have hlen_costs := argT_len hcosts
  refine calls_tc Try.func27 rfl rfl rfl ?_
  change TC _ _ _ _ (Hp w []) [(0, vcosts)]
  refine TC.seq ?_
  refine TC.region ?_
  refine TL.op (yq (y_assign ev_c)) rfl rfl rfl ?_
  refine TL.op (yq (y_assign ev_c)) rfl rfl rfl ?_
  refine TL.nil ?_
  refine TN.seq ?_
  refine TC.seq ?_
  refine TC.seq ?_
  refine TC.region ?_
  refine TL.op (yq (y_move (ev_t rfl))) rfl rfl rfl ?_
  refine TL.op (yq (y_len (ev_t rfl) Try.underlying22 (fun w hw => ((fun w hw => ((rii_arg hcosts) w hw).1) w hw).ln))) rfl rfl rfl ?_
  refine TL.op (yq (y_eql (ev_t rfl) ev_c)) rfl rfl rfl ?_
  refine TL.nil ?_
  refine TN.seq ?_
  refine TC.cond (b := decide ((costs.length : Int) = 0)) (ev_t rfl) (fun h347 => ?_) (fun h347 => ?_)
  · rw [bif_pos h347] at hF
    have q348 := (of_decide_eq_true h347)
    refine TC.seq ?_
    refine TC.region ?_
    refine TL.op (yq (y_assign ev_c)) rfl rfl rfl ?_
    refine TL.op (yq (y_assign ev_c)) rfl rfl rfl ?_
    refine TL.nil ?_
    refine TN.seq ?_
    refine TC.ret ?_
    refine TN.thenR ?_
    subst hF
    refine TN.cls (fun w hw => hw.nil 3 1) ?_
    exact TN.ret2 rfl (ev_t rfl) (ev_t rfl) (fun w' hw => ⟨(.slice none 0 0), rfl, hw⟩)
  · rw [bif_neg h347] at hF
    have q348 := (of_decide_eq_false h347)
    have hnm := hp0.nm (by omega)
    refine TC.skip ?_
    refine TN.seq ?_
    refine TC.seq ?_
    refine TC.regionQ (by kernel_rfl) (by kernel_rfl) dr_hp ?_
    refine TQ.op (yq (y_move (ev_t rfl))) rfl rfl rfl ?_
    refine TQ.op (yq (y_len (ev_t rfl) Try.underlying22 (fun w hw => ((fun w hw => ((rii_arg hcosts) w hw).1) w hw).ln))) rfl rfl rfl ?_
    refine TQ.op (yq (y_move (ev_t rfl))) rfl rfl rfl ?_
    have hb350 : Hid (0 < costs.length) := (show 0 < costs.length by omega)
    refine TQ.op (yq (y_idx (k := 0) (ev_t rfl) ev_c (by rfl) slT_22 (fun w hw => ((rii_arg hcosts) w hw).1) hb350)) rfl rfl rfl ?_
    have ha351 := hcosts.row (i := 0) hb350
    refine TQ.op (yq (y_ldA (ev_t rfl) one_25 (rii_arg hcosts) hb350)) rfl rfl rfl ?_
    refine TQ.op (yq (y_len (ev_t rfl) Try.underlying25 (fun w hw => ((ri_arg ha351) w hw).ln))) rfl rfl rfl ?_
    refine TQ.op (yq (y_assign (ev_t rfl))) rfl rfl rfl ?_
    refine TQ.op (yq (y_assign (ev_t rfl))) rfl rfl rfl ?_
    refine TQ.nil ?_
    refine TN.seq ?_
    refine TC.seq ?_
    refine TC.mid (fun a' w' => ∃ v4_2 : Value, ∃ v4_5 : Value, Slots 212 [(0, vcosts), (4, (.int .i64 (costs.length : Int))), (5, (.int .i64 ((costs.getD 0 []).length : Int))), (6, v4_2), (7, v4_5)] a' ∧ Hp w [rowI 3 v4_5 (List.replicate ((costs.getD 0 []).length + 1) (0 : Int)), rowI 3 v4_2 (List.replicate (costs.length + 1) (0 : Int))] w') ?_ ?_
    · refine TC.regionH 8 (Hp w []) rfl (by kernel_rfl) dr_hp (fun w hw => hw) ?_
      refine TH.take 0 rfl (by kernel_rfl) (y_move (ev_t rfl)) rfl rfl rfl ?_
      refine TH.take 1 rfl (by kernel_rfl) (y_add (ev_t rfl) ev_c (by unfold In64; constructor <;> omega)) rfl rfl rfl ?_
      refine TH.take 3 rfl (by kernel_rfl) (y_move (ev_t rfl)) rfl rfl rfl ?_
      refine TH.take 4 rfl (by kernel_rfl) (y_add (ev_t rfl) ev_c (by unfold In64; constructor <;> omega)) rfl rfl rfl ?_
      refine TH.loud2 2 5 rfl rfl (by kernel_rfl) ?_ ?_
      · refine TL.makeSlice (n := (costs.length + 1)) (ev_t rfl) (ev_t rfl) (by omega) slT_25 rfl (by omega) (by unfold maxLen; omega) rfl (fun v4_2 => ?_)
        refine TL.cls (fun w hw => hw.zeros) ?_
        refine TL.nil ?_
        refine TH.back (fun w hw => Hp.sublist hw (List.nil_sublist _)) ?_
        refine TH.take 6 rfl (by kernel_rfl) (y_assign (ev_t rfl)) rfl rfl rfl ?_
        refine TH.loud 5 rfl (by kernel_rfl) ?_
        refine TL.makeSlice (n := ((costs.getD 0 []).length + 1)) (ev_t rfl) (ev_t rfl) (by omega) slT_25 rfl (by omega) (by unfold maxLen; omega) rfl (fun v4_5 => ?_)
        refine TL.cls (fun w hw => hw.zeros) ?_
        refine TL.nil ?_
        refine TH.back (fun w hw => Hp.sublist hw (List.nil_sublist _)) ?_
        refine TH.take 7 rfl (by kernel_rfl) (y_assign (ev_t rfl)) rfl rfl rfl ?_
        refine TH.done (by kernel_rfl) ?_
        exact fun a' w' hs hw => ⟨v4_2, v4_5, hs.sub ⟨rfl, rfl, rfl, rfl, rfl, trivial⟩, hw⟩
      · refine TL.makeSlice (n := ((costs.getD 0 []).length + 1)) (ev_t rfl) (ev_t rfl) (by omega) slT_25 rfl (by omega) (by unfold maxLen; omega) rfl (fun v4_5 => ?_)
        refine TL.cls (fun w hw => hw.zeros) ?_
        refine TL.nil ?_
        refine TH.back (fun w hw => Hp.sublist hw (List.nil_sublist _)) ?_
        refine TH.loud 2 rfl (by kernel_rfl) ?_
        refine TL.makeSlice (n := (costs.length + 1)) (ev_t rfl) (ev_t rfl) (by omega) slT_25 rfl (by omega) (by unfold maxLen; omega) rfl (fun v4_2 => ?_)
        refine TL.cls (fun w hw => hw.zeros) ?_
        refine TL.nil ?_
        refine TH.back (fun w hw => Hp.sublist hw (List.nil_sublist _)) ?_
        refine TH.take 6 rfl (by kernel_rfl) (y_assign (ev_t rfl)) rfl rfl rfl ?_
        refine TH.take 7 rfl (by kernel_rfl) (y_assign (ev_t rfl)) rfl rfl rfl ?_
        refine TH.done (by kernel_rfl) ?_
        exact fun a' w' hs hw => ⟨v4_2, v4_5, hs.sub ⟨rfl, rfl, rfl, rfl, rfl, trivial⟩, Hp.picks [1, 0] (by decide) rfl hw⟩
    · rintro a' w' ⟨v4_2, v4_5, hs', hw'⟩
      refine (?_ : TN _ .normal 212 (Hp w [rowI 3 v4_5 (List.replicate ((costs.getD 0 []).length + 1) (0 : Int)), rowI 3 v4_2 (List.replicate (costs.length + 1) (0 : Int))]) [(0, vcosts), (4, (.int .i64 (costs.length : Int))), (5, (.int .i64 ((costs.getD 0 []).length : Int))), (6, v4_2), (7, v4_5)]) a' w' hs' hw'
      clear hs' hw'
      refine TN.seq ?_
      refine TC.seq ?_
      refine TC.region ?_
      refine TL.op (yq (y_move (ev_t rfl))) rfl rfl rfl ?_
      refine TL.op (yq (y_add (ev_t rfl) ev_c (by unfold In64; constructor <;> omega))) rfl rfl rfl ?_
      refine TL.makeSlice (n := ((costs.getD 0 []).length + 1)) (ev_t rfl) (ev_t rfl) (by omega) slT_25 rfl (by omega) (by unfold maxLen; omega) rfl (fun v5_2 => ?_)
      refine TL.cls (fun w hw => hw.zeros) ?_
      refine TL.op (yq (y_assign (ev_t rfl))) rfl rfl rfl ?_
      refine TL.nil ?_
      refine TN.seq ?_
      refine TC.seq ?_
      refine TC.seq ?_
      refine TC.region ?_
      refine TL.op (yq (y_assign ev_c)) rfl rfl rfl ?_
      refine TL.nil ?_
      refine TN.seq ?_
      refine TC.block ?_
      obtain ⟨c352, hc353⟩ : ∃ c, F_impl_assigned_L1 costs ((costs.length + 1 - 1) + 1) (1, (List.replicate ((costs.getD 0 []).length + 1) (0 : Int)), (List.replicate ((costs.getD 0 []).length + 1) (0 : Int)), (List.replicate (costs.length + 1) (0 : Int))) = c := ⟨_, rfl⟩
      rw [hc353] at hF
      refine TC.loop (ι := Nat × Nat × List Int × List Int × List Int) (fun (fu1, k9_1, m0_1, m1_1, m2_1) => [(0, vcosts), (4, (.int .i64 (costs.length : Int))), (5, (.int .i64 ((costs.getD 0 []).length : Int))), (6, v4_2), (7, v4_5), (8, v5_2), (9, (.int .i64 (k9_1 : Int)))]) (fun (fu1, k9_1, m0_1, m1_1, m2_1) => Hp w [rowI 3 v5_2 m0_1, rowI 3 v4_5 m1_1, rowI 3 v4_2 m2_1]) (fun (fu1, k9_1, m0_1, m1_1, m2_1) => (1 ≤ k9_1) ∧ (k9_1 ≤ costs.length + 1) ∧ (Th.Hu costs.length (costs.getD 0 []).length (hC costs) (k9_1 - 1) m2_1 m1_1 m0_1) ∧ Hid (costs.length + 1 - k9_1 < fu1) ∧ F_impl_assigned_L1 costs fu1 (k9_1, m0_1, m1_1, m2_1) = c352) (fun (fu1, k9_1, m0_1, m1_1, m2_1) => fu1) ((costs.length + 1 - 1) + 1, 1, (List.replicate ((costs.getD 0 []).length + 1) (0 : Int)), (List.replicate ((costs.getD 0 []).length + 1) (0 : Int)), (List.replicate (costs.length + 1) (0 : Int))) ⟨(by first | omega | (simp [-List.getD_eq_getElem?_getD] <;> omega)), (by first | omega | (simp [-List.getD_eq_getElem?_getD] <;> omega)), (hu_start hp0 hnm), (Nat.lt_succ_self _), hc353⟩ ⟨rfl, rfl, rfl, rfl, rfl, rfl, rfl, trivial⟩ (fun w hw => hw) ?_
      rintro ⟨fu1, k9_1, m0_1, m1_1, m2_1⟩ hJ1
      obtain ⟨hi1_0, hi1_1, hi1_2, hmu1, hL1⟩ : (1 ≤ k9_1) ∧ (k9_1 ≤ costs.length + 1) ∧ (Th.Hu costs.length (costs.getD 0 []).length (hC costs) (k9_1 - 1) m2_1 m1_1 m0_1) ∧ Hid (costs.length + 1 - k9_1 < fu1) ∧ F_impl_assigned_L1 costs fu1 (k9_1, m0_1, m1_1, m2_1) = c352 := hJ1
      change TC _ _ _ _ (Hp w [rowI 3 v5_2 m0_1, rowI 3 v4_5 m1_1, rowI 3 v4_2 m2_1]) [(0, vcosts), (4, (.int .i64 (costs.length : Int))), (5, (.int .i64 ((costs.getD 0 []).length : Int))), (6, v4_2), (7, v4_5), (8, v5_2), (9, (.int .i64 (k9_1 : Int)))]
      obtain ⟨mf1, rfl⟩ := hid_pred hmu1
      rw [F_impl_assigned_L1_s] at hL1
      have hlu1 := hi1_2.lu
      have hlv1 := hi1_2.lv
      have hlr1 := hi1_2.lr
      have hrep := repeat_eq (1152921504606846976) (((costs.getD 0 []).length : Int) + 1) (by omega) (by omega)
      have hnm3 : (costs.getD 0 []).length ≤ 1000 := by omega
      have hn61 : costs.length ≤ 1000 := by omega
      refine TC.seq ?_
      refine TC.seq ?_
      refine TC.region ?_
      refine TL.op (yq (y_move (ev_t rfl))) rfl rfl rfl ?_
      refine TL.op (yq (y_move (ev_t rfl))) rfl rfl rfl ?_
      refine TL.op (yq (y_leq (ev_t rfl) (ev_t rfl))) rfl rfl rfl ?_
      refine TL.nil ?_
      refine TN.seq ?_
      refine TC.cond (b := decide ((k9_1 : Int) ≤ (costs.length : Int))) (ev_t rfl) (fun h354 => ?_) (fun h354 => ?_)
      · rw [bif_pos h354] at hL1
        have q355 := (of_decide_eq_true h354)
        refine TC.skip ?_
        refine TN.seq ?_
        refine TC.seq ?_
        refine TC.block ?_
        refine TC.seq ?_
        refine TC.region ?_
        refine TL.op (yq (y_move (ev_t rfl))) rfl rfl rfl ?_
        refine TL.op (yq (y_move (ev_t rfl))) rfl rfl rfl ?_
        have hb356 : Hid (0 < m0_1.length) := (show 0 < m0_1.length by omega)
        refine TL.op (yq (y_idx (k := 0) (ev_t rfl) ev_c (by rfl) slT_25 (ri_row 0 rfl) hb356)) rfl rfl rfl ?_
        refine TL.storeI 0 (ev_t rfl) (ev_t rfl) one_3 rfl hb356 ?_
        refine TL.nil ?_
        refine TN.seq ?_
        refine TC.seq ?_
        refine TC.region ?_
        refine TL.op (yq (y_assign ev_c)) rfl rfl rfl ?_
        refine TL.nil ?_
        refine TN.seq ?_
        refine TC.seq ?_
        refine TC.mid (fun a' w' => ∃ v11_2 : Value, ∃ r11_6 : Value, ∃ v11_9 : Value, Slots 212 [(0, vcosts), (4, (.int .i64 (costs.length : Int))), (5, (.int .i64 ((costs.getD 0 []).length : Int))), (6, v4_2), (7, v4_5), (8, v5_2), (9, (.int .i64 (k9_1 : Int))), (10, (.int .i64 0)), (11, v11_2), (12, r11_6), (13, v11_9)] a' ∧ Hp w [rowB 4 v11_9 (List.replicate ((costs.getD 0 []).length + 1) false), rowI 3 r11_6 (F_slices_Repeat_Sint_int ([1152921504606846976]) (((costs.getD 0 []).length : Int) + 1)), rowI 3 v11_2 (List.replicate ((costs.getD 0 []).length + 1) (0 : Int)), rowI 3 v5_2 (m0_1.set 0 (k9_1 : Int)), rowI 3 v4_5 m1_1, rowI 3 v4_2 m2_1] w') ?_ ?_
        · refine TC.regionH 13 (Hp w [rowI 3 v5_2 (m0_1.set 0 (k9_1 : Int)), rowI 3 v4_5 m1_1, rowI 3 v4_2 m2_1]) rfl (by kernel_rfl) dr_hp (fun w hw => hw) ?_
          refine TH.take 0 rfl (by kernel_rfl) (y_move (ev_t rfl)) rfl rfl rfl ?_
          refine TH.take 1 rfl (by kernel_rfl) (y_add (ev_t rfl) ev_c (by unfold In64; constructor <;> omega)) rfl rfl rfl ?_
          refine TH.take 4 rfl (by kernel_rfl) (y_move (ev_t rfl)) rfl rfl rfl ?_
          refine TH.take 5 rfl (by kernel_rfl) (y_add (ev_t rfl) ev_c (by unfold In64; constructor <;> omega)) rfl rfl rfl ?_
          refine TH.take 7 rfl (by kernel_rfl) (y_move (ev_t rfl)) rfl rfl rfl ?_
          refine TH.take 8 rfl (by kernel_rfl) (y_add (ev_t rfl) ev_c (by unfold In64; constructor <;> omega)) rfl rfl rfl ?_
          refine TH.loud3 2 3 9 rfl rfl rfl (by kernel_rfl) ?_ ?_ ?_
          · refine TL.makeSlice (n := ((costs.getD 0 []).length + 1)) (ev_t rfl) (ev_t rfl) (by omega) slT_25 rfl (by omega) (by unfold maxLen; omega) rfl (fun v11_2 => ?_)
            refine TL.cls (fun w hw => hw.zeros) ?_
            refine TL.nil ?_
            refine TH.back (fun w hw => Hp.sublist hw (.cons _ (.cons_cons _ (.cons_cons _ (.cons_cons _ .slnil))))) ?_
            refine TH.loud2 3 9 rfl rfl (by kernel_rfl) ?_ ?_
            · refine TL.buildI (zs := [.const (.int .i64 1152921504606846976)]) (qs := [1152921504606846976]) slT_25 rfl ⟨ev_c, trivial⟩ rfl (by decide) rfl (fun v11_3 => ?_)
              refine TL.nil ?_
              refine TH.back (fun w hw => Hp.sublist hw (.cons _ (.cons _ (.cons_cons _ (.cons_cons _ (.cons_cons _ .slnil)))))) ?_
              refine TH.loud2 6 9 rfl rfl (by kernel_rfl) ?_ ?_
              · refine TL.callr (ι := Value) (vs := [v11_3, (.int .i64 (((costs.getD 0 []).length : Int) + 1))]) (fun i => i) (fun i => [rowI 3 i (F_slices_Repeat_Sint_int ([1152921504606846976]) (((costs.getD 0 []).length : Int) + 1))]) en_37 ⟨(ev_t rfl), (ev_t rfl), trivial⟩ rfl (fun w hw => slices_Repeat_Sint_int_ok w v11_3 ([1152921504606846976]) ((ri_row 0 rfl) w hw) (((costs.getD 0 []).length : Int) + 1) (by first | omega | rfl) (by first | omega | rfl) (by first | omega | rfl)) (fun r11_6 => ?_)
                refine TL.nil ?_
                refine TH.back (fun w hw => Hp.sublist hw (.cons _ (.cons _ (.cons _ (.cons_cons _ (.cons_cons _ (.cons_cons _ .slnil))))))) ?_
                refine TH.take 10 rfl (by kernel_rfl) (y_assign (ev_t rfl)) rfl rfl rfl ?_
                refine TH.take 11 rfl (by kernel_rfl) (y_assign (ev_t rfl)) rfl rfl rfl ?_
                refine TH.loud 9 rfl (by kernel_rfl) ?_
                refine TL.makeSlice (n := ((costs.getD 0 []).length + 1)) (ev_t rfl) (ev_t rfl) (by omega) slT_64 rfl (by omega) (by unfold maxLen; omega) rfl (fun v11_9 => ?_)
                refine TL.cls (fun w hw => hw.zerosB) ?_
                refine TL.nil ?_
                refine TH.back (fun w hw => Hp.sublist hw (.cons _ (.cons _ (.cons _ (.cons _ (.cons_cons _ (.cons_cons _ (.cons_cons _ .slnil)))))))) ?_
                refine TH.take 12 rfl (by kernel_rfl) (y_assign (ev_t rfl)) rfl rfl rfl ?_
                refine TH.done (by kernel_rfl) ?_
                exact fun a' w' hs hw => ⟨v11_2, r11_6, v11_9, hs.sub ⟨rfl, rfl, rfl, rfl, rfl, rfl, rfl, rfl, rfl, rfl, rfl, trivial⟩, Hp.sublist hw (.cons_cons _ (.cons_cons _ (.cons _ (.cons_cons _ (.cons_cons _ (.cons_cons _ (.cons_cons _ .slnil)))))))⟩
              · refine TL.makeSlice (n := ((costs.getD 0 []).length + 1)) (ev_t rfl) (ev_t rfl) (by omega) slT_64 rfl (by omega) (by unfold maxLen; omega) rfl (fun v11_9 => ?_)
                refine TL.cls (fun w hw => hw.zerosB) ?_
                refine TL.nil ?_
                refine TH.back (fun w hw => Hp.sublist hw (.cons _ (.cons _ (.cons _ (.cons_cons _ (.cons_cons _ (.cons_cons _ .slnil))))))) ?_
                refine TH.loud 6 rfl (by kernel_rfl) ?_
                refine TL.callr (ι := Value) (vs := [v11_3, (.int .i64 (((costs.getD 0 []).length : Int) + 1))]) (fun i => i) (fun i => [rowI 3 i (F_slices_Repeat_Sint_int ([1152921504606846976]) (((costs.getD 0 []).length : Int) + 1))]) en_37 ⟨(ev_t rfl), (ev_t rfl), trivial⟩ rfl (fun w hw => slices_Repeat_Sint_int_ok w v11_3 ([1152921504606846976]) ((ri_row 1 rfl) w hw) (((costs.getD 0 []).length : Int) + 1) (by first | omega | rfl) (by first | omega | rfl) (by first | omega | rfl)) (fun r11_6 => ?_)
                refine TL.nil ?_
                refine TH.back (fun w hw => Hp.sublist hw (.cons _ (.cons _ (.cons _ (.cons _ (.cons_cons _ (.cons_cons _ (.cons_cons _ .slnil)))))))) ?_
                refine TH.take 10 rfl (by kernel_rfl) (y_assign (ev_t rfl)) rfl rfl rfl ?_
                refine TH.take 11 rfl (by kernel_rfl) (y_assign (ev_t rfl)) rfl rfl rfl ?_
                refine TH.take 12 rfl (by kernel_rfl) (y_assign (ev_t rfl)) rfl rfl rfl ?_
                refine TH.done (by kernel_rfl) ?_
                exact fun a' w' hs hw => ⟨v11_2, r11_6, v11_9, hs.sub ⟨rfl, rfl, rfl, rfl, rfl, rfl, rfl, rfl, rfl, rfl, rfl, trivial⟩, Hp.picks [1, 0, 3, 4, 5, 6] (by decide) rfl hw⟩
            · refine TL.makeSlice (n := ((costs.getD 0 []).length + 1)) (ev_t rfl) (ev_t rfl) (by omega) slT_64 rfl (by omega) (by unfold maxLen; omega) rfl (fun v11_9 => ?_)
              refine TL.cls (fun w hw => hw.zerosB) ?_
              refine TL.nil ?_
              refine TH.back (fun w hw => Hp.sublist hw (.cons _ (.cons _ (.cons_cons _ (.cons_cons _ (.cons_cons _ .slnil)))))) ?_
              refine TH.loud 3 rfl (by kernel_rfl) ?_
              refine TL.buildI (zs := [.const (.int .i64 1152921504606846976)]) (qs := [1152921504606846976]) slT_25 rfl ⟨ev_c, trivial⟩ rfl (by decide) rfl (fun v11_3 => ?_)
              refine TL.nil ?_
              refine TH.back (fun w hw => Hp.sublist hw (.cons _ (.cons _ (.cons _ (.cons_cons _ (.cons_cons _ (.cons_cons _ .slnil))))))) ?_
              refine TH.loud 6 rfl (by kernel_rfl) ?_
              refine TL.callr (ι := Value) (vs := [v11_3, (.int .i64 (((costs.getD 0 []).length : Int) + 1))]) (fun i => i) (fun i => [rowI 3 i (F_slices_Repeat_Sint_int ([1152921504606846976]) (((costs.getD 0 []).length : Int) + 1))]) en_37 ⟨(ev_t rfl), (ev_t rfl), trivial⟩ rfl (fun w hw => slices_Repeat_Sint_int_ok w v11_3 ([1152921504606846976]) ((ri_row 0 rfl) w hw) (((costs.getD 0 []).length : Int) + 1) (by first | omega | rfl) (by first | omega | rfl) (by first | omega | rfl)) (fun r11_6 => ?_)
              refine TL.nil ?_
              refine TH.back (fun w hw => Hp.sublist hw (.cons _ (.cons _ (.cons _ (.cons _ (.cons_cons _ (.cons_cons _ (.cons_cons _ .slnil)))))))) ?_
              refine TH.take 10 rfl (by kernel_rfl) (y_assign (ev_t rfl)) rfl rfl rfl ?_
              refine TH.take 11 rfl (by kernel_rfl) (y_assign (ev_t rfl)) rfl rfl rfl ?_
              refine TH.take 12 rfl (by kernel_rfl) (y_assign (ev_t rfl)) rfl rfl rfl ?_
              refine TH.done (by kernel_rfl) ?_
              exact fun a' w' hs hw => ⟨v11_2, r11_6, v11_9, hs.sub ⟨rfl, rfl, rfl, rfl, rfl, rfl, rfl, rfl, rfl, rfl, rfl, trivial⟩, Hp.picks [2, 0, 3, 4, 5, 6] (by decide) rfl hw⟩
          · refine TL.buildI (zs := [.const (.int .i64 1152921504606846976)]) (qs := [1152921504606846976]) slT_25 rfl ⟨ev_c, trivial⟩ rfl (by decide) rfl (fun v11_3 => ?_)
            refine TL.nil ?_
            refine TH.back (fun w hw => Hp.sublist hw (.cons _ (.cons_cons _ (.cons_cons _ (.cons_cons _ .slnil))))) ?_
            refine TH.loud3 2 6 9 rfl rfl rfl (by kernel_rfl) ?_ ?_ ?_
            · refine TL.makeSlice (n := ((costs.getD 0 []).length + 1)) (ev_t rfl) (ev_t rfl) (by omega) slT_25 rfl (by omega) (by unfold maxLen; omega) rfl (fun v11_2 => ?_)
              refine TL.cls (fun w hw => hw.zeros) ?_
              refine TL.nil ?_
              refine TH.back (fun w hw => Hp.sublist hw (.cons _ (.cons _ (.cons_cons _ (.cons_cons _ (.cons_cons _ .slnil)))))) ?_
              refine TH.loud2 6 9 rfl rfl (by kernel_rfl) ?_ ?_
              · refine TL.callr (ι := Value) (vs := [v11_3, (.int .i64 (((costs.getD 0 []).length : Int) + 1))]) (fun i => i) (fun i => [rowI 3 i (F_slices_Repeat_Sint_int ([1152921504606846976]) (((costs.getD 0 []).length : Int) + 1))]) en_37 ⟨(ev_t rfl), (ev_t rfl), trivial⟩ rfl (fun w hw => slices_Repeat_Sint_int_ok w v11_3 ([1152921504606846976]) ((ri_row 1 rfl) w hw) (((costs.getD 0 []).length : Int) + 1) (by first | omega | rfl) (by first | omega | rfl) (by first | omega | rfl)) (fun r11_6 => ?_)
                refine TL.nil ?_
                refine TH.back (fun w hw => Hp.sublist hw (.cons _ (.cons _ (.cons _ (.cons_cons _ (.cons_cons _ (.cons_cons _ .slnil))))))) ?_
                refine TH.take 10 rfl (by kernel_rfl) (y_assign (ev_t rfl)) rfl rfl rfl ?_
                refine TH.take 11 rfl (by kernel_rfl) (y_assign (ev_t rfl)) rfl rfl rfl ?_
                refine TH.loud 9 rfl (by kernel_rfl) ?_
                refine TL.makeSlice (n := ((costs.getD 0 []).length + 1)) (ev_t rfl) (ev_t rfl) (by omega) slT_64 rfl (by omega) (by unfold maxLen; omega) rfl (fun v11_9 => ?_)
                refine TL.cls (fun w hw => hw.zerosB) ?_
                refine TL.nil ?_
                refine TH.back (fun w hw => Hp.sublist hw (.cons _ (.cons _ (.cons _ (.cons _ (.cons_cons _ (.cons_cons _ (.cons_cons _ .slnil)))))))) ?_
                refine TH.take 12 rfl (by kernel_rfl) (y_assign (ev_t rfl)) rfl rfl rfl ?_
                refine TH.done (by kernel_rfl) ?_
                exact fun a' w' hs hw => ⟨v11_2, r11_6, v11_9, hs.sub ⟨rfl, rfl, rfl, rfl, rfl, rfl, rfl, rfl, rfl, rfl, rfl, trivial⟩, Hp.sublist hw (.cons_cons _ (.cons_cons _ (.cons_cons _ (.cons _ (.cons_cons _ (.cons_cons _ (.cons_cons _ .slnil)))))))⟩
              · refine TL.makeSlice (n := ((costs.getD 0 []).length + 1)) (ev_t rfl) (ev_t rfl) (by omega) slT_64 rfl (by omega) (by unfold maxLen; omega) rfl (fun v11_9 => ?_)
                refine TL.cls (fun w hw => hw.zerosB) ?_
                refine TL.nil ?_
                refine TH.back (fun w hw => Hp.sublist hw (.cons _ (.cons _ (.cons _ (.cons_cons _ (.cons_cons _ (.cons_cons _ .slnil))))))) ?_
                refine TH.loud 6 rfl (by kernel_rfl) ?_
                refine TL.callr (ι := Value) (vs := [v11_3, (.int .i64 (((costs.getD 0 []).length : Int) + 1))]) (fun i => i) (fun i => [rowI 3 i (F_slices_Repeat_Sint_int ([1152921504606846976]) (((costs.getD 0 []).length : Int) + 1))]) en_37 ⟨(ev_t rfl), (ev_t rfl), trivial⟩ rfl (fun w hw => slices_Repeat_Sint_int_ok w v11_3 ([1152921504606846976]) ((ri_row 2 rfl) w hw) (((costs.getD 0 []).length : Int) + 1) (by first | omega | rfl) (by first | omega | rfl) (by first | omega | rfl)) (fun r11_6 => ?_)
                refine TL.nil ?_
                refine TH.back (fun w hw => Hp.sublist hw (.cons _ (.cons _ (.cons _ (.cons _ (.cons_cons _ (.cons_cons _ (.cons_cons _ .slnil)))))))) ?_
                refine TH.take 10 rfl (by kernel_rfl) (y_assign (ev_t rfl)) rfl rfl rfl ?_
                refine TH.take 11 rfl (by kernel_rfl) (y_assign (ev_t rfl)) rfl rfl rfl ?_
                refine TH.take 12 rfl (by kernel_rfl) (y_assign (ev_t rfl)) rfl rfl rfl ?_
                refine TH.done (by kernel_rfl) ?_
                exact fun a' w' hs hw => ⟨v11_2, r11_6, v11_9, hs.sub ⟨rfl, rfl, rfl, rfl, rfl, rfl, rfl, rfl, rfl, rfl, rfl, trivial⟩, Hp.picks [1, 0, 2, 4, 5, 6] (by decide) rfl hw⟩
            · refine TL.callr (ι := Value) (vs := [v11_3, (.int .i64 (((costs.getD 0 []).length : Int) + 1))]) (fun i => i) (fun i => [rowI 3 i (F_slices_Repeat_Sint_int ([1152921504606846976]) (((costs.getD 0 []).length : Int) + 1))]) en_37 ⟨(ev_t rfl), (ev_t rfl), trivial⟩ rfl (fun w hw => slices_Repeat_Sint_int_ok w v11_3 ([1152921504606846976]) ((ri_row 0 rfl) w hw) (((costs.getD 0 []).length : Int) + 1) (by first | omega | rfl) (by first | omega | rfl) (by first | omega | rfl)) (fun r11_6 => ?_)
              refine TL.nil ?_
              refine TH.back (fun w hw => Hp.sublist hw (.cons _ (.cons _ (.cons_cons _ (.cons_cons _ (.cons_cons _ .slnil)))))) ?_
              refine TH.loud2 2 9 rfl rfl (by kernel_rfl) ?_ ?_
              · refine TL.makeSlice (n := ((costs.getD 0 []).length + 1)) (ev_t rfl) (ev_t rfl) (by omega) slT_25 rfl (by omega) (by unfold maxLen; omega) rfl (fun v11_2 => ?_)
                refine TL.cls (fun w hw => hw.zeros) ?_
                refine TL.nil ?_
                refine TH.back (fun w hw => Hp.sublist hw (.cons _ (.cons _ (.cons _ (.cons_cons _ (.cons_cons _ (.cons_cons _ .slnil))))))) ?_
                refine TH.take 10 rfl (by kernel_rfl) (y_assign (ev_t rfl)) rfl rfl rfl ?_
                refine TH.take 11 rfl (by kernel_rfl) (y_assign (ev_t rfl)) rfl rfl rfl ?_
                refine TH.loud 9 rfl (by kernel_rfl) ?_
                refine TL.makeSlice (n := ((costs.getD 0 []).length + 1)) (ev_t rfl) (ev_t rfl) (by omega) slT_64 rfl (by omega) (by unfold maxLen; omega) rfl (fun v11_9 => ?_)
                refine TL.cls (fun w hw => hw.zerosB) ?_
                refine TL.nil ?_
                refine TH.back (fun w hw => Hp.sublist hw (.cons _ (.cons _ (.cons _ (.cons _ (.cons_cons _ (.cons_cons _ (.cons_cons _ .slnil)))))))) ?_
                refine TH.take 12 rfl (by kernel_rfl) (y_assign (ev_t rfl)) rfl rfl rfl ?_
                refine TH.done (by kernel_rfl) ?_
                exact fun a' w' hs hw => ⟨v11_2, r11_6, v11_9, hs.sub ⟨rfl, rfl, rfl, rfl, rfl, rfl, rfl, rfl, rfl, rfl, rfl, trivial⟩, Hp.picks [0, 2, 1, 4, 5, 6] (by decide) rfl hw⟩
              · refine TL.makeSlice (n := ((costs.getD 0 []).length + 1)) (ev_t rfl) (ev_t rfl) (by omega) slT_64 rfl (by omega) (by unfold maxLen; omega) rfl (fun v11_9 => ?_)
                refine TL.cls (fun w hw => hw.zerosB) ?_
                refine TL.nil ?_
                refine TH.back (fun w hw => Hp.sublist hw (.cons _ (.cons _ (.cons _ (.cons_cons _ (.cons_cons _ (.cons_cons _ .slnil))))))) ?_
                refine TH.loud 2 rfl (by kernel_rfl) ?_
                refine TL.makeSlice (n := ((costs.getD 0 []).length + 1)) (ev_t rfl) (ev_t rfl) (by omega) slT_25 rfl (by omega) (by unfold maxLen; omega) rfl (fun v11_2 => ?_)
                refine TL.cls (fun w hw => hw.zeros) ?_
                refine TL.nil ?_
                refine TH.back (fun w hw => Hp.sublist hw (.cons _ (.cons _ (.cons _ (.cons _ (.cons_cons _ (.cons_cons _ (.cons_cons _ .slnil)))))))) ?_
                refine TH.take 10 rfl (by kernel_rfl) (y_assign (ev_t rfl)) rfl rfl rfl ?_
                refine TH.take 11 rfl (by kernel_rfl) (y_assign (ev_t rfl)) rfl rfl rfl ?_
                refine TH.take 12 rfl (by kernel_rfl) (y_assign (ev_t rfl)) rfl rfl rfl ?_
                refine TH.done (by kernel_rfl) ?_
                exact fun a' w' hs hw => ⟨v11_2, r11_6, v11_9, hs.sub ⟨rfl, rfl, rfl, rfl, rfl, rfl, rfl, rfl, rfl, rfl, rfl, trivial⟩, Hp.picks [1, 2, 0, 4, 5, 6] (by decide) rfl hw⟩
            · refine TL.makeSlice (n := ((costs.getD 0 []).length + 1)) (ev_t rfl) (ev_t rfl) (by omega) slT_64 rfl (by omega) (by unfold maxLen; omega) rfl (fun v11_9 => ?_)
              refine TL.cls (fun w hw => hw.zerosB) ?_
              refine TL.nil ?_
              refine TH.back (fun w hw => Hp.sublist hw (.cons _ (.cons _ (.cons_cons _ (.cons_cons _ (.cons_cons _ .slnil)))))) ?_
              refine TH.loud2 2 6 rfl rfl (by kernel_rfl) ?_ ?_
              · refine TL.makeSlice (n := ((costs.getD 0 []).length + 1)) (ev_t rfl) (ev_t rfl) (by omega) slT_25 rfl (by omega) (by unfold maxLen; omega) rfl (fun v11_2 => ?_)
                refine TL.cls (fun w hw => hw.zeros) ?_
                refine TL.nil ?_
                refine TH.back (fun w hw => Hp.sublist hw (.cons _ (.cons _ (.cons _ (.cons_cons _ (.cons_cons _ (.cons_cons _ .slnil))))))) ?_
                refine TH.loud 6 rfl (by kernel_rfl) ?_
                refine TL.callr (ι := Value) (vs := [v11_3, (.int .i64 (((costs.getD 0 []).length : Int) + 1))]) (fun i => i) (fun i => [rowI 3 i (F_slices_Repeat_Sint_int ([1152921504606846976]) (((costs.getD 0 []).length : Int) + 1))]) en_37 ⟨(ev_t rfl), (ev_t rfl), trivial⟩ rfl (fun w hw => slices_Repeat_Sint_int_ok w v11_3 ([1152921504606846976]) ((ri_row 2 rfl) w hw) (((costs.getD 0 []).length : Int) + 1) (by first | omega | rfl) (by first | omega | rfl) (by first | omega | rfl)) (fun r11_6 => ?_)
                refine TL.nil ?_
                refine TH.back (fun w hw => Hp.sublist hw (.cons _ (.cons _ (.cons _ (.cons _ (.cons_cons _ (.cons_cons _ (.cons_cons _ .slnil)))))))) ?_
                refine TH.take 10 rfl (by kernel_rfl) (y_assign (ev_t rfl)) rfl rfl rfl ?_
                refine TH.take 11 rfl (by kernel_rfl) (y_assign (ev_t rfl)) rfl rfl rfl ?_
                refine TH.take 12 rfl (by kernel_rfl) (y_assign (ev_t rfl)) rfl rfl rfl ?_
                refine TH.done (by kernel_rfl) ?_
                exact fun a' w' hs hw => ⟨v11_2, r11_6, v11_9, hs.sub ⟨rfl, rfl, rfl, rfl, rfl, rfl, rfl, rfl, rfl, rfl, rfl, trivial⟩, Hp.picks [2, 0, 1, 4, 5, 6] (by decide) rfl hw⟩
              · refine TL.callr (ι := Value) (vs := [v11_3, (.int .i64 (((costs.getD 0 []).length : Int) + 1))]) (fun i => i) (fun i => [rowI 3 i (F_slices_Repeat_Sint_int ([1152921504606846976]) (((costs.getD 0 []).length : Int) + 1))]) en_37 ⟨(ev_t rfl), (ev_t rfl), trivial⟩ rfl (fun w hw => slices_Repeat_Sint_int_ok w v11_3 ([1152921504606846976]) ((ri_row 1 rfl) w hw) (((costs.getD 0 []).length : Int) + 1) (by first | omega | rfl) (by first | omega | rfl) (by first | omega | rfl)) (fun r11_6 => ?_)
                refine TL.nil ?_
                refine TH.back (fun w hw => Hp.sublist hw (.cons _ (.cons _ (.cons _ (.cons_cons _ (.cons_cons _ (.cons_cons _ .slnil))))))) ?_
                refine TH.loud 2 rfl (by kernel_rfl) ?_
                refine TL.makeSlice (n := ((costs.getD 0 []).length + 1)) (ev_t rfl) (ev_t rfl) (by omega) slT_25 rfl (by omega) (by unfold maxLen; omega) rfl (fun v11_2 => ?_)
                refine TL.cls (fun w hw => hw.zeros) ?_
                refine TL.nil ?_
                refine TH.back (fun w hw => Hp.sublist hw (.cons _ (.cons _ (.cons _ (.cons _ (.cons_cons _ (.cons_cons _ (.cons_cons _ .slnil)))))))) ?_
                refine TH.take 10 rfl (by kernel_rfl) (y_assign (ev_t rfl)) rfl rfl rfl ?_
                refine TH.take 11 rfl (by kernel_rfl) (y_assign (ev_t rfl)) rfl rfl rfl ?_
                refine TH.take 12 rfl (by kernel_rfl) (y_assign (ev_t rfl)) rfl rfl rfl ?_
                refine TH.done (by kernel_rfl) ?_
                exact fun a' w' hs hw => ⟨v11_2, r11_6, v11_9, hs.sub ⟨rfl, rfl, rfl, rfl, rfl, rfl, rfl, rfl, rfl, rfl, rfl, trivial⟩, Hp.picks [2, 1, 0, 4, 5, 6] (by decide) rfl hw⟩
          · refine TL.makeSlice (n := ((costs.getD 0 []).length + 1)) (ev_t rfl) (ev_t rfl) (by omega) slT_64 rfl (by omega) (by unfold maxLen; omega) rfl (fun v11_9 => ?_)
            refine TL.cls (fun w hw => hw.zerosB) ?_
            refine TL.nil ?_
            refine TH.back (fun w hw => Hp.sublist hw (.cons _ (.cons_cons _ (.cons_cons _ (.cons_cons _ .slnil))))) ?_
            refine TH.loud2 2 3 rfl rfl (by kernel_rfl) ?_ ?_
            · refine TL.makeSlice (n := ((costs.getD 0 []).length + 1)) (ev_t rfl) (ev_t rfl) (by omega) slT_25 rfl (by omega) (by unfold maxLen; omega) rfl (fun v11_2 => ?_)
              refine TL.cls (fun w hw => hw.zeros) ?_
              refine TL.nil ?_
              refine TH.back (fun w hw => Hp.sublist hw (.cons _ (.cons _ (.cons_cons _ (.cons_cons _ (.cons_cons _ .slnil)))))) ?_
              refine TH.loud 3 rfl (by kernel_rfl) ?_
              refine TL.buildI (zs := [.const (.int .i64 1152921504606846976)]) (qs := [1152921504606846976]) slT_25 rfl ⟨ev_c, trivial⟩ rfl (by decide) rfl (fun v11_3 => ?_)
              refine TL.nil ?_
              refine TH.back (fun w hw => Hp.sublist hw (.cons _ (.cons _ (.cons _ (.cons_cons _ (.cons_cons _ (.cons_cons _ .slnil))))))) ?_
              refine TH.loud 6 rfl (by kernel_rfl) ?_
              refine TL.callr (ι := Value) (vs := [v11_3, (.int .i64 (((costs.getD 0 []).length : Int) + 1))]) (fun i => i) (fun i => [rowI 3 i (F_slices_Repeat_Sint_int ([1152921504606846976]) (((costs.getD 0 []).length : Int) + 1))]) en_37 ⟨(ev_t rfl), (ev_t rfl), trivial⟩ rfl (fun w hw => slices_Repeat_Sint_int_ok w v11_3 ([1152921504606846976]) ((ri_row 0 rfl) w hw) (((costs.getD 0 []).length : Int) + 1) (by first | omega | rfl) (by first | omega | rfl) (by first | omega | rfl)) (fun r11_6 => ?_)
              refine TL.nil ?_
              refine TH.back (fun w hw => Hp.sublist hw (.cons _ (.cons _ (.cons _ (.cons _ (.cons_cons _ (.cons_cons _ (.cons_cons _ .slnil)))))))) ?_
              refine TH.take 10 rfl (by kernel_rfl) (y_assign (ev_t rfl)) rfl rfl rfl ?_
              refine TH.take 11 rfl (by kernel_rfl) (y_assign (ev_t rfl)) rfl rfl rfl ?_
              refine TH.take 12 rfl (by kernel_rfl) (y_assign (ev_t rfl)) rfl rfl rfl ?_
              refine TH.done (by kernel_rfl) ?_
              exact fun a' w' hs hw => ⟨v11_2, r11_6, v11_9, hs.sub ⟨rfl, rfl, rfl, rfl, rfl, rfl, rfl, rfl, rfl, rfl, rfl, trivial⟩, Hp.picks [3, 0, 2, 4, 5, 6] (by decide) rfl hw⟩
            · refine TL.buildI (zs := [.const (.int .i64 1152921504606846976)]) (qs := [1152921504606846976]) slT_25 rfl ⟨ev_c, trivial⟩ rfl (by decide) rfl (fun v11_3 => ?_)
              refine TL.nil ?_
              refine TH.back (fun w hw => Hp.sublist hw (.cons _ (.cons _ (.cons_cons _ (.cons_cons _ (.cons_cons _ .slnil)))))) ?_
              refine TH.loud2 2 6 rfl rfl (by kernel_rfl) ?_ ?_
              · refine TL.makeSlice (n := ((costs.getD 0 []).length + 1)) (ev_t rfl) (ev_t rfl) (by omega) slT_25 rfl (by omega) (by unfold maxLen; omega) rfl (fun v11_2 => ?_)
                refine TL.cls (fun w hw => hw.zeros) ?_
                refine TL.nil ?_
                refine TH.back (fun w hw => Hp.sublist hw (.cons _ (.cons _ (.cons _ (.cons_cons _ (.cons_cons _ (.cons_cons _ .slnil))))))) ?_
                refine TH.loud 6 rfl (by kernel_rfl) ?_
                refine TL.callr (ι := Value) (vs := [v11_3, (.int .i64 (((costs.getD 0 []).length : Int) + 1))]) (fun i => i) (fun i => [rowI 3 i (F_slices_Repeat_Sint_int ([1152921504606846976]) (((costs.getD 0 []).length : Int) + 1))]) en_37 ⟨(ev_t rfl), (ev_t rfl), trivial⟩ rfl (fun w hw => slices_Repeat_Sint_int_ok w v11_3 ([1152921504606846976]) ((ri_row 1 rfl) w hw) (((costs.getD 0 []).length : Int) + 1) (by first | omega | rfl) (by first | omega | rfl) (by first | omega | rfl)) (fun r11_6 => ?_)
                refine TL.nil ?_
                refine TH.back (fun w hw => Hp.sublist hw (.cons _ (.cons _ (.cons _ (.cons _ (.cons_cons _ (.cons_cons _ (.cons_cons _ .slnil)))))))) ?_
                refine TH.take 10 rfl (by kernel_rfl) (y_assign (ev_t rfl)) rfl rfl rfl ?_
                refine TH.take 11 rfl (by kernel_rfl) (y_assign (ev_t rfl)) rfl rfl rfl ?_
                refine TH.take 12 rfl (by kernel_rfl) (y_assign (ev_t rfl)) rfl rfl rfl ?_
                refine TH.done (by kernel_rfl) ?_
                exact fun a' w' hs hw => ⟨v11_2, r11_6, v11_9, hs.sub ⟨rfl, rfl, rfl, rfl, rfl, rfl, rfl, rfl, rfl, rfl, rfl, trivial⟩, Hp.picks [3, 0, 1, 4, 5, 6] (by decide) rfl hw⟩
              · refine TL.callr (ι := Value) (vs := [v11_3, (.int .i64 (((costs.getD 0 []).length : Int) + 1))]) (fun i => i) (fun i => [rowI 3 i (F_slices_Repeat_Sint_int ([1152921504606846976]) (((costs.getD 0 []).length : Int) + 1))]) en_37 ⟨(ev_t rfl), (ev_t rfl), trivial⟩ rfl (fun w hw => slices_Repeat_Sint_int_ok w v11_3 ([1152921504606846976]) ((ri_row 0 rfl) w hw) (((costs.getD 0 []).length : Int) + 1) (by first | omega | rfl) (by first | omega | rfl) (by first | omega | rfl)) (fun r11_6 => ?_)
                refine TL.nil ?_
                refine TH.back (fun w hw => Hp.sublist hw (.cons _ (.cons _ (.cons _ (.cons_cons _ (.cons_cons _ (.cons_cons _ .slnil))))))) ?_
                refine TH.loud 2 rfl (by kernel_rfl) ?_
                refine TL.makeSlice (n := ((costs.getD 0 []).length + 1)) (ev_t rfl) (ev_t rfl) (by omega) slT_25 rfl (by omega) (by unfold maxLen; omega) rfl (fun v11_2 => ?_)
                refine TL.cls (fun w hw => hw.zeros) ?_
                refine TL.nil ?_
                refine TH.back (fun w hw => Hp.sublist hw (.cons _ (.cons _ (.cons _ (.cons _ (.cons_cons _ (.cons_cons _ (.cons_cons _ .slnil)))))))) ?_
                refine TH.take 10 rfl (by kernel_rfl) (y_assign (ev_t rfl)) rfl rfl rfl ?_
                refine TH.take 11 rfl (by kernel_rfl) (y_assign (ev_t rfl)) rfl rfl rfl ?_
                refine TH.take 12 rfl (by kernel_rfl) (y_assign (ev_t rfl)) rfl rfl rfl ?_
                refine TH.done (by kernel_rfl) ?_
                exact fun a' w' hs hw => ⟨v11_2, r11_6, v11_9, hs.sub ⟨rfl, rfl, rfl, rfl, rfl, rfl, rfl, rfl, rfl, rfl, rfl, trivial⟩, Hp.picks [3, 1, 0, 4, 5, 6] (by decide) rfl hw⟩
        · rintro a' w' ⟨v11_2, r11_6, v11_9, hs', hw'⟩
          refine (?_ : TN _ .normal 212 (Hp w [rowB 4 v11_9 (List.replicate ((costs.getD 0 []).length + 1) false), rowI 3 r11_6 (F_slices_Repeat_Sint_int ([1152921504606846976]) (((costs.getD 0 []).length : Int) + 1)), rowI 3 v11_2 (List.replicate ((costs.getD 0 []).length + 1) (0 : Int)), rowI 3 v5_2 (m0_1.set 0 (k9_1 : Int)), rowI 3 v4_5 m1_1, rowI 3 v4_2 m2_1]) [(0, vcosts), (4, (.int .i64 (costs.length : Int))), (5, (.int .i64 ((costs.getD 0 []).length : Int))), (6, v4_2), (7, v4_5), (8, v5_2), (9, (.int .i64 (k9_1 : Int))), (10, (.int .i64 0)), (11, v11_2), (12, r11_6), (13, v11_9)]) a' w' hs' hw'
          clear hs' hw'
          refine TN.seq ?_
          refine TC.seq ?_
          refine TC.block ?_
          obtain ⟨c357, hc358⟩ : ∃ c, F_impl_assigned_L2 costs k9_1 m0_1 (((costs.getD 0 []).length + 1 - (List.replicate ((costs.getD 0 []).length + 1) false).countP id) + 1) (0, (List.replicate ((costs.getD 0 []).length + 1) false), (F_slices_Repeat_Sint_int ([1152921504606846976]) (((costs.getD 0 []).length : Int) + 1)), (List.replicate ((costs.getD 0 []).length + 1) (0 : Int)), m1_1, m2_1) = c := ⟨_, rfl⟩
          rw [hc358] at hL1
          refine TC.loop (ι := Nat × Nat × List Bool × List Int × List Int × List Int × List Int) (fun (fu2, k10_2, m0_2, m1_2, m2_2, m3_2, m4_2) => [(0, vcosts), (4, (.int .i64 (costs.length : Int))), (5, (.int .i64 ((costs.getD 0 []).length : Int))), (6, v4_2), (7, v4_5), (8, v5_2), (9, (.int .i64 (k9_1 : Int))), (10, (.int .i64 (k10_2 : Int))), (11, v11_2), (12, r11_6), (13, v11_9)]) (fun (fu2, k10_2, m0_2, m1_2, m2_2, m3_2, m4_2) => Hp w [rowB 4 v11_9 m0_2, rowI 3 r11_6 m1_2, rowI 3 v11_2 m2_2, rowI 3 v5_2 (m0_1.set 0 (k9_1 : Int)), rowI 3 v4_5 m3_2, rowI 3 v4_2 m4_2]) (fun (fu2, k10_2, m0_2, m1_2, m2_2, m3_2, m4_2) => (Th.Sr costs.length (costs.getD 0 []).length (hC costs) k9_1 (m0_1.set 0 (k9_1 : Int)) m4_2 m3_2 m0_2 m1_2 m2_2 k10_2) ∧ Hid ((costs.getD 0 []).length + 1 - m0_2.countP id < fu2) ∧ F_impl_assigned_L2 costs k9_1 m0_1 fu2 (k10_2, m0_2, m1_2, m2_2, m3_2, m4_2) = c357) (fun (fu2, k10_2, m0_2, m1_2, m2_2, m3_2, m4_2) => fu2) (((costs.getD 0 []).length + 1 - (List.replicate ((costs.getD 0 []).length + 1) false).countP id) + 1, 0, (List.replicate ((costs.getD 0 []).length + 1) false), (F_slices_Repeat_Sint_int ([1152921504606846976]) (((costs.getD 0 []).length : Int) + 1)), (List.replicate ((costs.getD 0 []).length + 1) (0 : Int)), m1_1, m2_1) ⟨(sr_init hi1_2 hi1_0 (by omega) hrep), (Nat.lt_succ_self _), hc358⟩ ⟨rfl, rfl, rfl, rfl, rfl, rfl, rfl, rfl, rfl, rfl, rfl, trivial⟩ (fun w hw => hw) ?_
          rintro ⟨fu2, k10_2, m0_2, m1_2, m2_2, m3_2, m4_2⟩ hJ2
          obtain ⟨hi2_0, hmu2, hL2⟩ : (Th.Sr costs.length (costs.getD 0 []).length (hC costs) k9_1 (m0_1.set 0 (k9_1 : Int)) m4_2 m3_2 m0_2 m1_2 m2_2 k10_2) ∧ Hid ((costs.getD 0 []).length + 1 - m0_2.countP id < fu2) ∧ F_impl_assigned_L2 costs k9_1 m0_1 fu2 (k10_2, m0_2, m1_2, m2_2, m3_2, m4_2) = c357 := hJ2
          change TC _ _ _ _ (Hp w [rowB 4 v11_9 m0_2, rowI 3 r11_6 m1_2, rowI 3 v11_2 m2_2, rowI 3 v5_2 (m0_1.set 0 (k9_1 : Int)), rowI 3 v4_5 m3_2, rowI 3 v4_2 m4_2]) [(0, vcosts), (4, (.int .i64 (costs.length : Int))), (5, (.int .i64 ((costs.getD 0 []).length : Int))), (6, v4_2), (7, v4_5), (8, v5_2), (9, (.int .i64 (k9_1 : Int))), (10, (.int .i64 (k10_2 : Int))), (11, v11_2), (12, r11_6), (13, v11_9)]
          obtain ⟨mf2, rfl⟩ := hid_pred hmu2
          rw [F_impl_assigned_L2_s] at hL2
          have hlus := hi2_0.lus
          have hlle := hi2_0.lle
          have hlwa := hi2_0.lwa
          have hatm := hi2_0.atm
          have hlu2 := hi2_0.inn.lu
          have hlv2 := hi2_0.inn.lv
          have hlr2 := hi2_0.inn.lr
          have hrow := sr_row hi2_0
          refine TC.block ?_
          refine TC.seq ?_
          refine TC.region ?_
          refine TL.op (yq (y_move (ev_t rfl))) rfl rfl rfl ?_
          refine TL.op (yq (y_move (ev_t rfl))) rfl rfl rfl ?_
          have hb359 : Hid (k10_2 < m0_2.length) := (ix hlus hatm)
          refine TL.op (yq (y_idx (k := k10_2) (ev_t rfl) (ev_t rfl) rfl slT_64 (rd_row 0 rfl) hb359)) rfl rfl rfl ?_
          refine TL.storeBo 0 (ev_t rfl) ev_c one_4 rfl hb359 ?_
          refine TL.nil ?_
          refine TN.seq ?_
          refine TC.seq ?_
          refine TC.region ?_
          refine TL.op (yq (y_move (ev_t rfl))) rfl rfl rfl ?_
          refine TL.op (yq (y_move (ev_t rfl))) rfl rfl rfl ?_
          have hb360 : Hid (k10_2 < (m0_1.set 0 (k9_1 : Int)).length) := (ix hlr2 hatm)
          refine TL.op (yq (y_idx (k := k10_2) (ev_t rfl) (ev_t rfl) rfl slT_25 (ri_row 3 rfl) hb360)) rfl rfl rfl ?_
          refine TL.op (yq (y_ldi (ev_t rfl) one_3 (ri_row 3 rfl) hb360)) rfl rfl rfl ?_
          refine TL.op (yq (y_assign (ev_t rfl))) rfl rfl rfl ?_
          refine TL.op (yq (y_assign ev_c)) rfl rfl rfl ?_
          refine TL.op (yq (y_assign ev_c)) rfl rfl rfl ?_
          refine TL.nil ?_
          refine TN.seq ?_
          refine TC.seq ?_
          refine TC.seq ?_
          refine TC.region ?_
          refine TL.op (yq (y_assign ev_c)) rfl rfl rfl ?_
          refine TL.nil ?_
          refine TN.seq ?_
          refine TC.block ?_
          obtain ⟨c361, hc362⟩ : ∃ c, F_impl_assigned_L3 costs k9_1 m0_1 k10_2 m0_2 m3_2 m4_2 (((costs.getD 0 []).length + 1 - 1) + 1) (1152921504606846976, 0, 1, m1_2, m2_2) = c := ⟨_, rfl⟩
          rw [hc362] at hL2
          refine TC.loop (ι := Nat × Int × Nat × Nat × List Int × List Int) (fun (fu3, k15_3, k16_3, k17_3, m0_3, m1_3) => [(0, vcosts), (4, (.int .i64 (costs.length : Int))), (5, (.int .i64 ((costs.getD 0 []).length : Int))), (6, v4_2), (7, v4_5), (8, v5_2), (9, (.int .i64 (k9_1 : Int))), (10, (.int .i64 (k10_2 : Int))), (11, v11_2), (12, r11_6), (13, v11_9), (14, (.int .i64 ((m0_1.set 0 (k9_1 : Int)).getD k10_2 0))), (15, (.int .i64 k15_3)), (16, (.int .i64 (k16_3 : Int))), (17, (.int .i64 (k17_3 : Int)))]) (fun (fu3, k15_3, k16_3, k17_3, m0_3, m1_3) => Hp w [rowB 4 v11_9 (m0_2.set k10_2 true), rowI 3 r11_6 m0_3, rowI 3 v11_2 m1_3, rowI 3 v5_2 (m0_1.set 0 (k9_1 : Int)), rowI 3 v4_5 m3_2, rowI 3 v4_2 m4_2]) (fun (fu3, k15_3, k16_3, k17_3, m0_3, m1_3) => (Th.Sc costs.length (costs.getD 0 []).length (hC costs) k9_1 (m0_1.set 0 (k9_1 : Int)) m4_2 m3_2 m0_2 m1_2 m2_2 k10_2 m0_3 m1_3 k17_3 k15_3 k16_3) ∧ Hid ((costs.getD 0 []).length + 1 - k17_3 < fu3) ∧ F_impl_assigned_L3 costs k9_1 m0_1 k10_2 m0_2 m3_2 m4_2 fu3 (k15_3, k16_3, k17_3, m0_3, m1_3) = c361) (fun (fu3, k15_3, k16_3, k17_3, m0_3, m1_3) => fu3) (((costs.getD 0 []).length + 1 - 1) + 1, 1152921504606846976, 0, 1, m1_2, m2_2) ⟨(Th.Sc.init hi2_0), (Nat.lt_succ_self _), hc362⟩ ⟨rfl, rfl, rfl, rfl, rfl, rfl, rfl, rfl, rfl, rfl, rfl, rfl, rfl, rfl, rfl, trivial⟩ (fun w hw => hw) ?_
          rintro ⟨fu3, k15_3, k16_3, k17_3, m0_3, m1_3⟩ hJ3
          obtain ⟨hi3_0, hmu3, hL3⟩ : (Th.Sc costs.length (costs.getD 0 []).length (hC costs) k9_1 (m0_1.set 0 (k9_1 : Int)) m4_2 m3_2 m0_2 m1_2 m2_2 k10_2 m0_3 m1_3 k17_3 k15_3 k16_3) ∧ Hid ((costs.getD 0 []).length + 1 - k17_3 < fu3) ∧ F_impl_assigned_L3 costs k9_1 m0_1 k10_2 m0_2 m3_2 m4_2 fu3 (k15_3, k16_3, k17_3, m0_3, m1_3) = c361 := hJ3
          change TC _ _ _ _ (Hp w [rowB 4 v11_9 (m0_2.set k10_2 true), rowI 3 r11_6 m0_3, rowI 3 v11_2 m1_3, rowI 3 v5_2 (m0_1.set 0 (k9_1 : Int)), rowI 3 v4_5 m3_2, rowI 3 v4_2 m4_2]) [(0, vcosts), (4, (.int .i64 (costs.length : Int))), (5, (.int .i64 ((costs.getD 0 []).length : Int))), (6, v4_2), (7, v4_5), (8, v5_2), (9, (.int .i64 (k9_1 : Int))), (10, (.int .i64 (k10_2 : Int))), (11, v11_2), (12, r11_6), (13, v11_9), (14, (.int .i64 ((m0_1.set 0 (k9_1 : Int)).getD k10_2 0))), (15, (.int .i64 k15_3)), (16, (.int .i64 (k16_3 : Int))), (17, (.int .i64 (k17_3 : Int)))]
          obtain ⟨mf3, rfl⟩ := hid_pred hmu3
          rw [F_impl_assigned_L3_s] at hL3
          have hll3 := hi3_0.lle
          have hlw3 := hi3_0.lwa
          have hj13 := hi3_0.j1
          have hrw3 := cs_row hp0 hrow
          have hce3 : Hid _ := hp0.el ((m0_1.set 0 (k9_1 : Int)).getD k10_2 0 - 1).toNat ((k17_3 : Int) - 1).toNat
          have hub3 := sr_ub hi2_0
          refine TC.seq ?_
          refine TC.seq ?_
          refine TC.region ?_
          refine TL.op (yq (y_move (ev_t rfl))) rfl rfl rfl ?_
          refine TL.op (yq (y_move (ev_t rfl))) rfl rfl rfl ?_
          refine TL.op (yq (y_leq (ev_t rfl) (ev_t rfl))) rfl rfl rfl ?_
          refine TL.nil ?_
          refine TN.seq ?_
          refine TC.cond (b := decide ((k17_3 : Int) ≤ ((costs.getD 0 []).length : Int))) (ev_t rfl) (fun h363 => ?_) (fun h363 => ?_)
          · rw [bif_pos h363] at hL3
            have q364 := (of_decide_eq_true h363)
            have hjle : k17_3 ≤ (costs.getD 0 []).length := Int.ofNat_le.1 q364
            have hvb3 : Hid _ := hi2_0.inn.vb k17_3 hj13 hjle
            refine TC.skip ?_
            refine TN.seq ?_
            refine TC.seq ?_
            refine TC.block ?_
            refine TC.seq ?_
            refine TC.seq ?_
            refine TC.region ?_
            refine TL.op (yq (y_move (ev_t rfl))) rfl rfl rfl ?_
            refine TL.op (yq (y_move (ev_t rfl))) rfl rfl rfl ?_
            have hb365 : Hid (k17_3 < (m0_2.set k10_2 true).length) := (ixs hlus hjle)
            refine TL.op (yq (y_idx (k := k17_3) (ev_t rfl) (ev_t rfl) rfl slT_64 (rd_row 0 rfl) hb365)) rfl rfl rfl ?_
            refine TL.op (yq (y_ldbo (ev_t rfl) one_4 (rd_row 0 rfl) hb365)) rfl rfl rfl ?_
            refine TL.nil ?_
            refine TN.seq ?_
            refine TC.cond (b := ((m0_2.set k10_2 true).getD k17_3 false)) (ev_t rfl) (fun h366 => ?_) (fun h366 => ?_)
            · rw [bif_pos h366] at hL3
              have q367 := h366
              have hst := hi3_0.skip hi2_0 hjle q367
              refine TC.exit ?_
              refine TN.thenE ?_
              refine TN.blockH ?_
              refine TN.seq ?_
              refine TC.region ?_
              refine TL.op (yq (y_move (ev_t rfl))) rfl rfl rfl ?_
              refine TL.op (yq (y_add (ev_t rfl) ev_c (in64_s hjle hnm3))) rfl rfl rfl ?_
              refine TL.op (yq (y_assign (ev_t rfl))) rfl rfl rfl ?_
              refine TL.nil ?_
              have hmu3b := Nat.sub_lt_sub_left (Nat.lt_succ_of_le hjle) (Nat.lt_succ_self k17_3)
              exact TN.hand (mf3, k15_3, k16_3, (k17_3 + 1), m0_3, m1_3) ⟨hst, (Nat.lt_of_lt_of_le hmu3b (Nat.le_of_lt_succ hmu3.out)), hL3⟩ (Nat.lt_succ_self _) ⟨rfl, rfl, rfl, rfl, rfl, rfl, rfl, rfl, rfl, rfl, rfl, rfl, rfl, rfl, rfl, trivial⟩ (fun w hw => hw)
            · rw [bif_neg h366] at hL3
              have q367 := h366
              have hnu := q367
              refine TC.skip ?_
              refine TN.seq ?_
              refine TC.seq ?_
              refine TC.seq ?_
              refine TC.regionQ (by kernel_rfl) (by kernel_rfl) dr_hp ?_
              refine TQ.op (yq (y_move (ev_t rfl))) rfl rfl rfl ?_
              refine TQ.op (yq (y_move (ev_t rfl))) rfl rfl rfl ?_
              refine TQ.op (yq (y_sub (ev_t rfl) ev_c (in64_x hrow hn61))) rfl rfl rfl ?_
              have hb368 : Hid ((((m0_1.set 0 (k9_1 : Int)).getD k10_2 0) - 1).toNat < costs.length) := (ix_x hrow)
              refine TQ.op (yq (y_idx (k := (((m0_1.set 0 (k9_1 : Int)).getD k10_2 0) - 1).toNat) (ev_t rfl) (ev_t rfl) (eq_x hrow) slT_22 (fun w hw => ((rii_arg hcosts) w hw).1) hb368)) rfl rfl rfl ?_
              have ha369 := hcosts.row (i := (((m0_1.set 0 (k9_1 : Int)).getD k10_2 0) - 1).toNat) hb368
              refine TQ.op (yq (y_ldA (ev_t rfl) one_25 (rii_arg hcosts) hb368)) rfl rfl rfl ?_
              refine TQ.op (yq (y_move (ev_t rfl))) rfl rfl rfl ?_
              refine TQ.op (yq (y_sub (ev_t rfl) ev_c (in64_p hjle hnm3))) rfl rfl rfl ?_
              have hb370 : Hid (((k17_3 : Int) - 1).toNat < (costs.getD ((((m0_1.set 0 (k9_1 : Int)).getD k10_2 0) - 1).toNat) []).length) := (ix_c hj13 hjle hrw3)
              refine TQ.op (yq (y_idx (k := ((k17_3 : Int) - 1).toNat) (ev_t rfl) (ev_t rfl) (eq_c hj13) slT_25 (ri_arg ha369) hb370)) rfl rfl rfl ?_
              refine TQ.op (yq (y_ldi (ev_t rfl) one_3 (ri_arg ha369) hb370)) rfl rfl rfl ?_
              refine TQ.op (yq (y_move (ev_t rfl))) rfl rfl rfl ?_
              refine TQ.op (yq (y_move (ev_t rfl))) rfl rfl rfl ?_
              have hb371 : Hid ((((m0_1.set 0 (k9_1 : Int)).getD k10_2 0)).toNat < m4_2.length) := (ix_u hrow hlu2)
              refine TQ.op (yq (y_idx (k := (((m0_1.set 0 (k9_1 : Int)).getD k10_2 0)).toNat) (ev_t rfl) (ev_t rfl) (eq_u hrow) slT_25 (ri_row 5 rfl) hb371)) rfl rfl rfl ?_
              refine TQ.op (yq (y_ldi (ev_t rfl) one_3 (ri_row 5 rfl) hb371)) rfl rfl rfl ?_
              refine TQ.op (yq (y_sub (ev_t rfl) (ev_t rfl) (in64_cu hce3 hub3 (by decide)))) rfl rfl rfl ?_
              refine TQ.op (yq (y_move (ev_t rfl))) rfl rfl rfl ?_
              refine TQ.op (yq (y_move (ev_t rfl))) rfl rfl rfl ?_
              have hb372 : Hid (k17_3 < m3_2.length) := (ix hlv2 hjle)
              refine TQ.op (yq (y_idx (k := k17_3) (ev_t rfl) (ev_t rfl) rfl slT_25 (ri_row 4 rfl) hb372)) rfl rfl rfl ?_
              refine TQ.op (yq (y_ldi (ev_t rfl) one_3 (ri_row 4 rfl) hb372)) rfl rfl rfl ?_
              refine TQ.op (yq (y_sub (ev_t rfl) (ev_t rfl) (in64_cuv hce3 hub3 hvb3 (by decide)))) rfl rfl rfl ?_
              refine TQ.op (yq (y_assign (ev_t rfl))) rfl rfl rfl ?_
              refine TQ.nil ?_
              refine TN.seq ?_
              refine TC.seq ?_
              refine TC.region ?_
              refine TL.op (yq (y_move (ev_t rfl))) rfl rfl rfl ?_
              refine TL.op (yq (y_move (ev_t rfl))) rfl rfl rfl ?_
              refine TL.op (yq (y_move (ev_t rfl))) rfl rfl rfl ?_
              have hb373 : Hid (k17_3 < m0_3.length) := (ix hll3 hjle)
              refine TL.op (yq (y_idx (k := k17_3) (ev_t rfl) (ev_t rfl) rfl slT_25 (ri_row 1 rfl) hb373)) rfl rfl rfl ?_
              refine TL.op (yq (y_ldi (ev_t rfl) one_3 (ri_row 1 rfl) hb373)) rfl rfl rfl ?_
              refine TL.op (yq (y_lss (ev_t rfl) (ev_t rfl))) rfl rfl rfl ?_
              refine TL.nil ?_
              refine TN.seq ?_
              refine TC.cond (b := decide ((((costs.getD ((((m0_1.set 0 (k9_1 : Int)).getD k10_2 0) - 1).toNat) []).getD (((k17_3 : Int) - 1).toNat) 0) - (m4_2.getD ((((m0_1.set 0 (k9_1 : Int)).getD k10_2 0)).toNat) 0)) - (m3_2.getD k17_3 0) < (m0_3.getD k17_3 0))) (ev_t rfl) (fun h374 => ?_) (fun h374 => ?_)
              · rw [bif_pos h374] at hL3
                have q375 := (of_decide_eq_true h374)
                have hq1 : Hid _ := q375
                replace h374 : Hid _ := h374
                replace q375 : Hid _ := q375
                refine TC.region ?_
                refine TL.op (yq (y_move (ev_t rfl))) rfl rfl rfl ?_
                refine TL.op (yq (y_move (ev_t rfl))) rfl rfl rfl ?_
                refine TL.op (yq (y_move (ev_t rfl))) rfl rfl rfl ?_
                refine TL.op (yq (y_move (ev_t rfl))) rfl rfl rfl ?_
                refine TL.op (yq (y_move (ev_t rfl))) rfl rfl rfl ?_
                refine TL.op (yq (y_move (ev_t rfl))) rfl rfl rfl ?_
                have hb376 : Hid (k17_3 < m0_3.length) := (ix hll3 hjle)
                refine TL.op (yq (y_idx (k := k17_3) (ev_t rfl) (ev_t rfl) rfl slT_25 (ri_row 1 rfl) hb376)) rfl rfl rfl ?_
                refine TL.storeI 1 (ev_t rfl) (ev_t rfl) one_3 rfl hb376 ?_
                have hb377 : Hid (k17_3 < m1_3.length) := (ix hlw3 hjle)
                refine TL.op (yq (y_idx (k := k17_3) (ev_t rfl) (ev_t rfl) rfl slT_25 (ri_row 2 rfl) hb377)) rfl rfl rfl ?_
                refine TL.storeI 2 (ev_t rfl) (ev_t rfl) one_3 rfl hb377 ?_
                refine TL.nil ?_
                refine TN.seq ?_
                refine TC.seq ?_
                refine TC.region ?_
                refine TL.op (yq (y_move (ev_t rfl))) rfl rfl rfl ?_
                refine TL.op (yq (y_move (ev_t rfl))) rfl rfl rfl ?_
                have hb378 : Hid (k17_3 < (m0_3.set k17_3 ((((costs.getD ((((m0_1.set 0 (k9_1 : Int)).getD k10_2 0) - 1).toNat) []).getD (((k17_3 : Int) - 1).toNat) 0) - (m4_2.getD ((((m0_1.set 0 (k9_1 : Int)).getD k10_2 0)).toNat) 0)) - (m3_2.getD k17_3 0))).length) := (by first | exact ix hll3 hjle | exact ixs hll3 hjle)
                refine TL.op (yq (y_idx (k := k17_3) (ev_t rfl) (ev_t rfl) rfl slT_25 (ri_row 1 rfl) hb378)) rfl rfl rfl ?_
                refine TL.op (yq (y_ldi (ev_t rfl) one_3 (ri_row 1 rfl) hb378)) rfl rfl rfl ?_
                refine TL.op (yq (y_move (ev_t rfl))) rfl rfl rfl ?_
                refine TL.op (yq (y_lss (ev_t rfl) (ev_t rfl))) rfl rfl rfl ?_
                refine TL.nil ?_
                refine TN.seq ?_
                refine TC.cond (b := decide (((m0_3.set k17_3 ((((costs.getD ((((m0_1.set 0 (k9_1 : Int)).getD k10_2 0) - 1).toNat) []).getD (((k17_3 : Int) - 1).toNat) 0) - (m4_2.getD ((((m0_1.set 0 (k9_1 : Int)).getD k10_2 0)).toNat) 0)) - (m3_2.getD k17_3 0))).getD k17_3 0) < k15_3)) (ev_t rfl) (fun h379 => ?_) (fun h379 => ?_)
                · rw [bif_pos h379] at hL3
                  have q380 := (of_decide_eq_true h379)
                  first | have hst := sc_tt hi2_0 hi3_0 hjle hnu hq1.out q380 | have hst := sc_ft hi2_0 hi3_0 hjle hnu hq2.out q380
                  replace h379 : Hid _ := h379
                  replace q380 : Hid _ := q380
                  refine TC.region ?_
                  refine TL.op (yq (y_move (ev_t rfl))) rfl rfl rfl ?_
                  refine TL.op (yq (y_move (ev_t rfl))) rfl rfl rfl ?_
                  have hb381 : Hid (k17_3 < (m0_3.set k17_3 ((((costs.getD ((((m0_1.set 0 (k9_1 : Int)).getD k10_2 0) - 1).toNat) []).getD (((k17_3 : Int) - 1).toNat) 0) - (m4_2.getD ((((m0_1.set 0 (k9_1 : Int)).getD k10_2 0)).toNat) 0)) - (m3_2.getD k17_3 0))).length) := (by first | exact ix hll3 hjle | exact ixs hll3 hjle)
                  refine TL.op (yq (y_idx (k := k17_3) (ev_t rfl) (ev_t rfl) rfl slT_25 (ri_row 1 rfl) hb381)) rfl rfl rfl ?_
                  refine TL.op (yq (y_ldi (ev_t rfl) one_3 (ri_row 1 rfl) hb381)) rfl rfl rfl ?_
                  refine TL.op (yq (y_move (ev_t rfl))) rfl rfl rfl ?_
                  refine TL.op (yq (y_assign (ev_t rfl))) rfl rfl rfl ?_
                  refine TL.op (yq (y_assign (ev_t rfl))) rfl rfl rfl ?_
                  refine TL.nil ?_
                  refine TN.blockN ?_
                  refine TN.seq ?_
                  refine TC.region ?_
                  refine TL.op (yq (y_move (ev_t rfl))) rfl rfl rfl ?_
                  refine TL.op (yq (y_add (ev_t rfl) ev_c (in64_s hjle hnm3))) rfl rfl rfl ?_
                  refine TL.op (yq (y_assign (ev_t rfl))) rfl rfl rfl ?_
                  refine TL.nil ?_
                  have hmu3b := Nat.sub_lt_sub_left (Nat.lt_succ_of_le hjle) (Nat.lt_succ_self k17_3)
                  exact TN.hand (mf3, ((m0_3.set k17_3 ((((costs.getD ((((m0_1.set 0 (k9_1 : Int)).getD k10_2 0) - 1).toNat) []).getD (((k17_3 : Int) - 1).toNat) 0) - (m4_2.getD ((((m0_1.set 0 (k9_1 : Int)).getD k10_2 0)).toNat) 0)) - (m3_2.getD k17_3 0))).getD k17_3 0), k17_3, (k17_3 + 1), (m0_3.set k17_3 ((((costs.getD ((((m0_1.set 0 (k9_1 : Int)).getD k10_2 0) - 1).toNat) []).getD (((k17_3 : Int) - 1).toNat) 0) - (m4_2.getD ((((m0_1.set 0 (k9_1 : Int)).getD k10_2 0)).toNat) 0)) - (m3_2.getD k17_3 0))), (m1_3.set k17_3 (k10_2 : Int))) ⟨hst, (Nat.lt_of_lt_of_le hmu3b (Nat.le_of_lt_succ hmu3.out)), hL3⟩ (Nat.lt_succ_self _) ⟨rfl, rfl, rfl, rfl, rfl, rfl, rfl, rfl, rfl, rfl, rfl, rfl, rfl, rfl, rfl, trivial⟩ (fun w hw => hw)
                · rw [bif_neg h379] at hL3
                  have q380 := (of_decide_eq_false h379)
                  first | have hst := sc_tf hi2_0 hi3_0 hjle hnu hq1.out q380 | have hst := sc_ff hi2_0 hi3_0 hjle hnu hq2.out q380
                  replace h379 : Hid _ := h379
                  replace q380 : Hid _ := q380
                  refine TC.skip ?_
                  refine TN.blockN ?_
                  refine TN.seq ?_
                  refine TC.region ?_
                  refine TL.op (yq (y_move (ev_t rfl))) rfl rfl rfl ?_
                  refine TL.op (yq (y_add (ev_t rfl) ev_c (in64_s hjle hnm3))) rfl rfl rfl ?_
                  refine TL.op (yq (y_assign (ev_t rfl))) rfl rfl rfl ?_
                  refine TL.nil ?_
                  have hmu3b := Nat.sub_lt_sub_left (Nat.lt_succ_of_le hjle) (Nat.lt_succ_self k17_3)
                  exact TN.hand (mf3, k15_3, k16_3, (k17_3 + 1), (m0_3.set k17_3 ((((costs.getD ((((m0_1.set 0 (k9_1 : Int)).getD k10_2 0) - 1).toNat) []).getD (((k17_3 : Int) - 1).toNat) 0) - (m4_2.getD ((((m0_1.set 0 (k9_1 : Int)).getD k10_2 0)).toNat) 0)) - (m3_2.getD k17_3 0))), (m1_3.set k17_3 (k10_2 : Int))) ⟨hst, (Nat.lt_of_lt_of_le hmu3b (Nat.le_of_lt_succ hmu3.out)), hL3⟩ (Nat.lt_succ_self _) ⟨rfl, rfl, rfl, rfl, rfl, rfl, rfl, rfl, rfl, rfl, rfl, rfl, rfl, rfl, rfl, trivial⟩ (fun w hw => hw)
              · rw [bif_neg h374] at hL3
                have q375 := (of_decide_eq_false h374)
                have hq2 : Hid _ := q375
                replace h374 : Hid _ := h374
                replace q375 : Hid _ := q375
                refine TC.skip ?_
                refine TN.seq ?_
                refine TC.seq ?_
                refine TC.region ?_
                refine TL.op (yq (y_move (ev_t rfl))) rfl rfl rfl ?_
                refine TL.op (yq (y_move (ev_t rfl))) rfl rfl rfl ?_
                have hb382 : Hid (k17_3 < m0_3.length) := (by first | exact ix hll3 hjle | exact ixs hll3 hjle)
                refine TL.op (yq (y_idx (k := k17_3) (ev_t rfl) (ev_t rfl) rfl slT_25 (ri_row 1 rfl) hb382)) rfl rfl rfl ?_
                refine TL.op (yq (y_ldi (ev_t rfl) one_3 (ri_row 1 rfl) hb382)) rfl rfl rfl ?_
                refine TL.op (yq (y_move (ev_t rfl))) rfl rfl rfl ?_
                refine TL.op (yq (y_lss (ev_t rfl) (ev_t rfl))) rfl rfl rfl ?_
                refine TL.nil ?_
                refine TN.seq ?_
                refine TC.cond (b := decide ((m0_3.getD k17_3 0) < k15_3)) (ev_t rfl) (fun h383 => ?_) (fun h383 => ?_)
                · rw [bif_pos h383] at hL3
                  have q384 := (of_decide_eq_true h383)
                  first | have hst := sc_tt hi2_0 hi3_0 hjle hnu hq1.out q384 | have hst := sc_ft hi2_0 hi3_0 hjle hnu hq2.out q384
                  replace h383 : Hid _ := h383
                  replace q384 : Hid _ := q384
                  refine TC.region ?_
                  refine TL.op (yq (y_move (ev_t rfl))) rfl rfl rfl ?_
                  refine TL.op (yq (y_move (ev_t rfl))) rfl rfl rfl ?_
                  have hb385 : Hid (k17_3 < m0_3.length) := (by first | exact ix hll3 hjle | exact ixs hll3 hjle)
                  refine TL.op (yq (y_idx (k := k17_3) (ev_t rfl) (ev_t rfl) rfl slT_25 (ri_row 1 rfl) hb385)) rfl rfl rfl ?_
                  refine TL.op (yq (y_ldi (ev_t rfl) one_3 (ri_row 1 rfl) hb385)) rfl rfl rfl ?_
                  refine TL.op (yq (y_move (ev_t rfl))) rfl rfl rfl ?_
                  refine TL.op (yq (y_assign (ev_t rfl))) rfl rfl rfl ?_
                  refine TL.op (yq (y_assign (ev_t rfl))) rfl rfl rfl ?_
                  refine TL.nil ?_
                  refine TN.blockN ?_
                  refine TN.seq ?_
                  refine TC.region ?_
                  refine TL.op (yq (y_move (ev_t rfl))) rfl rfl rfl ?_
                  refine TL.op (yq (y_add (ev_t rfl) ev_c (in64_s hjle hnm3))) rfl rfl rfl ?_
                  refine TL.op (yq (y_assign (ev_t rfl))) rfl rfl rfl ?_
                  refine TL.nil ?_
                  have hmu3b := Nat.sub_lt_sub_left (Nat.lt_succ_of_le hjle) (Nat.lt_succ_self k17_3)
                  exact TN.hand (mf3, (m0_3.getD k17_3 0), k17_3, (k17_3 + 1), m0_3, m1_3) ⟨hst, (Nat.lt_of_lt_of_le hmu3b (Nat.le_of_lt_succ hmu3.out)), hL3⟩ (Nat.lt_succ_self _) ⟨rfl, rfl, rfl, rfl, rfl, rfl, rfl, rfl, rfl, rfl, rfl, rfl, rfl, rfl, rfl, trivial⟩ (fun w hw => hw)
                · rw [bif_neg h383] at hL3
                  have q384 := (of_decide_eq_false h383)
                  first | have hst := sc_tf hi2_0 hi3_0 hjle hnu hq1.out q384 | have hst := sc_ff hi2_0 hi3_0 hjle hnu hq2.out q384
                  replace h383 : Hid _ := h383
                  replace q384 : Hid _ := q384
                  refine TC.skip ?_
                  refine TN.blockN ?_
                  refine TN.seq ?_
                  refine TC.region ?_
                  refine TL.op (yq (y_move (ev_t rfl))) rfl rfl rfl ?_
                  refine TL.op (yq (y_add (ev_t rfl) ev_c (in64_s hjle hnm3))) rfl rfl rfl ?_
                  refine TL.op (yq (y_assign (ev_t rfl))) rfl rfl rfl ?_
                  refine TL.nil ?_
                  have hmu3b := Nat.sub_lt_sub_left (Nat.lt_succ_of_le hjle) (Nat.lt_succ_self k17_3)
                  exact TN.hand (mf3, k15_3, k16_3, (k17_3 + 1), m0_3, m1_3) ⟨hst, (Nat.lt_of_lt_of_le hmu3b (Nat.le_of_lt_succ hmu3.out)), hL3⟩ (Nat.lt_succ_self _) ⟨rfl, rfl, rfl, rfl, rfl, rfl, rfl, rfl, rfl, rfl, rfl, rfl, rfl, rfl, rfl, trivial⟩ (fun w hw => hw)
          · rw [bif_neg h363] at hL3
            have q364 := (of_decide_eq_false h363)
            have hjgt : (costs.getD 0 []).length < k17_3 := Int.ofNat_lt.1 (Int.not_le.1 q364)
            refine TC.exit ?_
            refine TN.thenE ?_
            refine TN.thenE ?_
            rw [← hL3, elim_next] at hL2
            try dsimp only at hL2
            have hsa := hi3_0.all hi2_0 hjgt
            have hsa2 := hsa.2.1
            have hsa3 := hsa.2.2.2.2.1
            have hsa4 := hsa.2.2.2.2.2.1
            refine TN.blockH ?_
            refine TN.seq ?_
            refine TC.seq ?_
            refine TC.seq ?_
            refine TC.region ?_
            refine TL.op (yq (y_move (ev_t rfl))) rfl rfl rfl ?_
            refine TL.op (yq (y_len (ev_t rfl) Try.underlying64 (fun w hw => ((rd_row 0 rfl) w hw).ln))) rfl rfl rfl ?_
            refine TL.op (yq (y_move ev_c)) rfl rfl rfl ?_
            refine TL.nil ?_
            refine TN.seq ?_
            refine TC.block ?_
            obtain ⟨c386, hc387⟩ : ∃ c, F_impl_assigned_L4 k9_1 m0_1 k10_2 m0_2 k15_3 ((((m0_2.set k10_2 true).length) - 0) + 1) (0, m3_2, m4_2, m0_3) = c := ⟨_, rfl⟩
            rw [hc387] at hL2
            refine TC.loop (ι := Nat × Nat × List Int × List Int × List Int) (fun (fu4, k121_4, m0_4, m1_4, m2_4) => [(0, vcosts), (4, (.int .i64 (costs.length : Int))), (5, (.int .i64 ((costs.getD 0 []).length : Int))), (6, v4_2), (7, v4_5), (8, v5_2), (9, (.int .i64 (k9_1 : Int))), (11, v11_2), (12, r11_6), (13, v11_9), (15, (.int .i64 k15_3)), (16, (.int .i64 (k16_3 : Int))), (120, (.int .i64 ((m0_2.set k10_2 true).length : Int))), (121, (.int .i64 (k121_4 : Int)))]) (fun (fu4, k121_4, m0_4, m1_4, m2_4) => Hp w [rowB 4 v11_9 (m0_2.set k10_2 true), rowI 3 r11_6 m2_4, rowI 3 v11_2 m1_3, rowI 3 v5_2 (m0_1.set 0 (k9_1 : Int)), rowI 3 v4_5 m0_4, rowI 3 v4_2 m1_4]) (fun (fu4, k121_4, m0_4, m1_4, m2_4) => (k121_4 ≤ ((m0_2.set k10_2 true).length)) ∧ (Th.Up costs.length (costs.getD 0 []).length (m0_1.set 0 (k9_1 : Int)) (m0_2.set k10_2 true) k15_3 m4_2 m3_2 m0_3 k121_4 m1_4 m0_4 m2_4) ∧ Hid (((m0_2.set k10_2 true).length) - k121_4 < fu4) ∧ F_impl_assigned_L4 k9_1 m0_1 k10_2 m0_2 k15_3 fu4 (k121_4, m0_4, m1_4, m2_4) = c386) (fun (fu4, k121_4, m0_4, m1_4, m2_4) => fu4) ((((m0_2.set k10_2 true).length) - 0) + 1, 0, m3_2, m4_2, m0_3) ⟨(Nat.zero_le _), (Th.Up.init hlu2 hlv2 hi3_0.lle), (Nat.lt_succ_self _), hc387⟩ ⟨rfl, rfl, rfl, rfl, rfl, rfl, rfl, rfl, rfl, rfl, rfl, rfl, rfl, rfl, trivial⟩ (fun w hw => hw) ?_
            rintro ⟨fu4, k121_4, m0_4, m1_4, m2_4⟩ hJ4
            obtain ⟨hi4_0, hi4_1, hmu4, hL4⟩ : (k121_4 ≤ ((m0_2.set k10_2 true).length)) ∧ (Th.Up costs.length (costs.getD 0 []).length (m0_1.set 0 (k9_1 : Int)) (m0_2.set k10_2 true) k15_3 m4_2 m3_2 m0_3 k121_4 m1_4 m0_4 m2_4) ∧ Hid (((m0_2.set k10_2 true).length) - k121_4 < fu4) ∧ F_impl_assigned_L4 k9_1 m0_1 k10_2 m0_2 k15_3 fu4 (k121_4, m0_4, m1_4, m2_4) = c386 := hJ4
            change TC _ _ _ _ (Hp w [rowB 4 v11_9 (m0_2.set k10_2 true), rowI 3 r11_6 m2_4, rowI 3 v11_2 m1_3, rowI 3 v5_2 (m0_1.set 0 (k9_1 : Int)), rowI 3 v4_5 m0_4, rowI 3 v4_2 m1_4]) [(0, vcosts), (4, (.int .i64 (costs.length : Int))), (5, (.int .i64 ((costs.getD 0 []).length : Int))), (6, v4_2), (7, v4_5), (8, v5_2), (9, (.int .i64 (k9_1 : Int))), (11, v11_2), (12, r11_6), (13, v11_9), (15, (.int .i64 k15_3)), (16, (.int .i64 (k16_3 : Int))), (120, (.int .i64 ((m0_2.set k10_2 true).length : Int))), (121, (.int .i64 (k121_4 : Int)))]
            obtain ⟨mf4, rfl⟩ := hid_pred hmu4
            rw [F_impl_assigned_L4_s] at hL4
            have hlu4 := hi4_1.lu
            have hlv4 := hi4_1.lv
            have hll4 := hi4_1.ll
            refine TC.seq ?_
            refine TC.region ?_
            refine TL.op (yq (y_lss (ev_t rfl) (ev_t rfl))) rfl rfl rfl ?_
            refine TL.nil ?_
            refine TN.seq ?_
            refine TC.seq ?_
            refine TC.cond (b := decide ((k121_4 : Int) < ((m0_2.set k10_2 true).length : Int))) (ev_t rfl) (fun h388 => ?_) (fun h388 => ?_)
            · rw [bif_pos h388] at hL4
              have q389 := (of_decide_eq_true h388)
              have hj4l : k121_4 < (m0_2.set k10_2 true).length := Int.ofNat_lt.1 q389
              have hj4 : k121_4 ≤ (costs.getD 0 []).length := Nat.le_of_lt_succ (by rw [List.length_set, hlus] at hj4l; exact hj4l)
              refine TC.skip ?_
              refine TN.seq ?_
              refine TC.seq ?_
              refine TC.block ?_
              refine TC.seq ?_
              refine TC.region ?_
              refine TL.op (yq (y_move (ev_t rfl))) rfl rfl rfl ?_
              refine TL.op (yq (y_assign (ev_t rfl))) rfl rfl rfl ?_
              refine TL.nil ?_
              refine TN.seq ?_
              refine TC.seq ?_
              refine TC.region ?_
              refine TL.op (yq (y_move (ev_t rfl))) rfl rfl rfl ?_
              refine TL.op (yq (y_move (ev_t rfl))) rfl rfl rfl ?_
              have hb390 : Hid (k121_4 < (m0_2.set k10_2 true).length) := (ixs hlus hj4)
              refine TL.op (yq (y_idx (k := k121_4) (ev_t rfl) (ev_t rfl) rfl slT_64 (rd_row 0 rfl) hb390)) rfl rfl rfl ?_
              refine TL.op (yq (y_ldbo (ev_t rfl) one_4 (rd_row 0 rfl) hb390)) rfl rfl rfl ?_
              refine TL.nil ?_
              refine TN.seq ?_
              refine TC.cond (b := ((m0_2.set k10_2 true).getD k121_4 false)) (ev_t rfl) (fun h391 => ?_) (fun h391 => ?_)
              · rw [bif_pos h391] at hL4
                have q392 := h391
                have hup := up_yes hi2_0 hi4_1 hj4 q392
                have hyb := up_bd hi2_0 hi4_1 hsa3 hsa4 hj4 q392
                obtain ⟨hyb1, hyb2, hyb3⟩ := hyb
                refine TC.seq ?_
                refine TC.region ?_
                refine TL.op (yq (y_move (ev_t rfl))) rfl rfl rfl ?_
                refine TL.op (yq (y_move (ev_t rfl))) rfl rfl rfl ?_
                refine TL.op (yq (y_move (ev_t rfl))) rfl rfl rfl ?_
                have hb393 : Hid (k121_4 < (m0_1.set 0 (k9_1 : Int)).length) := (ix hlr2 hj4)
                refine TL.op (yq (y_idx (k := k121_4) (ev_t rfl) (ev_t rfl) rfl slT_25 (ri_row 3 rfl) hb393)) rfl rfl rfl ?_
                refine TL.op (yq (y_ldi (ev_t rfl) one_3 (ri_row 3 rfl) hb393)) rfl rfl rfl ?_
                have hb394 : Hid ((((m0_1.set 0 (k9_1 : Int)).getD k121_4 0)).toNat < m1_4.length) := (ix_u hyb1 hlu4)
                refine TL.op (yq (y_idx (k := (((m0_1.set 0 (k9_1 : Int)).getD k121_4 0)).toNat) (ev_t rfl) (ev_t rfl) (eq_u hyb1) slT_25 (ri_row 5 rfl) hb394)) rfl rfl rfl ?_
                refine TL.op (yq (y_ldi (ev_t rfl) one_3 (ri_row 5 rfl) hb394)) rfl rfl rfl ?_
                refine TL.op (yq (y_move (ev_t rfl))) rfl rfl rfl ?_
                refine TL.op (yq (y_add (ev_t rfl) (ev_t rfl) (in64_ad hyb2 hsa3 hsa4 (by decide)))) rfl rfl rfl ?_
                have hb395 : Hid ((((m0_1.set 0 (k9_1 : Int)).getD k121_4 0)).toNat < m1_4.length) := (ix_u hyb1 hlu4)
                refine TL.op (yq (y_idx (k := (((m0_1.set 0 (k9_1 : Int)).getD k121_4 0)).toNat) (ev_t rfl) (ev_t rfl) (eq_u hyb1) slT_25 (ri_row 5 rfl) hb395)) rfl rfl rfl ?_
                refine TL.storeI 5 (ev_t rfl) (ev_t rfl) one_3 rfl hb395 ?_
                refine TL.nil ?_
                refine TN.seq ?_
                refine TC.region ?_
                refine TL.op (yq (y_move (ev_t rfl))) rfl rfl rfl ?_
                refine TL.op (yq (y_move (ev_t rfl))) rfl rfl rfl ?_
                have hb396 : Hid (k121_4 < m0_4.length) := (ix hlv4 hj4)
                refine TL.op (yq (y_idx (k := k121_4) (ev_t rfl) (ev_t rfl) rfl slT_25 (ri_row 4 rfl) hb396)) rfl rfl rfl ?_
                refine TL.op (yq (y_ldi (ev_t rfl) one_3 (ri_row 4 rfl) hb396)) rfl rfl rfl ?_
                refine TL.op (yq (y_move (ev_t rfl))) rfl rfl rfl ?_
                refine TL.op (yq (y_sub (ev_t rfl) (ev_t rfl) (in64_sb hyb3 hsa3 hsa4 (by decide)))) rfl rfl rfl ?_
                have hb397 : Hid (k121_4 < m0_4.length) := (ix hlv4 hj4)
                refine TL.op (yq (y_idx (k := k121_4) (ev_t rfl) (ev_t rfl) rfl slT_25 (ri_row 4 rfl) hb397)) rfl rfl rfl ?_
                refine TL.storeI 4 (ev_t rfl) (ev_t rfl) one_3 rfl hb397 ?_
                refine TL.nil ?_
                refine TN.blockN ?_
                refine TN.seq ?_
                refine TC.region ?_
                refine TL.op (yq (y_add (ev_t rfl) ev_c (in64_s hj4 hnm3))) rfl rfl rfl ?_
                refine TL.op (yq (y_move (ev_t rfl))) rfl rfl rfl ?_
                refine TL.nil ?_
                have hmu4b := Nat.sub_lt_sub_left hj4l (Nat.lt_succ_self k121_4)
                exact TN.hand (mf4, (k121_4 + 1), (m0_4.set k121_4 ((m0_4.getD k121_4 0) - k15_3)), (m1_4.set ((((m0_1.set 0 (k9_1 : Int)).getD k121_4 0)).toNat) ((m1_4.getD ((((m0_1.set 0 (k9_1 : Int)).getD k121_4 0)).toNat) 0) + k15_3)), m2_4) ⟨hj4l, hup, (Nat.lt_of_lt_of_le hmu4b (Nat.le_of_lt_succ hmu4.out)), hL4⟩ (Nat.lt_succ_self _) ⟨rfl, rfl, rfl, rfl, rfl, rfl, rfl, rfl, rfl, rfl, rfl, rfl, rfl, rfl, trivial⟩ (fun w hw => hw)
              · rw [bif_neg h391] at hL4
                have q392 := h391
                have hup := hi4_1.no hj4 q392
                have hyb4 := up_bd2 hi2_0 hi4_1 hsa3 hsa4 hsa.2.2.2.2.2.2.1 hj4 q392
                refine TC.region ?_
                refine TL.op (yq (y_move (ev_t rfl))) rfl rfl rfl ?_
                refine TL.op (yq (y_move (ev_t rfl))) rfl rfl rfl ?_
                have hb398 : Hid (k121_4 < m2_4.length) := (ix hll4 hj4)
                refine TL.op (yq (y_idx (k := k121_4) (ev_t rfl) (ev_t rfl) rfl slT_25 (ri_row 1 rfl) hb398)) rfl rfl rfl ?_
                refine TL.op (yq (y_ldi (ev_t rfl) one_3 (ri_row 1 rfl) hb398)) rfl rfl rfl ?_
                refine TL.op (yq (y_move (ev_t rfl))) rfl rfl rfl ?_
                refine TL.op (yq (y_sub (ev_t rfl) (ev_t rfl) (in64_sb hyb4 hsa3 hsa4 (by decide)))) rfl rfl rfl ?_
                have hb399 : Hid (k121_4 < m2_4.length) := (ix hll4 hj4)
                refine TL.op (yq (y_idx (k := k121_4) (ev_t rfl) (ev_t rfl) rfl slT_25 (ri_row 1 rfl) hb399)) rfl rfl rfl ?_
                refine TL.storeI 1 (ev_t rfl) (ev_t rfl) one_3 rfl hb399 ?_
                refine TL.nil ?_
                refine TN.blockN ?_
                refine TN.seq ?_
                refine TC.region ?_
                refine TL.op (yq (y_add (ev_t rfl) ev_c (in64_s hj4 hnm3))) rfl rfl rfl ?_
                refine TL.op (yq (y_move (ev_t rfl))) rfl rfl rfl ?_
                refine TL.nil ?_
                have hmu4b := Nat.sub_lt_sub_left hj4l (Nat.lt_succ_self k121_4)
                exact TN.hand (mf4, (k121_4 + 1), m0_4, m1_4, (m2_4.set k121_4 ((m2_4.getD k121_4 0) - k15_3))) ⟨hj4l, hup, (Nat.lt_of_lt_of_le hmu4b (Nat.le_of_lt_succ hmu4.out)), hL4⟩ (Nat.lt_succ_self _) ⟨rfl, rfl, rfl, rfl, rfl, rfl, rfl, rfl, rfl, rfl, rfl, rfl, rfl, rfl, trivial⟩ (fun w hw => hw)
            · rw [bif_neg h388] at hL4
              have q389 := (of_decide_eq_false h388)
              have hj4g : (costs.getD 0 []).length < k121_4 := by have hx := Int.not_lt.1 q389; rw [List.length_set, hlus] at hx; exact Int.ofNat_le.1 hx
              refine TC.exit ?_
              refine TN.thenE ?_
              refine TN.thenE ?_
              rw [← hL4, elim_next] at hL2
              try dsimp only at hL2
              have hri := Th.Up.risen hi2_0 hi3_0 hjgt hi4_1 hj4g
              refine TN.blockH ?_
              refine TN.seq ?_
              refine TC.seq ?_
              refine TC.region ?_
              refine TL.op (yq (y_move (ev_t rfl))) rfl rfl rfl ?_
              refine TL.op (yq (y_assign (ev_t rfl))) rfl rfl rfl ?_
              refine TL.nil ?_
              refine TN.seq ?_
              refine TC.seq ?_
              refine TC.region ?_
              refine TL.op (yq (y_move (ev_t rfl))) rfl rfl rfl ?_
              refine TL.op (yq (y_move (ev_t rfl))) rfl rfl rfl ?_
              have hb400 : Hid (k16_3 < (m0_1.set 0 (k9_1 : Int)).length) := (ix hlr2 hsa2)
              refine TL.op (yq (y_idx (k := k16_3) (ev_t rfl) (ev_t rfl) rfl slT_25 (ri_row 3 rfl) hb400)) rfl rfl rfl ?_
              refine TL.op (yq (y_ldi (ev_t rfl) one_3 (ri_row 3 rfl) hb400)) rfl rfl rfl ?_
              refine TL.op (yq (y_eql (ev_t rfl) ev_c)) rfl rfl rfl ?_
              refine TL.nil ?_
              refine TN.seq ?_
              refine TC.cond (b := decide (((m0_1.set 0 (k9_1 : Int)).getD k16_3 0) = 0)) (ev_t rfl) (fun h401 => ?_) (fun h401 => ?_)
              · rw [bif_pos h401] at hL2
                have q402 := (of_decide_eq_true h401)
                have hax := sr_ax hi2_0 hi3_0 hri q402
                replace h401 : Hid _ := h401
                replace q402 : Hid _ := q402
                refine TC.exit ?_
                refine TN.blockM rfl ?_
                refine TN.thenE ?_
                rw [← hL2, elim_next] at hL1
                try dsimp only at hL1
                refine TN.blockH ?_
                refine TN.seq ?_
                refine TC.block ?_
                obtain ⟨c403, hc404⟩ : ∃ c, F_impl_assigned_L5 m1_3 ((Th.dep 0 m1_3 ((costs.getD 0 []).length + 1) (k16_3 : Int).toNat) + 1) ((k16_3 : Int), (m0_1.set 0 (k9_1 : Int))) = c := ⟨_, rfl⟩
                rw [hc404] at hL1
                refine TC.loop (ι := Nat × Int × List Int) (fun (fu5, k10_5, m0_5) => [(0, vcosts), (4, (.int .i64 (costs.length : Int))), (5, (.int .i64 ((costs.getD 0 []).length : Int))), (6, v4_2), (7, v4_5), (8, v5_2), (9, (.int .i64 (k9_1 : Int))), (10, (.int .i64 k10_5)), (11, v11_2)]) (fun (fu5, k10_5, m0_5) => Hp w [rowI 3 v11_2 m1_3, rowI 3 v5_2 m0_5, rowI 3 v4_5 m0_4, rowI 3 v4_2 m1_4]) (fun (fu5, k10_5, m0_5) => (0 ≤ k10_5) ∧ (Th.Ax costs.length (costs.getD 0 []).length (hC costs) k9_1 m1_4 m0_4 m1_3 m0_5 k10_5.toNat) ∧ Hid (Th.dep 0 m1_3 ((costs.getD 0 []).length + 1) k10_5.toNat < fu5) ∧ F_impl_assigned_L5 m1_3 fu5 (k10_5, m0_5) = c403) (fun (fu5, k10_5, m0_5) => fu5) ((Th.dep 0 m1_3 ((costs.getD 0 []).length + 1) (k16_3 : Int).toNat) + 1, (k16_3 : Int), (m0_1.set 0 (k9_1 : Int))) ⟨(Int.natCast_nonneg _), hax, (Nat.lt_succ_self _), hc404⟩ ⟨rfl, rfl, rfl, rfl, rfl, rfl, rfl, rfl, rfl, trivial⟩ (fun w hw => Hp.sublist hw (.cons _ (.cons _ (.cons_cons _ (.cons_cons _ (.cons_cons _ (.cons_cons _ .slnil))))))) ?_
                rintro ⟨fu5, k10_5, m0_5⟩ hJ5
                obtain ⟨hi5_0, hi5_1, hmu5, hL5⟩ : (0 ≤ k10_5) ∧ (Th.Ax costs.length (costs.getD 0 []).length (hC costs) k9_1 m1_4 m0_4 m1_3 m0_5 k10_5.toNat) ∧ Hid (Th.dep 0 m1_3 ((costs.getD 0 []).length + 1) k10_5.toNat < fu5) ∧ F_impl_assigned_L5 m1_3 fu5 (k10_5, m0_5) = c403 := hJ5
                change TC _ _ _ _ (Hp w [rowI 3 v11_2 m1_3, rowI 3 v5_2 m0_5, rowI 3 v4_5 m0_4, rowI 3 v4_2 m1_4]) [(0, vcosts), (4, (.int .i64 (costs.length : Int))), (5, (.int .i64 ((costs.getD 0 []).length : Int))), (6, v4_2), (7, v4_5), (8, v5_2), (9, (.int .i64 (k9_1 : Int))), (10, (.int .i64 k10_5)), (11, v11_2)]
                obtain ⟨mf5, rfl⟩ := hid_pred hmu5
                rw [F_impl_assigned_L5_s] at hL5
                have hlr5 := hi5_1.lr
                have hlw5 := hi5_1.lw
                have hat5 := hi5_1.atm
                refine TC.seq ?_
                refine TC.seq ?_
                refine TC.region ?_
                refine TL.op (yq (y_move (ev_t rfl))) rfl rfl rfl ?_
                refine TL.op (yq (y_neq (ev_t rfl) ev_c)) rfl rfl rfl ?_
                refine TL.nil ?_
                refine TN.seq ?_
                refine TC.cond (b := !decide (k10_5 = 0)) (ev_t rfl) (fun h405 => ?_) (fun h405 => ?_)
                · rw [bif_pos h405] at hL5
                  have q406 := (of_decide_eq_false (not_t h405))
                  have hs5 := ax_step hi5_0 hi5_1 q406
                  have hs5b : Hid _ := And.intro hs5.1 hs5.2.2.2
                  refine TC.skip ?_
                  refine TN.seq ?_
                  refine TC.block ?_
                  refine TC.seq ?_
                  refine TC.region ?_
                  refine TL.op (yq (y_move (ev_t rfl))) rfl rfl rfl ?_
                  refine TL.op (yq (y_move (ev_t rfl))) rfl rfl rfl ?_
                  refine TL.op (yq (y_move (ev_t rfl))) rfl rfl rfl ?_
                  refine TL.op (yq (y_move (ev_t rfl))) rfl rfl rfl ?_
                  refine TL.op (yq (y_move (ev_t rfl))) rfl rfl rfl ?_
                  have hb407 : Hid ((k10_5).toNat < m1_3.length) := (ix hlw5 hat5)
                  refine TL.op (yq (y_idx (k := (k10_5).toNat) (ev_t rfl) (ev_t rfl) (tn_eq hi5_0) slT_25 (ri_row 0 rfl) hb407)) rfl rfl rfl ?_
                  refine TL.op (yq (y_ldi (ev_t rfl) one_3 (ri_row 0 rfl) hb407)) rfl rfl rfl ?_
                  have hb408 : Hid (((m1_3.getD ((k10_5).toNat) 0)).toNat < m0_5.length) := (ix_w hs5b hlr5)
                  refine TL.op (yq (y_idx (k := ((m1_3.getD ((k10_5).toNat) 0)).toNat) (ev_t rfl) (ev_t rfl) (eq_w hs5b) slT_25 (ri_row 1 rfl) hb408)) rfl rfl rfl ?_
                  refine TL.op (yq (y_ldi (ev_t rfl) one_3 (ri_row 1 rfl) hb408)) rfl rfl rfl ?_
                  have hb409 : Hid ((k10_5).toNat < m0_5.length) := (ix hlr5 hat5)
                  refine TL.op (yq (y_idx (k := (k10_5).toNat) (ev_t rfl) (ev_t rfl) (tn_eq hi5_0) slT_25 (ri_row 1 rfl) hb409)) rfl rfl rfl ?_
                  refine TL.storeI 1 (ev_t rfl) (ev_t rfl) one_3 rfl hb409 ?_
                  refine TL.nil ?_
                  refine TN.seq ?_
                  refine TC.region ?_
                  refine TL.op (yq (y_move (ev_t rfl))) rfl rfl rfl ?_
                  refine TL.op (yq (y_move (ev_t rfl))) rfl rfl rfl ?_
                  have hb410 : Hid ((k10_5).toNat < m1_3.length) := (ix hlw5 hat5)
                  refine TL.op (yq (y_idx (k := (k10_5).toNat) (ev_t rfl) (ev_t rfl) (tn_eq hi5_0) slT_25 (ri_row 0 rfl) hb410)) rfl rfl rfl ?_
                  refine TL.op (yq (y_ldi (ev_t rfl) one_3 (ri_row 0 rfl) hb410)) rfl rfl rfl ?_
                  refine TL.op (yq (y_assign (ev_t rfl))) rfl rfl rfl ?_
                  refine TL.nil ?_
                  refine TN.blockN ?_
                  have hmu5b := hs5.2.2.1
                  exact TN.hand (mf5, (m1_3.getD ((k10_5).toNat) 0), (m0_5.set ((k10_5).toNat) (m0_5.getD (((m1_3.getD ((k10_5).toNat) 0)).toNat) 0))) ⟨hs5.1, hs5.2.1, (Nat.lt_of_lt_of_le hmu5b (Nat.le_of_lt_succ hmu5.out)), hL5⟩ (Nat.lt_succ_self _) ⟨rfl, rfl, rfl, rfl, rfl, rfl, rfl, rfl, rfl, trivial⟩ (fun w hw => hw)
                · rw [bif_neg h405] at hL5
                  have q406 := (of_decide_eq_true (not_f h405))
                  refine TC.exit ?_
                  refine TN.thenE ?_
                  refine TN.thenE ?_
                  rw [← hL5, elim_next] at hL1
                  try dsimp only at hL1
                  refine TN.blockH ?_
                  refine TN.blockN ?_
                  refine TN.seq ?_
                  refine TC.region ?_
                  refine TL.op (yq (y_move (ev_t rfl))) rfl rfl rfl ?_
                  refine TL.op (yq (y_add (ev_t rfl) ev_c (by unfold In64; constructor <;> omega))) rfl rfl rfl ?_
                  refine TL.op (yq (y_assign (ev_t rfl))) rfl rfl rfl ?_
                  refine TL.nil ?_
                  have hmu1b := Nat.sub_lt_sub_left (show k9_1 < costs.length + 1 by omega) (Nat.lt_succ_self k9_1)
                  exact TN.hand (mf1, (k9_1 + 1), m0_5, m0_4, m1_4) ⟨(by first | omega | (simp [-List.getD_eq_getElem?_getD] <;> omega)), (by first | omega | (simp [-List.getD_eq_getElem?_getD] <;> omega)), (hu_next hi5_1 (by omega)), (Nat.lt_of_lt_of_le hmu1b (Nat.le_of_lt_succ hmu1.out)), hL1⟩ (Nat.lt_succ_self _) ⟨rfl, rfl, rfl, rfl, rfl, rfl, rfl, trivial⟩ (fun w hw => Hp.sublist hw (.cons _ (.cons_cons _ (.cons_cons _ (.cons_cons _ .slnil)))))
              · rw [bif_neg h401] at hL2
                have q402 := (of_decide_eq_false h401)
                have hne := q402
                replace hne : Hid _ := hne
                replace h401 : Hid _ := h401
                replace q402 : Hid _ := q402
                refine TC.skip ?_
                refine TN.blockN ?_
                have hmu2b := sr_mu hi2_0
                exact TN.hand (mf2, k16_3, (m0_2.set k10_2 true), m2_4, m1_3, m0_4, m1_4) ⟨(sr_next hi2_0 hi3_0 hri hne), (Nat.lt_of_lt_of_le hmu2b (Nat.le_of_lt_succ hmu2.out)), hL2⟩ (Nat.lt_succ_self _) ⟨rfl, rfl, rfl, rfl, rfl, rfl, rfl, rfl, rfl, rfl, rfl, trivial⟩ (fun w hw => hw)
      · rw [bif_neg h354] at hL1
        have q355 := (of_decide_eq_false h354)
        refine TC.exit ?_
        refine TN.thenE ?_
        refine TN.thenE ?_
        rw [← hL1, elim_next] at hF
        try dsimp only at hF
        have hHu := hu_end hi1_2 (by omega)
        refine TN.blockH ?_
        refine TN.seq ?_
        refine TC.seq ?_
        refine TC.region ?_
        refine TL.op (yq (y_move (ev_t rfl))) rfl rfl rfl ?_
        refine TL.makeSlice (n := costs.length) (ev_t rfl) (ev_t rfl) (by omega) slT_25 rfl (by omega) (by unfold maxLen; omega) rfl (fun v36_1 => ?_)
        refine TL.cls (fun w hw => hw.zeros) ?_
        refine TL.op (yq (y_assign (ev_t rfl))) rfl rfl rfl ?_
        refine TL.op (yq (y_assign ev_c)) rfl rfl rfl ?_
        refine TL.nil ?_
        refine TN.seq ?_
        refine TC.seq ?_
        refine TC.seq ?_
        refine TC.region ?_
        refine TL.op (yq (y_assign ev_c)) rfl rfl rfl ?_
        refine TL.nil ?_
        refine TN.seq ?_
        refine TC.block ?_
        obtain ⟨c411, hc412⟩ : ∃ c, F_impl_assigned_L6 costs m0_1 (((costs.getD 0 []).length + 1 - 1) + 1) (0, 1, (List.replicate costs.length (0 : Int))) = c := ⟨_, rfl⟩
        rw [hc412] at hF
        refine TC.loop (ι := Nat × Int × Nat × List Int) (fun (fu6, k21_6, k22_6, m0_6) => [(0, vcosts), (5, (.int .i64 ((costs.getD 0 []).length : Int))), (8, v5_2), (20, v36_1), (21, (.int .i64 k21_6)), (22, (.int .i64 (k22_6 : Int)))]) (fun (fu6, k21_6, k22_6, m0_6) => Hp w [rowI 3 v36_1 m0_6, rowI 3 v5_2 m0_1]) (fun (fu6, k21_6, k22_6, m0_6) => (1 ≤ k22_6) ∧ (k22_6 ≤ (costs.getD 0 []).length + 1) ∧ (0 ≤ k21_6) ∧ (k21_6 ≤ 1073741824 * ((k22_6 : Int) - 1)) ∧ (m0_6.length = costs.length) ∧ Hid ((costs.getD 0 []).length + 1 - k22_6 < fu6) ∧ F_impl_assigned_L6 costs m0_1 fu6 (k21_6, k22_6, m0_6) = c411) (fun (fu6, k21_6, k22_6, m0_6) => fu6) (((costs.getD 0 []).length + 1 - 1) + 1, 0, 1, (List.replicate costs.length (0 : Int))) ⟨(by first | omega | (simp [-List.getD_eq_getElem?_getD] <;> omega)), (by first | omega | (simp [-List.getD_eq_getElem?_getD] <;> omega)), (by first | omega | (simp [-List.getD_eq_getElem?_getD] <;> omega)), (by first | omega | (simp [-List.getD_eq_getElem?_getD] <;> omega)), (by first | omega | (simp [-List.getD_eq_getElem?_getD] <;> omega)), (Nat.lt_succ_self _), hc412⟩ ⟨rfl, rfl, rfl, rfl, rfl, rfl, trivial⟩ (fun w hw => Hp.sublist hw (.cons_cons _ (.cons_cons _ (.cons _ (.cons _ .slnil))))) ?_
        rintro ⟨fu6, k21_6, k22_6, m0_6⟩ hJ6
        obtain ⟨hi6_0, hi6_1, hi6_2, hi6_3, hi6_4, hmu6, hL6⟩ : (1 ≤ k22_6) ∧ (k22_6 ≤ (costs.getD 0 []).length + 1) ∧ (0 ≤ k21_6) ∧ (k21_6 ≤ 1073741824 * ((k22_6 : Int) - 1)) ∧ (m0_6.length = costs.length) ∧ Hid ((costs.getD 0 []).length + 1 - k22_6 < fu6) ∧ F_impl_assigned_L6 costs m0_1 fu6 (k21_6, k22_6, m0_6) = c411 := hJ6
        change TC _ _ _ _ (Hp w [rowI 3 v36_1 m0_6, rowI 3 v5_2 m0_1]) [(0, vcosts), (5, (.int .i64 ((costs.getD 0 []).length : Int))), (8, v5_2), (20, v36_1), (21, (.int .i64 k21_6)), (22, (.int .i64 (k22_6 : Int)))]
        obtain ⟨mf6, rfl⟩ := hid_pred hmu6
        rw [F_impl_assigned_L6_s] at hL6
        have hlr6 := hHu.lr
        refine TC.seq ?_
        refine TC.seq ?_
        refine TC.region ?_
        refine TL.op (yq (y_move (ev_t rfl))) rfl rfl rfl ?_
        refine TL.op (yq (y_move (ev_t rfl))) rfl rfl rfl ?_
        refine TL.op (yq (y_leq (ev_t rfl) (ev_t rfl))) rfl rfl rfl ?_
        refine TL.nil ?_
        refine TN.seq ?_
        refine TC.cond (b := decide ((k22_6 : Int) ≤ ((costs.getD 0 []).length : Int))) (ev_t rfl) (fun h413 => ?_) (fun h413 => ?_)
        · rw [bif_pos h413] at hL6
          have q414 := (of_decide_eq_true h413)
          have hrj := hHu.rr k22_6 (by omega) (by omega)
          have hce6 := hp0.el (m0_1.getD k22_6 0 - 1).toNat ((k22_6 : Int) - 1).toNat
          have hrw6 := fun h => hp0.rows (m0_1.getD k22_6 0 - 1).toNat h
          refine TC.skip ?_
          refine TN.seq ?_
          refine TC.seq ?_
          refine TC.block ?_
          refine TC.seq ?_
          refine TC.region ?_
          refine TL.op (yq (y_move (ev_t rfl))) rfl rfl rfl ?_
          refine TL.op (yq (y_move (ev_t rfl))) rfl rfl rfl ?_
          have hb415 : Hid (k22_6 < m0_1.length) := (show k22_6 < m0_1.length by omega)
          refine TL.op (yq (y_idx (k := k22_6) (ev_t rfl) (ev_t rfl) (by rfl) slT_25 (ri_row 1 rfl) hb415)) rfl rfl rfl ?_
          refine TL.op (yq (y_ldi (ev_t rfl) one_3 (ri_row 1 rfl) hb415)) rfl rfl rfl ?_
          refine TL.op (yq (y_gtr (ev_t rfl) ev_c)) rfl rfl rfl ?_
          refine TL.nil ?_
          refine TN.seq ?_
          refine TC.cond (b := decide (0 < (m0_1.getD k22_6 0))) (ev_t rfl) (fun h416 => ?_) (fun h416 => ?_)
          · rw [bif_pos h416] at hL6
            have q417 := (of_decide_eq_true h416)
            have hrw7 := hrw6 (by omega)
            refine TC.seq ?_
            refine TC.region ?_
            refine TL.op (yq (y_move (ev_t rfl))) rfl rfl rfl ?_
            refine TL.op (yq (y_move (ev_t rfl))) rfl rfl rfl ?_
            refine TL.op (yq (y_move (ev_t rfl))) rfl rfl rfl ?_
            have hb418 : Hid (k22_6 < m0_1.length) := (show k22_6 < m0_1.length by omega)
            refine TL.op (yq (y_idx (k := k22_6) (ev_t rfl) (ev_t rfl) (by rfl) slT_25 (ri_row 1 rfl) hb418)) rfl rfl rfl ?_
            refine TL.op (yq (y_ldi (ev_t rfl) one_3 (ri_row 1 rfl) hb418)) rfl rfl rfl ?_
            refine TL.op (yq (y_sub (ev_t rfl) ev_c (by unfold In64; constructor <;> omega))) rfl rfl rfl ?_
            refine TL.op (yq (y_move (ev_t rfl))) rfl rfl rfl ?_
            refine TL.op (yq (y_sub (ev_t rfl) ev_c (by unfold In64; constructor <;> omega))) rfl rfl rfl ?_
            have hb419 : Hid (((m0_1.getD k22_6 0) - 1).toNat < m0_6.length) := (show ((m0_1.getD k22_6 0) - 1).toNat < m0_6.length from tn_lt (by omega) (by omega))
            refine TL.op (yq (y_idx (k := ((m0_1.getD k22_6 0) - 1).toNat) (ev_t rfl) (ev_t rfl) (tn_eq (by omega)) slT_25 (ri_row 0 rfl) hb419)) rfl rfl rfl ?_
            refine TL.storeI 0 (ev_t rfl) (ev_t rfl) one_3 rfl hb419 ?_
            refine TL.nil ?_
            refine TN.seq ?_
            refine TC.region ?_
            refine TL.op (yq (y_move (ev_t rfl))) rfl rfl rfl ?_
            refine TL.op (yq (y_move (ev_t rfl))) rfl rfl rfl ?_
            refine TL.op (yq (y_move (ev_t rfl))) rfl rfl rfl ?_
            refine TL.op (yq (y_move (ev_t rfl))) rfl rfl rfl ?_
            have hb420 : Hid (k22_6 < m0_1.length) := (show k22_6 < m0_1.length by omega)
            refine TL.op (yq (y_idx (k := k22_6) (ev_t rfl) (ev_t rfl) (by rfl) slT_25 (ri_row 1 rfl) hb420)) rfl rfl rfl ?_
            refine TL.op (yq (y_ldi (ev_t rfl) one_3 (ri_row 1 rfl) hb420)) rfl rfl rfl ?_
            refine TL.op (yq (y_sub (ev_t rfl) ev_c (by unfold In64; constructor <;> omega))) rfl rfl rfl ?_
            have hb421 : Hid (((m0_1.getD k22_6 0) - 1).toNat < costs.length) := (show ((m0_1.getD k22_6 0) - 1).toNat < costs.length from tn_lt (by omega) (by omega))
            refine TL.op (yq (y_idx (k := ((m0_1.getD k22_6 0) - 1).toNat) (ev_t rfl) (ev_t rfl) (tn_eq (by omega)) slT_22 (fun w hw => ((rii_arg hcosts) w hw).1) hb421)) rfl rfl rfl ?_
            have ha422 := hcosts.row (i := ((m0_1.getD k22_6 0) - 1).toNat) hb421
            refine TL.op (yq (y_ldA (ev_t rfl) one_25 (rii_arg hcosts) hb421)) rfl rfl rfl ?_
            refine TL.op (yq (y_move (ev_t rfl))) rfl rfl rfl ?_
            refine TL.op (yq (y_sub (ev_t rfl) ev_c (by unfold In64; constructor <;> omega))) rfl rfl rfl ?_
            have hb423 : Hid (((k22_6 : Int) - 1).toNat < (costs.getD (((m0_1.getD k22_6 0) - 1).toNat) []).length) := (show ((k22_6 : Int) - 1).toNat < (costs.getD (((m0_1.getD k22_6 0) - 1).toNat) []).length from tn_lt (by omega) (by omega))
            refine TL.op (yq (y_idx (k := ((k22_6 : Int) - 1).toNat) (ev_t rfl) (ev_t rfl) (tn_eq (by omega)) slT_25 (ri_arg ha422) hb423)) rfl rfl rfl ?_
            refine TL.op (yq (y_ldi (ev_t rfl) one_3 (ri_arg ha422) hb423)) rfl rfl rfl ?_
            refine TL.op (yq (y_add (ev_t rfl) (ev_t rfl) (by unfold In64; constructor <;> omega))) rfl rfl rfl ?_
            refine TL.op (yq (y_assign (ev_t rfl))) rfl rfl rfl ?_
            refine TL.nil ?_
            refine TN.blockN ?_
            refine TN.seq ?_
            refine TC.region ?_
            refine TL.op (yq (y_move (ev_t rfl))) rfl rfl rfl ?_
            refine TL.op (yq (y_add (ev_t rfl) ev_c (by unfold In64; constructor <;> omega))) rfl rfl rfl ?_
            refine TL.op (yq (y_assign (ev_t rfl))) rfl rfl rfl ?_
            refine TL.nil ?_
            have hmu6b := Nat.sub_lt_sub_left (show k22_6 < (costs.getD 0 []).length + 1 by omega) (Nat.lt_succ_self k22_6)
            exact TN.hand (mf6, k21_6 + ((costs.getD (((m0_1.getD k22_6 0) - 1).toNat) []).getD (((k22_6 : Int) - 1).toNat) 0), (k22_6 + 1), (m0_6.set (((m0_1.getD k22_6 0) - 1).toNat) ((k22_6 : Int) - 1))) ⟨(by first | omega | (simp [-List.getD_eq_getElem?_getD] <;> omega)), (by first | omega | (simp [-List.getD_eq_getElem?_getD] <;> omega)), (by first | omega | (simp [-List.getD_eq_getElem?_getD] <;> omega)), (by first | omega | (simp [-List.getD_eq_getElem?_getD] <;> omega)), (by first | omega | (simp [-List.getD_eq_getElem?_getD] <;> omega)), (Nat.lt_of_lt_of_le hmu6b (Nat.le_of_lt_succ hmu6.out)), hL6⟩ (Nat.lt_succ_self _) ⟨rfl, rfl, rfl, rfl, rfl, rfl, trivial⟩ (fun w hw => hw)
          · rw [bif_neg h416] at hL6
            have q417 := (of_decide_eq_false h416)
            refine TC.skip ?_
            refine TN.blockN ?_
            refine TN.seq ?_
            refine TC.region ?_
            refine TL.op (yq (y_move (ev_t rfl))) rfl rfl rfl ?_
            refine TL.op (yq (y_add (ev_t rfl) ev_c (by unfold In64; constructor <;> omega))) rfl rfl rfl ?_
            refine TL.op (yq (y_assign (ev_t rfl))) rfl rfl rfl ?_
            refine TL.nil ?_
            have hmu6b := Nat.sub_lt_sub_left (show k22_6 < (costs.getD 0 []).length + 1 by omega) (Nat.lt_succ_self k22_6)
            exact TN.hand (mf6, k21_6, (k22_6 + 1), m0_6) ⟨(by first | omega | (simp [-List.getD_eq_getElem?_getD] <;> omega)), (by first | omega | (simp [-List.getD_eq_getElem?_getD] <;> omega)), (by first | omega | (simp [-List.getD_eq_getElem?_getD] <;> omega)), (by first | omega | (simp [-List.getD_eq_getElem?_getD] <;> omega)), (by first | omega | (simp [-List.getD_eq_getElem?_getD] <;> omega)), (Nat.lt_of_lt_of_le hmu6b (Nat.le_of_lt_succ hmu6.out)), hL6⟩ (Nat.lt_succ_self _) ⟨rfl, rfl, rfl, rfl, rfl, rfl, trivial⟩ (fun w hw => hw)
        · rw [bif_neg h413] at hL6
          have q414 := (of_decide_eq_false h413)
          refine TC.exit ?_
          refine TN.thenE ?_
          refine TN.thenE ?_
          rw [← hL6, elim_next] at hF
          try dsimp only at hF
          refine TN.blockH ?_
          refine TN.seq ?_
          refine TC.seq ?_
          refine TC.region ?_
          refine TL.op (yq (y_move (ev_t rfl))) rfl rfl rfl ?_
          refine TL.op (yq (y_move (ev_t rfl))) rfl rfl rfl ?_
          refine TL.op (yq (y_assign (ev_t rfl))) rfl rfl rfl ?_
          refine TL.op (yq (y_assign (ev_t rfl))) rfl rfl rfl ?_
          refine TL.nil ?_
          refine TN.seq ?_
          refine TC.ret ?_
          subst hF
          exact TN.ret2 rfl (ev_t rfl) (ev_t rfl) (fun w' hw => ⟨v36_1, rfl, Hp.sublist hw (.cons_cons _ (.cons _ .slnil))⟩)

end Go.Proofs.Ytgnikdpgndmldaa
namespace Go.Proofs.Ytgnikdpgndmldaa
set_option linter.unusedVariables false
set_option linter.unusedSimpArgs false
open Go Go.RowKit
set_option linter.unusedVariables false

set_option maxRecDepth 4000 in
set_option maxHeartbeats 1000000 in
theorem impl_FlowCost_ok (w : World) (vm : Value) (um : List Value) (m : List (List Int)) (hm : RII w vm um m) (va : Value) (a : List Int) (ha : RI w va a) (vreqs : Value) (reqs : List Int) (hreqs : RI w vreqs reqs)  :
    Calls Try.prog 10 ([(.agg #[vm]), va, vreqs] : List Value).toArray w (Ret (.tuple #[(.int .i64 ((F_impl_FlowCost m a reqs).1)), (.bool ((F_impl_FlowCost m a reqs).2))]) (Hp w [])) := by
  obtain ⟨rz, hF⟩ : ∃ rz, (F_impl_FlowCost m a reqs) = rz := ⟨_, rfl⟩
  rw [hF]
  unfold F_impl_FlowCost at hF
  have hlen_m := argT_len hm
  have hlen_a := arg_len ha
  have hlen_reqs := arg_len hreqs
  refine calls_tc Try.func10 rfl rfl rfl ?_
  change TC _ _ _ _ (Hp w []) [(0, (.agg #[vm])), (1, va), (2, vreqs)]
  refine TC.seq ?_
  refine TC.region ?_
  refine TL.box (ev_t rfl) rfl (fun g0_0 => ?_)
  refine TL.op (yq (y_assign ev_c)) rfl rfl rfl ?_
  refine TL.op (yq (y_assign ev_c)) rfl rfl rfl ?_
  refine TL.nil ?_
  refine TN.seq ?_
  refine TC.seq ?_
  refine TC.seq ?_
  refine TC.region ?_
  refine TL.op (yq (y_ldagg (cs := [vm]) 0 (ev_t rfl) agg_29 rfl)) rfl rfl rfl ?_
  refine TL.op (yq (y_move (ev_t rfl))) rfl rfl rfl ?_
  refine TL.op (yq (y_move (ev_t rfl))) rfl rfl rfl ?_
  refine TL.op (y_call (vs := [(.agg #[vm]), va, vreqs]) (v := (.bool (F_impl_isServed m a reqs))) en_26 ⟨(ev_t rfl), (ev_t rfl), (ev_t rfl), trivial⟩ (fun w hw => impl_isServed_ok w vm um m ((rii_arg hm) w hw) va a ((ri_arg ha) w hw) vreqs reqs ((ri_arg hreqs) w hw))) rfl rfl rfl ?_
  refine TL.op (yq (y_not (ev_t rfl))) rfl rfl rfl ?_
  refine TL.nil ?_
  refine TN.seq ?_
  refine TC.cond (b := !(F_impl_isServed m a reqs)) (ev_t rfl) (fun h3 => ?_) (fun h3 => ?_)
  · rw [bif_pos h3] at hF
    have q4 := (not_t h3)
    refine TC.seq ?_
    refine TC.region ?_
    refine TL.op (yq (y_assign ev_c)) rfl rfl rfl ?_
    refine TL.op (yq (y_assign ev_c)) rfl rfl rfl ?_
    refine TL.nil ?_
    refine TN.seq ?_
    refine TC.ret ?_
    refine TN.thenR ?_
    subst hF
    exact TN.ret2 rfl (ev_t rfl) (ev_t rfl) (fun w' hw => ⟨rfl, Hp.sublist hw (List.nil_sublist _)⟩)
  · rw [bif_neg h3] at hF
    have q4 := (isServed_t (not_f h3))
    have hcs := cs_flow q4
    refine TC.skip ?_
    refine TN.seq ?_
    refine TC.seq ?_
    refine TC.region ?_
    refine TL.op (yq (y_ldagg (cs := [vm]) 0 (ev_t rfl) agg_29 rfl)) rfl rfl rfl ?_
    refine TL.op (yq (y_move (ev_t rfl))) rfl rfl rfl ?_
    refine TL.op (yq (y_move (ev_t rfl))) rfl rfl rfl ?_
    refine TL.callr (ι := Nat × Value × List Value) (vs := [(.agg #[vm]), va, vreqs]) (fun i => (.pointer (some ⟨i.1, 0, none⟩))) (fun i => [.blk i.1 48 [.int .i64 ((F_impl_flowOf m a reqs).1), i.2.1], tabI 25 3 i.2.1 i.2.2 ((F_impl_flowOf m a reqs).2)]) en_28 ⟨(ev_t rfl), (ev_t rfl), (ev_t rfl), trivial⟩ rfl (fun w hw => impl_flowOf_ok w vm um m ((rii_arg hm) w hw) va a ((ri_arg ha) w hw) vreqs reqs ((ri_arg hreqs) w hw) (by first | assumption | omega | grind)) (fun r3_3 => ?_)
    refine TL.op (yq (y_nilp (ev_t rfl))) rfl rfl rfl ?_
    refine TL.op (yq (y_fa (fa_48_1 r3_3.1) (ev_t rfl))) rfl rfl rfl ?_
    refine TL.op (yq (y_ldb 0 (ev_t rfl) one_22 rfl rfl)) rfl rfl rfl ?_
    refine TL.callr (ι := Value) (vs := [r3_3.2.1]) (fun i => (.tuple #[i, (.int .i64 ((F_impl_assigned ((F_impl_flowOf m a reqs).2)).2))])) (fun i => [rowI 3 i ((F_impl_assigned ((F_impl_flowOf m a reqs).2)).1)]) en_27 ⟨(ev_t rfl), trivial⟩ rfl (fun w hw => impl_assigned_ok w r3_3.2.1 r3_3.2.2 ((F_impl_flowOf m a reqs).2) ((rii_tab 1 rfl) w hw) (by first | assumption | omega | grind)) (fun r3_7 => ?_)
    refine TL.op (yq (y_move (ev_t rfl))) rfl rfl rfl ?_
    refine TL.op (yq (y_extract (ev_t rfl) rfl)) rfl rfl rfl ?_
    refine TL.op (yq (y_extract (ev_t rfl) rfl)) rfl rfl rfl ?_
    refine TL.op (yq (y_assign (ev_t rfl))) rfl rfl rfl ?_
    refine TL.op (yq (y_assign (ev_t rfl))) rfl rfl rfl ?_
    refine TL.nil ?_
    refine TN.seq ?_
    refine TC.seq ?_
    refine TC.region ?_
    refine TL.op (yq (y_move (ev_t rfl))) rfl rfl rfl ?_
    refine TL.op (yq (y_assign (ev_t rfl))) rfl rfl rfl ?_
    refine TL.op (yq (y_assign ev_c)) rfl rfl rfl ?_
    refine TL.nil ?_
    refine TN.seq ?_
    refine TC.ret ?_
    subst hF
    exact TN.ret2 rfl (ev_t rfl) (ev_t rfl) (fun w' hw => ⟨rfl, Hp.sublist hw (List.nil_sublist _)⟩)

set_option maxRecDepth 4000 in
set_option maxHeartbeats 1000000 in
theorem spec_l7Rise_ok (w : World) (vm : Value) (um : List Value) (m : List (List Int)) (hm : RII w vm um m) (va : Value) (a : List Int) (ha : RI w va a) (vreqs : Value) (reqs : List Int) (hreqs : RI w vreqs reqs) (vbefore : Value) (before : List Int) (hbefore : RI w vbefore before) (hp0 : ∃ p r, Aq m a reqs before p r) (hp1 : before.length = reqs.length) :
    Calls Try.prog 30 ([(.agg #[vm]), va, vreqs, vbefore] : List Value).toArray w (fun e w' => ∃ i : Value × Value, e = .returned (.tuple #[i.1, i.2]) ∧ Hp w [rowI 3 i.1 ((F_spec_l7Rise m a reqs before).1), rowI 3 i.2 ((F_spec_l7Rise m a reqs before).2)] w') := by
  obtain ⟨rz, hF⟩ : ∃ rz, (F_spec_l7Rise m a reqs before) = rz := ⟨_, rfl⟩
  rw [hF]
  unfold F_spec_l7Rise at hF
  obtain ⟨p, r, hA⟩ := hp0
  have hS := hA.sv
  have hn3 := hS.cf.n3
  have hr60 := hS.r60
  have hga := fun l i : Int => gap_any hS l i
  have hbh := hA.hb
  have hlen_m := argT_len hm
  have hlen_a := arg_len ha
  have hlen_reqs := arg_len hreqs
  have hlen_before := arg_len hbefore
  refine calls_tc Try.func30 rfl rfl rfl ?_
  change TC _ _ _ _ (Hp w []) [(0, (.agg #[vm])), (1, va), (2, vreqs), (3, vbefore)]
  refine TC.seq ?_
  refine TC.region ?_
  refine TL.box (ev_t rfl) rfl (fun g0_0 => ?_)
  refine TL.op (yq (y_assign ev_c)) rfl rfl rfl ?_
  refine TL.op (yq (y_assign ev_c)) rfl rfl rfl ?_
  refine TL.nil ?_
  refine TN.seq ?_
  refine TC.seq ?_
  refine TC.region ?_
  refine TL.op (yq (y_move (ev_t rfl))) rfl rfl rfl ?_
  refine TL.op (yq (y_len (ev_t rfl) Try.underlying25 (fun w hw => ((ri_arg hreqs) w hw).ln))) rfl rfl rfl ?_
  refine TL.makeSlice (n := reqs.length) (ev_t rfl) (ev_t rfl) (by omega) slT_25 rfl (by omega) (by unfold maxLen; omega) rfl (fun v1_2 => ?_)
  refine TL.cls (fun w hw => hw.zeros) ?_
  refine TL.op (yq (y_assign (ev_t rfl))) rfl rfl rfl ?_
  refine TL.nil ?_
  refine TN.seq ?_
  refine TC.seq ?_
  refine TC.region ?_
  refine TL.op (yq (y_move (ev_t rfl))) rfl rfl rfl ?_
  refine TL.op (yq (y_len (ev_t rfl) Try.underlying25 (fun w hw => ((ri_arg ha) w hw).ln))) rfl rfl rfl ?_
  refine TL.op (yq (y_move (ev_t rfl))) rfl rfl rfl ?_
  refine TL.op (yq (y_len (ev_t rfl) Try.underlying25 (fun w hw => ((ri_arg hreqs) w hw).ln))) rfl rfl rfl ?_
  refine TL.op (yq (y_add (ev_t rfl) (ev_t rfl) (by unfold In64; constructor <;> omega))) rfl rfl rfl ?_
  refine TL.makeSlice (n := (a.length + reqs.length)) (ev_t rfl) (ev_t rfl) (by omega) slT_25 rfl (by omega) (by unfold maxLen; omega) rfl (fun v2_5 => ?_)
  refine TL.cls (fun w hw => hw.zeros) ?_
  refine TL.op (yq (y_assign (ev_t rfl))) rfl rfl rfl ?_
  refine TL.nil ?_
  refine TN.seq ?_
  refine TC.seq ?_
  refine TC.seq ?_
  refine TC.region ?_
  refine TL.op (yq (y_assign ev_c)) rfl rfl rfl ?_
  refine TL.nil ?_
  refine TN.seq ?_
  refine TC.block ?_
  obtain ⟨c86, hc87⟩ : ∃ c, F_spec_l7Rise_L1 m a reqs before ((2 * (1000000 - Th.lsum (List.replicate (a.length + reqs.length) (0 : Int))).toNat + (bif true then 1 else 0)) + 1) (true, (List.replicate (a.length + reqs.length) (0 : Int)), (List.replicate reqs.length (0 : Int))) = c := ⟨_, rfl⟩
  rw [hc87] at hF
  refine TC.loop (ι := Nat × Bool × List Int × List Int) (fun (fu1, k12_1, m0_1, m1_1) => [(1, va), (2, vreqs), (3, vbefore), (4, (.pointer (some ⟨g0_0, 0, none⟩))), (10, v1_2), (11, v2_5), (12, (.bool k12_1))]) (fun (fu1, k12_1, m0_1, m1_1) => Hp w [rowI 3 v2_5 m0_1, rowI 3 v1_2 m1_1, .blk g0_0 29 [vm]]) (fun (fu1, k12_1, m0_1, m1_1) => (RiM m a reqs before m0_1) ∧ (m1_1.length = reqs.length) ∧ 2 * (1000000 - Th.lsum m0_1).toNat + (bif k12_1 then 1 else 0) < fu1 ∧ F_spec_l7Rise_L1 m a reqs before fu1 (k12_1, m0_1, m1_1) = c86) (fun (fu1, k12_1, m0_1, m1_1) => fu1) ((2 * (1000000 - Th.lsum (List.replicate (a.length + reqs.length) (0 : Int))).toNat + (bif true then 1 else 0)) + 1, true, (List.replicate (a.length + reqs.length) (0 : Int)), (List.replicate reqs.length (0 : Int))) ⟨(ri_init m a reqs before), (by first | omega | (simp [-List.getD_eq_getElem?_getD] <;> omega)), (by omega), hc87⟩ ⟨rfl, rfl, rfl, rfl, rfl, rfl, rfl, trivial⟩ (fun w hw => hw) ?_
  rintro ⟨fu1, k12_1, m0_1, m1_1⟩ hJ1
  obtain ⟨hi1_0, hi1_1, hmu1, hL1⟩ : (RiM m a reqs before m0_1) ∧ (m1_1.length = reqs.length) ∧ 2 * (1000000 - Th.lsum m0_1).toNat + (bif k12_1 then 1 else 0) < fu1 ∧ F_spec_l7Rise_L1 m a reqs before fu1 (k12_1, m0_1, m1_1) = c86 := hJ1
  change TC _ _ _ _ (Hp w [rowI 3 v2_5 m0_1, rowI 3 v1_2 m1_1, .blk g0_0 29 [vm]]) [(1, va), (2, vreqs), (3, vbefore), (4, (.pointer (some ⟨g0_0, 0, none⟩))), (10, v1_2), (11, v2_5), (12, (.bool k12_1))]
  obtain ⟨mf1, rfl⟩ : ∃ m, fu1 = m + 1 := ⟨fu1 - 1, by omega⟩
  rw [F_spec_l7Rise_L1_s] at hL1
  refine TC.seq ?_
  refine TC.seq ?_
  refine TC.region ?_
  refine TL.op (yq (y_move (ev_t rfl))) rfl rfl rfl ?_
  refine TL.nil ?_
  refine TN.seq ?_
  refine TC.cond (b := k12_1) (ev_t rfl) (fun h88 => ?_) (fun h88 => ?_)
  · rw [bif_pos h88] at hL1
    have q89 := h88
    have hb1 : (bif k12_1 then 1 else 0 : Nat) = 1 := by rw [q89]; rfl
    refine TC.skip ?_
    refine TN.seq ?_
    refine TC.block ?_
    refine TC.seq ?_
    refine TC.region ?_
    refine TL.op (yq (y_assign ev_c)) rfl rfl rfl ?_
    refine TL.nil ?_
    refine TN.seq ?_
    refine TC.seq ?_
    refine TC.region ?_
    refine TL.op (yq (y_assign ev_c)) rfl rfl rfl ?_
    refine TL.nil ?_
    refine TN.seq ?_
    refine TC.block ?_
    obtain ⟨c90, hc91⟩ : ∃ c, F_spec_l7Rise_L2 m a reqs before ((reqs.length - 0) + 1) (false, 0, m0_1, m1_1) = c := ⟨_, rfl⟩
    rw [hc91] at hL1
    refine TC.loop (ι := Nat × Bool × Nat × List Int × List Int) (fun (fu2, k12_2, k13_2, m0_2, m1_2) => [(1, va), (2, vreqs), (3, vbefore), (4, (.pointer (some ⟨g0_0, 0, none⟩))), (10, v1_2), (11, v2_5), (12, (.bool k12_2)), (13, (.int .i64 (k13_2 : Int)))]) (fun (fu2, k12_2, k13_2, m0_2, m1_2) => Hp w [rowI 3 v2_5 m0_2, rowI 3 v1_2 m1_2, .blk g0_0 29 [vm]]) (fun (fu2, k12_2, k13_2, m0_2, m1_2) => (RiM m a reqs before m0_2) ∧ (Th.Rup k12_2 m0_2 m0_1) ∧ (m1_2.length = reqs.length) ∧ reqs.length - k13_2 < fu2 ∧ F_spec_l7Rise_L2 m a reqs before fu2 (k12_2, k13_2, m0_2, m1_2) = c90) (fun (fu2, k12_2, k13_2, m0_2, m1_2) => fu2) ((reqs.length - 0) + 1, false, 0, m0_1, m1_1) ⟨hi1_0, (Th.Rup.init _), (by first | omega | (simp [-List.getD_eq_getElem?_getD] <;> omega)), (by omega), hc91⟩ ⟨rfl, rfl, rfl, rfl, rfl, rfl, rfl, rfl, trivial⟩ (fun w hw => hw) ?_
    rintro ⟨fu2, k12_2, k13_2, m0_2, m1_2⟩ hJ2
    obtain ⟨hi2_0, hi2_1, hi2_2, hmu2, hL2⟩ : (RiM m a reqs before m0_2) ∧ (Th.Rup k12_2 m0_2 m0_1) ∧ (m1_2.length = reqs.length) ∧ reqs.length - k13_2 < fu2 ∧ F_spec_l7Rise_L2 m a reqs before fu2 (k12_2, k13_2, m0_2, m1_2) = c90 := hJ2
    change TC _ _ _ _ (Hp w [rowI 3 v2_5 m0_2, rowI 3 v1_2 m1_2, .blk g0_0 29 [vm]]) [(1, va), (2, vreqs), (3, vbefore), (4, (.pointer (some ⟨g0_0, 0, none⟩))), (10, v1_2), (11, v2_5), (12, (.bool k12_2)), (13, (.int .i64 (k13_2 : Int)))]
    obtain ⟨mf2, rfl⟩ : ∃ m, fu2 = m + 1 := ⟨fu2 - 1, by omega⟩
    rw [F_spec_l7Rise_L2_s] at hL2
    have hln2 := hi2_0.len
    refine TC.seq ?_
    refine TC.seq ?_
    refine TC.region ?_
    refine TL.op (yq (y_move (ev_t rfl))) rfl rfl rfl ?_
    refine TL.op (yq (y_move (ev_t rfl))) rfl rfl rfl ?_
    refine TL.op (yq (y_len (ev_t rfl) Try.underlying25 (fun w hw => ((ri_arg hreqs) w hw).ln))) rfl rfl rfl ?_
    refine TL.op (yq (y_lss (ev_t rfl) (ev_t rfl))) rfl rfl rfl ?_
    refine TL.nil ?_
    refine TN.seq ?_
    refine TC.cond (b := decide ((k13_2 : Int) < (reqs.length : Int))) (ev_t rfl) (fun h92 => ?_) (fun h92 => ?_)
    · rw [bif_pos h92] at hL2
      have q93 := (of_decide_eq_true h92)
      have hbe := hbh k13_2 (by omega)
      have hrb1 := rise_bd hA hp1 hi2_0 (before.getD k13_2 0).toNat (by omega)
      have hg0 := hga (before.getD k13_2 0) (k13_2 : Int)
      have hlow := rise_low hA hp1 hi2_0 (i := k13_2) (ps := m1_2) (by omega) hi2_2
      refine TC.skip ?_
      refine TN.seq ?_
      refine TC.seq ?_
      refine TC.block ?_
      refine TC.seq ?_
      refine TC.regionT 20 (by kernel_rfl) (by kernel_rfl) dr_hp ?_
      refine TQ.op (yq (y_move (ev_t rfl))) rfl rfl rfl ?_
      refine TQ.op (yq (y_move (ev_t rfl))) rfl rfl rfl ?_
      refine TQ.op (yq (y_move (ev_t rfl))) rfl rfl rfl ?_
      refine TQ.op (yq (y_move (ev_t rfl))) rfl rfl rfl ?_
      refine TQ.op (yq (y_move (ev_t rfl))) rfl rfl rfl ?_
      have hb94 : k13_2 < before.length := (by first | omega | (simp only [List.length_set, List.length_append, List.length_cons, List.length_nil, List.length_replicate]; omega) | (rw [sortI_length]; simp only [List.length_cons, List.length_nil]; omega) | (simp only [ByteArray.size_append]; omega))
      refine TQ.op (yq (y_idx (k := k13_2) (ev_t rfl) (ev_t rfl) (by first | omega | simp) slT_25 (ri_arg hbefore) hb94)) rfl rfl rfl ?_
      refine TQ.op (yq (y_ldi (ev_t rfl) one_3 (ri_arg hbefore) hb94)) rfl rfl rfl ?_
      have hb95 : ((before.getD k13_2 0)).toNat < m0_2.length := (by first | omega | (simp only [List.length_set, List.length_append, List.length_cons, List.length_nil, List.length_replicate]; omega) | (rw [sortI_length]; simp only [List.length_cons, List.length_nil]; omega) | (simp only [ByteArray.size_append]; omega))
      refine TQ.op (yq (y_idx (k := ((before.getD k13_2 0)).toNat) (ev_t rfl) (ev_t rfl) (by first | omega | simp) slT_25 (ri_row 0 rfl) hb95)) rfl rfl rfl ?_
      refine TQ.op (yq (y_ldi (ev_t rfl) one_3 (ri_row 0 rfl) hb95)) rfl rfl rfl ?_
      refine TQ.op (yq (y_ldagg (cs := [vm]) 2 (ev_t rfl) agg_29 rfl)) rfl rfl rfl ?_
      refine TQ.op (yq (y_move (ev_t rfl))) rfl rfl rfl ?_
      refine TQ.op (yq (y_move (ev_t rfl))) rfl rfl rfl ?_
      refine TQ.op (yq (y_move (ev_t rfl))) rfl rfl rfl ?_
      refine TQ.op (yq (y_move (ev_t rfl))) rfl rfl rfl ?_
      have hb96 : k13_2 < before.length := (by first | omega | (simp only [List.length_set, List.length_append, List.length_cons, List.length_nil, List.length_replicate]; omega) | (rw [sortI_length]; simp only [List.length_cons, List.length_nil]; omega) | (simp only [ByteArray.size_append]; omega))
      refine TQ.op (yq (y_idx (k := k13_2) (ev_t rfl) (ev_t rfl) (by first | omega | simp) slT_25 (ri_arg hbefore) hb96)) rfl rfl rfl ?_
      refine TQ.op (yq (y_ldi (ev_t rfl) one_3 (ri_arg hbefore) hb96)) rfl rfl rfl ?_
      refine TQ.op (yq (y_move (ev_t rfl))) rfl rfl rfl ?_
      refine TQ.op (y_call (vs := [(.agg #[vm]), va, vreqs, (.int .i64 (before.getD k13_2 0)), (.int .i64 (k13_2 : Int))]) (v := (.int .i64 (F_spec_l7Gap m a reqs (before.getD k13_2 0) (k13_2 : Int)))) en_43 ⟨(ev_t rfl), (ev_t rfl), (ev_t rfl), (ev_t rfl), (ev_t rfl), trivial⟩ (fun w hw => spec_l7Gap_ok w vm um m ((rii_arg hm) w hw) va a ((ri_arg ha) w hw) vreqs reqs ((ri_arg hreqs) w hw) (before.getD k13_2 0) (k13_2 : Int) (by first | assumption | omega | grind) (by first | assumption | omega | grind) (by first | assumption | omega | grind) (by first | assumption | omega | grind) (by first | assumption | omega | grind))) rfl rfl rfl ?_
      refine TQ.op (yq (y_add (ev_t rfl) (ev_t rfl) (by unfold In64; constructor <;> omega))) rfl rfl rfl ?_
      have hb97 : k13_2 < m1_2.length := (by first | omega | (simp only [List.length_set, List.length_append, List.length_cons, List.length_nil, List.length_replicate]; omega) | (rw [sortI_length]; simp only [List.length_cons, List.length_nil]; omega) | (simp only [ByteArray.size_append]; omega))
      refine TQ.op (yq (y_idx (k := k13_2) (ev_t rfl) (ev_t rfl) (by first | omega | simp) slT_25 (ri_row 1 rfl) hb97)) rfl rfl rfl ?_
      refine TQ.tail ?_
      refine TL.storeI 1 (ev_t rfl) (ev_t rfl) one_3 rfl hb97 ?_
      refine TL.nil ?_
      refine TN.seq ?_
      refine TC.seq ?_
      refine TC.region ?_
      refine TL.op (yq (y_assign ev_c)) rfl rfl rfl ?_
      refine TL.nil ?_
      refine TN.seq ?_
      refine TC.block ?_
      obtain ⟨c98, hc99⟩ : ∃ c, F_spec_l7Rise_L3 m a reqs before k13_2 m0_2 m1_2 ((a.length + k13_2 - 0) + 1) (k12_2, 0, m0_2) = c := ⟨_, rfl⟩
      rw [hc99] at hL2
      refine TC.loop (ι := Nat × Bool × Nat × List Int) (fun (fu3, k12_3, k14_3, m0_3) => [(1, va), (2, vreqs), (3, vbefore), (4, (.pointer (some ⟨g0_0, 0, none⟩))), (10, v1_2), (11, v2_5), (12, (.bool k12_3)), (13, (.int .i64 (k13_2 : Int))), (14, (.int .i64 (k14_3 : Int)))]) (fun (fu3, k12_3, k14_3, m0_3) => Hp w [rowI 3 v2_5 m0_3, rowI 3 v1_2 (m1_2.set k13_2 ((m0_2.getD (((before.getD k13_2 0)).toNat) 0) + (F_spec_l7Gap m a reqs (before.getD k13_2 0) (k13_2 : Int)))), .blk g0_0 29 [vm]]) (fun (fu3, k12_3, k14_3, m0_3) => (RiM m a reqs before m0_3) ∧ (Th.Rup k12_3 m0_3 m0_1) ∧ a.length + k13_2 - k14_3 < fu3 ∧ F_spec_l7Rise_L3 m a reqs before k13_2 m0_2 m1_2 fu3 (k12_3, k14_3, m0_3) = c98) (fun (fu3, k12_3, k14_3, m0_3) => fu3) ((a.length + k13_2 - 0) + 1, k12_2, 0, m0_2) ⟨hi2_0, hi2_1, (by omega), hc99⟩ ⟨rfl, rfl, rfl, rfl, rfl, rfl, rfl, rfl, rfl, trivial⟩ (fun w hw => hw) ?_
      rintro ⟨fu3, k12_3, k14_3, m0_3⟩ hJ3
      obtain ⟨hi3_0, hi3_1, hmu3, hL3⟩ : (RiM m a reqs before m0_3) ∧ (Th.Rup k12_3 m0_3 m0_1) ∧ a.length + k13_2 - k14_3 < fu3 ∧ F_spec_l7Rise_L3 m a reqs before k13_2 m0_2 m1_2 fu3 (k12_3, k14_3, m0_3) = c98 := hJ3
      change TC _ _ _ _ (Hp w [rowI 3 v2_5 m0_3, rowI 3 v1_2 (m1_2.set k13_2 ((m0_2.getD (((before.getD k13_2 0)).toNat) 0) + (F_spec_l7Gap m a reqs (before.getD k13_2 0) (k13_2 : Int)))), .blk g0_0 29 [vm]]) [(1, va), (2, vreqs), (3, vbefore), (4, (.pointer (some ⟨g0_0, 0, none⟩))), (10, v1_2), (11, v2_5), (12, (.bool k12_3)), (13, (.int .i64 (k13_2 : Int))), (14, (.int .i64 (k14_3 : Int)))]
      obtain ⟨mf3, rfl⟩ : ∃ m, fu3 = m + 1 := ⟨fu3 - 1, by omega⟩
      rw [F_spec_l7Rise_L3_s] at hL3
      have hln3 := hi3_0.len
      refine TC.seq ?_
      refine TC.seq ?_
      refine TC.region ?_
      refine TL.op (yq (y_move (ev_t rfl))) rfl rfl rfl ?_
      refine TL.op (yq (y_move (ev_t rfl))) rfl rfl rfl ?_
      refine TL.op (yq (y_len (ev_t rfl) Try.underlying25 (fun w hw => ((ri_arg ha) w hw).ln))) rfl rfl rfl ?_
      refine TL.op (yq (y_move (ev_t rfl))) rfl rfl rfl ?_
      refine TL.op (yq (y_add (ev_t rfl) (ev_t rfl) (by unfold In64; constructor <;> omega))) rfl rfl rfl ?_
      refine TL.op (yq (y_lss (ev_t rfl) (ev_t rfl))) rfl rfl rfl ?_
      refine TL.nil ?_
      refine TN.seq ?_
      refine TC.cond (b := decide ((k14_3 : Int) < (a.length : Int) + (k13_2 : Int))) (ev_t rfl) (fun h100 => ?_) (fun h100 => ?_)
      · rw [bif_pos h100] at hL3
        have q101 := (of_decide_eq_true h100)
        have hrb3 := rise_bd hA hp1 hi3_0 k14_3 (by omega)
        have hg3 := hga (k14_3 : Int) (k13_2 : Int)
        have hlb := hlow.2
        refine TC.skip ?_
        refine TN.seq ?_
        refine TC.seq ?_
        refine TC.block ?_
        refine TC.seq ?_
        refine TC.regionQ (by kernel_rfl) (by kernel_rfl) dr_hp ?_
        refine TQ.op (yq (y_move (ev_t rfl))) rfl rfl rfl ?_
        refine TQ.op (yq (y_move (ev_t rfl))) rfl rfl rfl ?_
        have hb102 : k13_2 < (m1_2.set k13_2 ((m0_2.getD (((before.getD k13_2 0)).toNat) 0) + (F_spec_l7Gap m a reqs (before.getD k13_2 0) (k13_2 : Int)))).length := (by first | (simp only [List.length_set, List.length_append, List.length_cons, List.length_nil, List.length_replicate]; omega) | omega | (rw [sortI_length]; simp only [List.length_cons, List.length_nil]; omega))
        refine TQ.op (yq (y_idx (k := k13_2) (ev_t rfl) (ev_t rfl) (by first | omega | simp) slT_25 (ri_row 1 rfl) hb102)) rfl rfl rfl ?_
        refine TQ.op (yq (y_ldi (ev_t rfl) one_3 (ri_row 1 rfl) hb102)) rfl rfl rfl ?_
        refine TQ.op (yq (y_ldagg (cs := [vm]) 2 (ev_t rfl) agg_29 rfl)) rfl rfl rfl ?_
        refine TQ.op (yq (y_move (ev_t rfl))) rfl rfl rfl ?_
        refine TQ.op (yq (y_move (ev_t rfl))) rfl rfl rfl ?_
        refine TQ.op (yq (y_move (ev_t rfl))) rfl rfl rfl ?_
        refine TQ.op (yq (y_move (ev_t rfl))) rfl rfl rfl ?_
        refine TQ.op (y_call (vs := [(.agg #[vm]), va, vreqs, (.int .i64 (k14_3 : Int)), (.int .i64 (k13_2 : Int))]) (v := (.int .i64 (F_spec_l7Gap m a reqs (k14_3 : Int) (k13_2 : Int)))) en_43 ⟨(ev_t rfl), (ev_t rfl), (ev_t rfl), (ev_t rfl), (ev_t rfl), trivial⟩ (fun w hw => spec_l7Gap_ok w vm um m ((rii_arg hm) w hw) va a ((ri_arg ha) w hw) vreqs reqs ((ri_arg hreqs) w hw) (k14_3 : Int) (k13_2 : Int) (by first | assumption | omega | grind) (by first | assumption | omega | grind) (by first | assumption | omega | grind) (by first | assumption | omega | grind) (by first | assumption | omega | grind))) rfl rfl rfl ?_
        refine TQ.op (yq (y_sub (ev_t rfl) (ev_t rfl) (by unfold In64; constructor <;> omega))) rfl rfl rfl ?_
        refine TQ.op (yq (y_assign (ev_t rfl))) rfl rfl rfl ?_
        refine TQ.nil ?_
        refine TN.seq ?_
        refine TC.seq ?_
        refine TC.region ?_
        refine TL.op (yq (y_move (ev_t rfl))) rfl rfl rfl ?_
        refine TL.op (yq (y_move (ev_t rfl))) rfl rfl rfl ?_
        refine TL.op (yq (y_move (ev_t rfl))) rfl rfl rfl ?_
        have hb103 : k14_3 < m0_3.length := (by first | omega | (simp only [List.length_set, List.length_append, List.length_cons, List.length_nil, List.length_replicate]; omega) | (rw [sortI_length]; simp only [List.length_cons, List.length_nil]; omega) | (simp only [ByteArray.size_append]; omega))
        refine TL.op (yq (y_idx (k := k14_3) (ev_t rfl) (ev_t rfl) (by first | omega | simp) slT_25 (ri_row 0 rfl) hb103)) rfl rfl rfl ?_
        refine TL.op (yq (y_ldi (ev_t rfl) one_3 (ri_row 0 rfl) hb103)) rfl rfl rfl ?_
        refine TL.op (yq (y_gtr (ev_t rfl) (ev_t rfl))) rfl rfl rfl ?_
        refine TL.nil ?_
        refine TN.seq ?_
        refine TC.cond (b := decide ((m0_3.getD k14_3 0) < ((m1_2.set k13_2 ((m0_2.getD (((before.getD k13_2 0)).toNat) 0) + (F_spec_l7Gap m a reqs (before.getD k13_2 0) (k13_2 : Int)))).getD k13_2 0) - (F_spec_l7Gap m a reqs (k14_3 : Int) (k13_2 : Int)))) (ev_t rfl) (fun h104 => ?_) (fun h104 => ?_)
        · rw [bif_pos h104] at hL3
          have q105 := (of_decide_eq_true h104)
          have hst := rise_step hA hp1 hi3_0 hlow.1 (l := k14_3) (by omega) (by omega) q105
          refine TC.seq ?_
          refine TC.region ?_
          refine TL.op (yq (y_move (ev_t rfl))) rfl rfl rfl ?_
          refine TL.op (yq (y_move (ev_t rfl))) rfl rfl rfl ?_
          refine TL.op (yq (y_move (ev_t rfl))) rfl rfl rfl ?_
          have hb106 : k14_3 < m0_3.length := (by first | omega | (simp only [List.length_set, List.length_append, List.length_cons, List.length_nil, List.length_replicate]; omega) | (rw [sortI_length]; simp only [List.length_cons, List.length_nil]; omega) | (simp only [ByteArray.size_append]; omega))
          refine TL.op (yq (y_idx (k := k14_3) (ev_t rfl) (ev_t rfl) (by first | omega | simp) slT_25 (ri_row 0 rfl) hb106)) rfl rfl rfl ?_
          refine TL.storeI 0 (ev_t rfl) (ev_t rfl) one_3 rfl hb106 ?_
          refine TL.nil ?_
          refine TN.seq ?_
          refine TC.region ?_
          refine TL.op (yq (y_assign ev_c)) rfl rfl rfl ?_
          refine TL.nil ?_
          refine TN.blockN ?_
          refine TN.seq ?_
          refine TC.region ?_
          refine TL.op (yq (y_move (ev_t rfl))) rfl rfl rfl ?_
          refine TL.op (yq (y_add (ev_t rfl) ev_c (by unfold In64; constructor <;> omega))) rfl rfl rfl ?_
          refine TL.op (yq (y_assign (ev_t rfl))) rfl rfl rfl ?_
          refine TL.nil ?_
          exact TN.hand (mf3, true, (k14_3 + 1), (m0_3.set k14_3 (((m1_2.set k13_2 ((m0_2.getD (((before.getD k13_2 0)).toNat) 0) + (F_spec_l7Gap m a reqs (before.getD k13_2 0) (k13_2 : Int)))).getD k13_2 0) - (F_spec_l7Gap m a reqs (k14_3 : Int) (k13_2 : Int))))) ⟨(by first | exact hst.1 | exact hi3_0), (by first | exact hi3_1.up hst.2 | exact hi3_1), (by omega), hL3⟩ (Nat.lt_succ_self _) ⟨rfl, rfl, rfl, rfl, rfl, rfl, rfl, rfl, rfl, trivial⟩ (fun w hw => hw)
        · rw [bif_neg h104] at hL3
          have q105 := (of_decide_eq_false h104)
          refine TC.skip ?_
          refine TN.blockN ?_
          refine TN.seq ?_
          refine TC.region ?_
          refine TL.op (yq (y_move (ev_t rfl))) rfl rfl rfl ?_
          refine TL.op (yq (y_add (ev_t rfl) ev_c (by unfold In64; constructor <;> omega))) rfl rfl rfl ?_
          refine TL.op (yq (y_assign (ev_t rfl))) rfl rfl rfl ?_
          refine TL.nil ?_
          exact TN.hand (mf3, k12_3, (k14_3 + 1), m0_3) ⟨(by first | exact hst.1 | exact hi3_0), (by first | exact hi3_1.up hst.2 | exact hi3_1), (by omega), hL3⟩ (Nat.lt_succ_self _) ⟨rfl, rfl, rfl, rfl, rfl, rfl, rfl, rfl, rfl, trivial⟩ (fun w hw => hw)
      · rw [bif_neg h100] at hL3
        have q101 := (of_decide_eq_false h100)
        refine TC.exit ?_
        refine TN.thenE ?_
        refine TN.thenE ?_
        rw [← hL3, elim_next] at hL2
        try dsimp only at hL2
        refine TN.blockH ?_
        refine TN.blockN ?_
        refine TN.seq ?_
        refine TC.region ?_
        refine TL.op (yq (y_move (ev_t rfl))) rfl rfl rfl ?_
        refine TL.op (yq (y_add (ev_t rfl) ev_c (by unfold In64; constructor <;> omega))) rfl rfl rfl ?_
        refine TL.op (yq (y_assign (ev_t rfl))) rfl rfl rfl ?_
        refine TL.nil ?_
        exact TN.hand (mf2, k12_3, (k13_2 + 1), m0_3, (m1_2.set k13_2 ((m0_2.getD (((before.getD k13_2 0)).toNat) 0) + (F_spec_l7Gap m a reqs (before.getD k13_2 0) (k13_2 : Int))))) ⟨hi3_0, hi3_1, (by rw [List.length_set]; exact hi2_2), (by omega), hL2⟩ (Nat.lt_succ_self _) ⟨rfl, rfl, rfl, rfl, rfl, rfl, rfl, rfl, trivial⟩ (fun w hw => hw)
    · rw [bif_neg h92] at hL2
      have q93 := (of_decide_eq_false h92)
      refine TC.exit ?_
      refine TN.thenE ?_
      refine TN.thenE ?_
      rw [← hL2, elim_next] at hL1
      try dsimp only at hL1
      refine TN.blockH ?_
      refine TN.blockN ?_
      have hmu1b := hi2_1.mu (rise_sum hA hp1 hi2_0)
      exact TN.hand (mf1, k12_2, m0_2, m1_2) ⟨hi2_0, (by first | omega | (simp [-List.getD_eq_getElem?_getD] <;> omega)), (by omega), hL1⟩ (Nat.lt_succ_self _) ⟨rfl, rfl, rfl, rfl, rfl, rfl, rfl, trivial⟩ (fun w hw => hw)
  · rw [bif_neg h88] at hL1
    have q89 := h88
    refine TC.exit ?_
    refine TN.thenE ?_
    refine TN.thenE ?_
    rw [← hL1, elim_next] at hF
    try dsimp only at hF
    refine TN.blockH ?_
    refine TN.seq ?_
    refine TC.seq ?_
    refine TC.region ?_
    refine TL.op (yq (y_move (ev_t rfl))) rfl rfl rfl ?_
    refine TL.op (yq (y_move (ev_t rfl))) rfl rfl rfl ?_
    refine TL.op (yq (y_assign (ev_t rfl))) rfl rfl rfl ?_
    refine TL.op (yq (y_assign (ev_t rfl))) rfl rfl rfl ?_
    refine TL.nil ?_
    refine TN.seq ?_
    refine TC.ret ?_
    subst hF
    exact TN.ret2 rfl (ev_t rfl) (ev_t rfl) (fun w' hw => ⟨(v1_2, v2_5), rfl, Hp.picks [1, 0] (by decide) rfl hw⟩)

set_option maxRecDepth 4000 in
set_option maxHeartbeats 1000000 in
theorem spec_LeastPrices_ok (w : World) (vm : Value) (um : List Value) (m : List (List Int)) (hm : RII w vm um m) (va : Value) (a : List Int) (ha : RI w va a) (vreqs : Value) (reqs : List Int) (hreqs : RI w vreqs reqs)  :
    Calls Try.prog 13 ([(.agg #[vm]), va, vreqs] : List Value).toArray w (fun e w' => ∃ i : Value, e = .returned (.tuple #[i, (.bool ((F_spec_LeastPrices m a reqs).2))]) ∧ Hp w [rowI 3 i ((F_spec_LeastPrices m a reqs).1)] w') := by
  obtain ⟨rz, hF⟩ : ∃ rz, (F_spec_LeastPrices m a reqs) = rz := ⟨_, rfl⟩
  rw [hF]
  unfold F_spec_LeastPrices at hF
  have hlen_m := argT_len hm
  have hlen_a := arg_len ha
  have hlen_reqs := arg_len hreqs
  refine calls_tc Try.func13 rfl rfl rfl ?_
  change TC _ _ _ _ (Hp w []) [(0, (.agg #[vm])), (1, va), (2, vreqs)]
  refine TC.seq ?_
  refine TC.region ?_
  refine TL.box (ev_t rfl) rfl (fun g0_0 => ?_)
  refine TL.op (yq (y_assign ev_c)) rfl rfl rfl ?_
  refine TL.op (yq (y_assign ev_c)) rfl rfl rfl ?_
  refine TL.nil ?_
  refine TN.seq ?_
  refine TC.seq ?_
  refine TC.seq ?_
  refine TC.region ?_
  refine TL.op (yq (y_ldagg (cs := [vm]) 0 (ev_t rfl) agg_29 rfl)) rfl rfl rfl ?_
  refine TL.op (y_call (vs := [(.agg #[vm])]) (v := (.bool (F_spec_l6Good m))) en_21 ⟨(ev_t rfl), trivial⟩ (fun w hw => spec_l6Good_ok w vm um m ((rii_arg hm) w hw))) rfl rfl rfl ?_
  refine TL.op (yq (y_not (ev_t rfl))) rfl rfl rfl ?_
  refine TL.op (yq (y_move (ev_t rfl))) rfl rfl rfl ?_
  refine TL.opw (w_f rfl rfl rfl) (fun hg => yq (y_ldagg (cs := [vm]) 0 (ev_t rfl) agg_29 rfl)) rfl rfl ?_
  refine TL.opw (w_f rfl rfl rfl) (fun hg => yq (y_move (ev_t rfl))) rfl rfl ?_
  refine TL.opw (w_f rfl rfl rfl) (fun hg => yq (y_move (ev_t rfl))) rfl rfl ?_
  refine TL.opw (w_f rfl rfl rfl) (fun hg => y_call (vs := [(.agg #[vm]), va, vreqs]) (v := (.bool (F_spec_l6Start m a reqs))) en_22 ⟨(ev_g rfl hg), (ev_g rfl hg), (ev_g rfl hg), trivial⟩ (fun w hw => spec_l6Start_ok w vm um m ((rii_arg hm) w hw) va a ((ri_arg ha) w hw) vreqs reqs ((ri_arg hreqs) w hw))) rfl rfl ?_
  refine TL.opw (w_f rfl rfl rfl) (fun hg => yq (y_not (ev_g rfl hg))) rfl rfl ?_
  refine TL.op (yq (y_or (ev_t rfl) (fun hq => (ev_g rfl hq)))) rfl rfl rfl ?_
  refine TL.nil ?_
  refine TN.seq ?_
  refine TC.cond (b := ((!(F_spec_l6Good m)) || (!(F_spec_l6Start m a reqs)))) (ev_t rfl) (fun h3 => ?_) (fun h3 => ?_)
  · rw [bif_pos h3] at hF
    have q4 := ((or_t h3).imp (fun h => (not_t h)) (fun h => (not_t h)))
    refine TC.seq ?_
    refine TC.region ?_
    refine TL.buildI (zs := []) (qs := []) slT_25 rfl trivial rfl (by decide) rfl (fun v2_0 => ?_)
    refine TL.op (yq (y_assign (ev_t rfl))) rfl rfl rfl ?_
    refine TL.op (yq (y_assign ev_c)) rfl rfl rfl ?_
    refine TL.nil ?_
    refine TN.seq ?_
    refine TC.ret ?_
    refine TN.thenR ?_
    subst hF
    exact TN.ret2 rfl (ev_t rfl) (ev_t rfl) (fun w' hw => ⟨v2_0, rfl, Hp.sublist hw (.cons_cons _ (.cons _ .slnil))⟩)
  · rw [bif_neg h3] at hF
    have q4 := (and_imp (or_f h3) (fun h => (l6Good_t (not_f h))) (fun h => (l6Start_t (not_f h))))
    have hS := q4.2
    have hfw := flow_ok hS
    have hf1 := hfw.1
    have hf2 := hfw.2.2
    refine TC.skip ?_
    refine TN.seq ?_
    refine TC.seq ?_
    refine TC.regionH 13 (Hp w [.blk g0_0 29 [vm]]) rfl (by kernel_rfl) dr_hp (fun w hw => hw) ?_
    refine TH.take 0 rfl (by kernel_rfl) (y_ldagg (cs := [vm]) 0 (ev_t rfl) agg_29 rfl) rfl rfl rfl ?_
    refine TH.take 1 rfl (by kernel_rfl) (y_move (ev_t rfl)) rfl rfl rfl ?_
    refine TH.take 2 rfl (by kernel_rfl) (y_move (ev_t rfl)) rfl rfl rfl ?_
    refine TH.take 3 rfl (by kernel_rfl) (y_ldagg (cs := [vm]) 0 (ev_t rfl) agg_29 rfl) rfl rfl rfl ?_
    refine TH.take 4 rfl (by kernel_rfl) (y_move (ev_t rfl)) rfl rfl rfl ?_
    refine TH.take 5 rfl (by kernel_rfl) (y_move (ev_t rfl)) rfl rfl rfl ?_
    refine TH.loud 6 rfl (by kernel_rfl) ?_
    refine TL.callr (ι := Value) (vs := [(.agg #[vm]), va, vreqs]) (fun i => i) (fun i => [rowI 3 i (F_spec_l7Flow m a reqs)]) en_24 ⟨(ev_t rfl), (ev_t rfl), (ev_t rfl), trivial⟩ rfl (fun w hw => spec_l7Flow_ok w vm um m ((rii_arg hm) w hw) va a ((ri_arg ha) w hw) vreqs reqs ((ri_arg hreqs) w hw) (by first | assumption | omega | grind)) (fun r3_6 => ?_)
    refine TL.nil ?_
    refine TH.back (fun w hw => Hp.sublist hw (.cons _ (.cons_cons _ .slnil))) ?_
    refine TH.loud 7 rfl (by kernel_rfl) ?_
    refine TL.callr (ι := Value × Value) (vs := [(.agg #[vm]), va, vreqs, r3_6]) (fun i => (.tuple #[i.1, i.2])) (fun i => [rowI 3 i.1 ((F_spec_l7Rise m a reqs (F_spec_l7Flow m a reqs)).1), rowI 3 i.2 ((F_spec_l7Rise m a reqs (F_spec_l7Flow m a reqs)).2)]) en_30 ⟨(ev_t rfl), (ev_t rfl), (ev_t rfl), (ev_t rfl), trivial⟩ rfl (fun w hw => spec_l7Rise_ok w vm um m ((rii_arg hm) w hw) va a ((ri_arg ha) w hw) vreqs reqs ((ri_arg hreqs) w hw) r3_6 (F_spec_l7Flow m a reqs) ((ri_row 0 rfl) w hw) (by first | assumption | omega | grind) (by first | assumption | omega | grind)) (fun r3_7 => ?_)
    refine TL.nil ?_
    refine TH.back (fun w hw => Hp.sublist hw (.cons _ (.cons _ (.cons _ (.cons_cons _ .slnil))))) ?_
    refine TH.take 8 rfl (by kernel_rfl) (y_move (ev_t rfl)) rfl rfl rfl ?_
    refine TH.take 9 rfl (by kernel_rfl) (y_extract (ev_t rfl) rfl) rfl rfl rfl ?_
    refine TH.take 10 rfl (by kernel_rfl) (y_extract (ev_t rfl) rfl) rfl rfl rfl ?_
    refine TH.take 11 rfl (by kernel_rfl) (y_assign (ev_t rfl)) rfl rfl rfl ?_
    refine TH.take 12 rfl (by kernel_rfl) (y_assign (ev_t rfl)) rfl rfl rfl ?_
    refine TH.done (by kernel_rfl) ?_
    refine TN.seq ?_
    refine TC.seq ?_
    refine TC.region ?_
    refine TL.op (yq (y_move (ev_t rfl))) rfl rfl rfl ?_
    refine TL.op (yq (y_assign (ev_t rfl))) rfl rfl rfl ?_
    refine TL.op (yq (y_assign ev_c)) rfl rfl rfl ?_
    refine TL.nil ?_
    refine TN.seq ?_
    refine TC.ret ?_
    subst hF
    exact TN.ret2 rfl (ev_t rfl) (ev_t rfl) (fun w' hw => ⟨r3_7.1, rfl, Hp.sublist hw (.cons_cons _ (.cons _ (.cons _ (.cons _ .slnil))))⟩)

end Go.Proofs.Ytgnikdpgndmldaa
namespace Go.Proofs.Ytgnikdpgndmldaa
set_option linter.unusedVariables false
set_option linter.unusedSimpArgs false
open Go Go.RowKit
set_option linter.unusedVariables false

set_option maxRecDepth 4000 in
set_option maxHeartbeats 1000000 in
theorem impl_LeastPrices_ok (w : World) (vm : Value) (um : List Value) (m : List (List Int)) (hm : RII w vm um m) (va : Value) (a : List Int) (ha : RI w va a) (vreqs : Value) (reqs : List Int) (hreqs : RI w vreqs reqs)  :
    Calls Try.prog 14 ([(.agg #[vm]), va, vreqs] : List Value).toArray w (fun e w' => ∃ i : Value, e = .returned (.tuple #[i, (.bool ((F_impl_LeastPrices m a reqs).2))]) ∧ Hp w [rowI 3 i ((F_impl_LeastPrices m a reqs).1)] w') := by
  obtain ⟨rz, hF⟩ : ∃ rz, (F_impl_LeastPrices m a reqs) = rz := ⟨_, rfl⟩
  rw [hF]
  unfold F_impl_LeastPrices at hF
  have hlen_m := argT_len hm
  have hlen_a := arg_len ha
  have hlen_reqs := arg_len hreqs
  refine calls_tc Try.func14 rfl rfl rfl ?_
  change TC _ _ _ _ (Hp w []) [(0, (.agg #[vm])), (1, va), (2, vreqs)]
  refine TC.seq ?_
  refine TC.region ?_
  refine TL.box (ev_t rfl) rfl (fun g0_0 => ?_)
  refine TL.op (yq (y_assign ev_c)) rfl rfl rfl ?_
  refine TL.op (yq (y_assign ev_c)) rfl rfl rfl ?_
  refine TL.nil ?_
  refine TN.seq ?_
  refine TC.seq ?_
  refine TC.seq ?_
  refine TC.region ?_
  refine TL.op (yq (y_ldagg (cs := [vm]) 0 (ev_t rfl) agg_29 rfl)) rfl rfl rfl ?_
  refine TL.op (yq (y_move (ev_t rfl))) rfl rfl rfl ?_
  refine TL.op (yq (y_move (ev_t rfl))) rfl rfl rfl ?_
  refine TL.op (y_call (vs := [(.agg #[vm]), va, vreqs]) (v := (.bool (F_impl_isServed m a reqs))) en_26 ⟨(ev_t rfl), (ev_t rfl), (ev_t rfl), trivial⟩ (fun w hw => impl_isServed_ok w vm um m ((rii_arg hm) w hw) va a ((ri_arg ha) w hw) vreqs reqs ((ri_arg hreqs) w hw))) rfl rfl rfl ?_
  refine TL.op (yq (y_not (ev_t rfl))) rfl rfl rfl ?_
  refine TL.nil ?_
  refine TN.seq ?_
  refine TC.cond (b := !(F_impl_isServed m a reqs)) (ev_t rfl) (fun h132 => ?_) (fun h132 => ?_)
  · rw [bif_pos h132] at hF
    have q133 := (not_t h132)
    refine TC.seq ?_
    refine TC.region ?_
    refine TL.op (yq (y_assign ev_c)) rfl rfl rfl ?_
    refine TL.op (yq (y_assign ev_c)) rfl rfl rfl ?_
    refine TL.nil ?_
    refine TN.seq ?_
    refine TC.ret ?_
    refine TN.thenR ?_
    subst hF
    refine TN.cls (fun w hw => hw.nil 3 1) ?_
    exact TN.ret2 rfl (ev_t rfl) (ev_t rfl) (fun w' hw => ⟨(.slice none 0 0), rfl, Hp.sublist hw (.cons_cons _ (.cons _ .slnil))⟩)
  · rw [bif_neg h132] at hF
    have q133 := (isServed_t (not_f h132))
    have hS := q133
    have hcs := cs_flow hS
    have hfb := flow_best hS
    have hfl := hfb.2.1
    have hff := flow_bd hS
    have hff1 := hff.1
    have hr60 := hS.r60
    have hn3 := hS.cf.n3
    have hmx := fun i hi => before_bd hS (i := i) hi
    refine TC.skip ?_
    refine TN.seq ?_
    refine TC.seq ?_
    refine TC.region ?_
    refine TL.op (yq (y_ldagg (cs := [vm]) 0 (ev_t rfl) agg_29 rfl)) rfl rfl rfl ?_
    refine TL.op (yq (y_move (ev_t rfl))) rfl rfl rfl ?_
    refine TL.op (yq (y_move (ev_t rfl))) rfl rfl rfl ?_
    refine TL.callr (ι := Nat × Value × List Value) (vs := [(.agg #[vm]), va, vreqs]) (fun i => (.pointer (some ⟨i.1, 0, none⟩))) (fun i => [.blk i.1 48 [.int .i64 ((F_impl_flowOf m a reqs).1), i.2.1], tabI 25 3 i.2.1 i.2.2 ((F_impl_flowOf m a reqs).2)]) en_28 ⟨(ev_t rfl), (ev_t rfl), (ev_t rfl), trivial⟩ rfl (fun w hw => impl_flowOf_ok w vm um m ((rii_arg hm) w hw) va a ((ri_arg ha) w hw) vreqs reqs ((ri_arg hreqs) w hw) (by first | assumption | omega | grind)) (fun r3_3 => ?_)
    refine TL.op (yq (y_assign (ev_t rfl))) rfl rfl rfl ?_
    refine TL.nil ?_
    refine TN.seq ?_
    refine TC.seq ?_
    refine TC.region ?_
    refine TL.op (yq (y_move (ev_t rfl))) rfl rfl rfl ?_
    refine TL.op (yq (y_nilp (ev_t rfl))) rfl rfl rfl ?_
    refine TL.op (yq (y_fa (fa_48_1 r3_3.1) (ev_t rfl))) rfl rfl rfl ?_
    refine TL.op (yq (y_ldb 0 (ev_t rfl) one_22 rfl rfl)) rfl rfl rfl ?_
    refine TL.callr (ι := Value) (vs := [r3_3.2.1]) (fun i => (.tuple #[i, (.int .i64 ((F_impl_assigned ((F_impl_flowOf m a reqs).2)).2))])) (fun i => [rowI 3 i ((F_impl_assigned ((F_impl_flowOf m a reqs).2)).1)]) en_27 ⟨(ev_t rfl), trivial⟩ rfl (fun w hw => impl_assigned_ok w r3_3.2.1 r3_3.2.2 ((F_impl_flowOf m a reqs).2) ((rii_tab 1 rfl) w hw) (by first | assumption | omega | grind)) (fun r4_4 => ?_)
    refine TL.op (yq (y_move (ev_t rfl))) rfl rfl rfl ?_
    refine TL.op (yq (y_extract (ev_t rfl) rfl)) rfl rfl rfl ?_
    refine TL.op (yq (y_extract (ev_t rfl) rfl)) rfl rfl rfl ?_
    refine TL.op (yq (y_assign (ev_t rfl))) rfl rfl rfl ?_
    refine TL.op (yq (y_assign (ev_t rfl))) rfl rfl rfl ?_
    refine TL.nil ?_
    refine TN.seq ?_
    refine TC.seq ?_
    refine TC.region ?_
    refine TL.buildI (zs := []) (qs := []) slT_25 rfl trivial rfl (by decide) rfl (fun v5_0 => ?_)
    refine TL.op (yq (y_assign (ev_t rfl))) rfl rfl rfl ?_
    refine TL.nil ?_
    refine TN.seq ?_
    refine TC.seq ?_
    refine TC.seq ?_
    refine TC.region ?_
    refine TL.op (yq (y_move (ev_t rfl))) rfl rfl rfl ?_
    refine TL.op (yq (y_len (ev_t rfl) Try.underlying25 (fun w hw => ((ri_row 1 rfl) w hw).ln))) rfl rfl rfl ?_
    refine TL.op (yq (y_move ev_c)) rfl rfl rfl ?_
    refine TL.nil ?_
    refine TN.seq ?_
    refine TC.block ?_
    obtain ⟨c135, hc136⟩ : ∃ c, F_impl_LeastPrices_L1 m a reqs ((((F_impl_assigned ((F_impl_flowOf m a reqs).2)).1.length) - 0) + 1) (([] : List Int), 0) = c := ⟨_, rfl⟩
    rw [hc136] at hF
    refine TC.loop (ι := Nat × List Int × Nat × Value) (fun (fu1, k11_1, k40_1, vk11_1) => [(8, (.pointer (some ⟨r3_3.1, 0, none⟩))), (9, r4_4), (11, vk11_1), (38, r4_4), (39, (.int .i64 ((F_impl_assigned ((F_impl_flowOf m a reqs).2)).1.length : Int))), (40, (.int .i64 (k40_1 : Int)))]) (fun (fu1, k11_1, k40_1, vk11_1) => Hp w [rowI 3 vk11_1 k11_1, rowI 3 r4_4 ((F_impl_assigned ((F_impl_flowOf m a reqs).2)).1), .blk r3_3.1 48 [(.int .i64 ((F_impl_flowOf m a reqs).1)), r3_3.2.1], tabI 25 3 r3_3.2.1 r3_3.2.2 ((F_impl_flowOf m a reqs).2)]) (fun (fu1, k11_1, k40_1, vk11_1) => (k40_1 ≤ ((F_impl_assigned ((F_impl_flowOf m a reqs).2)).1.length)) ∧ (Pt m a reqs k40_1 k11_1) ∧ ((F_impl_assigned ((F_impl_flowOf m a reqs).2)).1.length) - k40_1 < fu1 ∧ F_impl_LeastPrices_L1 m a reqs fu1 (k11_1, k40_1) = c135) (fun (fu1, k11_1, k40_1, vk11_1) => fu1) ((((F_impl_assigned ((F_impl_flowOf m a reqs).2)).1.length) - 0) + 1, ([] : List Int), 0, v5_0) ⟨(by first | omega | (simp [-List.getD_eq_getElem?_getD] <;> omega)), (pt_nil m a reqs), (by omega), hc136⟩ ⟨rfl, rfl, rfl, rfl, rfl, rfl, trivial⟩ (fun w hw => Hp.sublist hw (.cons_cons _ (.cons_cons _ (.cons_cons _ (.cons_cons _ (.cons _ .slnil)))))) ?_
    rintro ⟨fu1, k11_1, k40_1, vk11_1⟩ hJ1
    obtain ⟨hi1_0, hi1_1, hmu1, hL1⟩ : (k40_1 ≤ ((F_impl_assigned ((F_impl_flowOf m a reqs).2)).1.length)) ∧ (Pt m a reqs k40_1 k11_1) ∧ ((F_impl_assigned ((F_impl_flowOf m a reqs).2)).1.length) - k40_1 < fu1 ∧ F_impl_LeastPrices_L1 m a reqs fu1 (k11_1, k40_1) = c135 := hJ1
    change TC _ _ _ _ (Hp w [rowI 3 vk11_1 k11_1, rowI 3 r4_4 ((F_impl_assigned ((F_impl_flowOf m a reqs).2)).1), .blk r3_3.1 48 [(.int .i64 ((F_impl_flowOf m a reqs).1)), r3_3.2.1], tabI 25 3 r3_3.2.1 r3_3.2.2 ((F_impl_flowOf m a reqs).2)]) [(8, (.pointer (some ⟨r3_3.1, 0, none⟩))), (9, r4_4), (11, vk11_1), (38, r4_4), (39, (.int .i64 ((F_impl_assigned ((F_impl_flowOf m a reqs).2)).1.length : Int))), (40, (.int .i64 (k40_1 : Int)))]
    obtain ⟨mf1, rfl⟩ : ∃ m, fu1 = m + 1 := ⟨fu1 - 1, by omega⟩
    rw [F_impl_LeastPrices_L1_s] at hL1
    have hpl := hi1_1.len
    refine TC.seq ?_
    refine TC.region ?_
    refine TL.op (yq (y_lss (ev_t rfl) (ev_t rfl))) rfl rfl rfl ?_
    refine TL.nil ?_
    refine TN.seq ?_
    refine TC.seq ?_
    refine TC.cond (b := decide ((k40_1 : Int) < ((F_impl_assigned ((F_impl_flowOf m a reqs).2)).1.length : Int))) (ev_t rfl) (fun h137 => ?_) (fun h137 => ?_)
    · rw [bif_pos h137] at hL1
      have q138 := (of_decide_eq_true h137)
      have hmi := hmx k40_1 (by omega)
      have hro := hff.2.1 k40_1 (by omega)
      refine TC.skip ?_
      refine TN.seq ?_
      refine TC.seq ?_
      refine TC.block ?_
      refine TC.seq ?_
      refine TC.region ?_
      refine TL.op (yq (y_move (ev_t rfl))) rfl rfl rfl ?_
      have hb139 : k40_1 < (F_impl_assigned ((F_impl_flowOf m a reqs).2)).1.length := (by first | omega | (simp only [List.length_set, List.length_append, List.length_cons, List.length_nil, List.length_replicate]; omega) | (rw [sortI_length]; simp only [List.length_cons, List.length_nil]; omega) | (simp only [ByteArray.size_append]; omega))
      refine TL.op (yq (y_idx (k := k40_1) (ev_t rfl) (ev_t rfl) (by first | omega | simp) slT_25 (ri_row 1 rfl) hb139)) rfl rfl rfl ?_
      refine TL.op (yq (y_ldi (ev_t rfl) one_3 (ri_row 1 rfl) hb139)) rfl rfl rfl ?_
      refine TL.op (yq (y_assign (ev_t rfl))) rfl rfl rfl ?_
      refine TL.op (yq (y_assign (ev_t rfl))) rfl rfl rfl ?_
      refine TL.nil ?_
      refine TN.seq ?_
      refine TC.region ?_
      refine TL.op (yq (y_move (ev_t rfl))) rfl rfl rfl ?_
      refine TL.op (yq (y_move (ev_t rfl))) rfl rfl rfl ?_
      refine TL.op (yq (y_nilp (ev_t rfl))) rfl rfl rfl ?_
      refine TL.op (yq (y_fa (fa_48_1 r3_3.1) (ev_t rfl))) rfl rfl rfl ?_
      refine TL.op (yq (y_ldb 2 (ev_t rfl) one_22 rfl rfl)) rfl rfl rfl ?_
      refine TL.op (yq (y_move (ev_t rfl))) rfl rfl rfl ?_
      have hb140 : k40_1 < (F_impl_flowOf m a reqs).2.length := (by first | omega | (simp only [List.length_set, List.length_append, List.length_cons, List.length_nil, List.length_replicate]; omega) | (rw [sortI_length]; simp only [List.length_cons, List.length_nil]; omega) | (simp only [ByteArray.size_append]; omega))
      refine TL.op (yq (y_idx (k := k40_1) (ev_t rfl) (ev_t rfl) (by first | omega | simp) slT_22 (fun w hw => ((rii_tab 3 rfl) w hw).1) hb140)) rfl rfl rfl ?_
      refine TL.op (yq (y_ldT 3 (ev_t rfl) one_25 rfl hb140)) rfl rfl rfl ?_
      refine TL.op (yq (y_move (ev_t rfl))) rfl rfl rfl ?_
      have hb141 : (((F_impl_assigned ((F_impl_flowOf m a reqs).2)).1.getD k40_1 0)).toNat < ((F_impl_flowOf m a reqs).2.getD k40_1 []).length := (by first | omega | (simp only [List.length_set, List.length_append, List.length_cons, List.length_nil, List.length_replicate]; omega) | (rw [sortI_length]; simp only [List.length_cons, List.length_nil]; omega) | (simp only [ByteArray.size_append]; omega))
      refine TL.op (yq (y_idx (k := (((F_impl_assigned ((F_impl_flowOf m a reqs).2)).1.getD k40_1 0)).toNat) (ev_t rfl) (ev_t rfl) (by first | omega | simp) slT_25 (ri_tab 3 k40_1 rfl hb140) hb141)) rfl rfl rfl ?_
      refine TL.op (yq (y_ldi (ev_t rfl) one_3 (ri_tab 3 k40_1 rfl hb140) hb141)) rfl rfl rfl ?_
      refine TL.buildI (zs := [.tmp 55]) (qs := [(((F_impl_flowOf m a reqs).2.getD k40_1 []).getD ((((F_impl_assigned ((F_impl_flowOf m a reqs).2)).1.getD k40_1 0)).toNat) 0)]) slT_25 rfl ⟨(ev_t rfl), trivial⟩ rfl (by decide) rfl (fun v9_11 => ?_)
      refine TL.appendI 1 (ev_t rfl) (ev_t rfl) rfl slT_25 (ri_row 0 rfl) (by first | omega | (simp [-List.getD_eq_getElem?_getD] <;> omega)) rfl (fun v9_12 => ?_)
      refine TL.op (yq (y_assign (ev_t rfl))) rfl rfl rfl ?_
      refine TL.nil ?_
      refine TN.blockN ?_
      refine TN.seq ?_
      refine TC.region ?_
      refine TL.op (yq (y_add (ev_t rfl) ev_c (by unfold In64; constructor <;> omega))) rfl rfl rfl ?_
      refine TL.op (yq (y_move (ev_t rfl))) rfl rfl rfl ?_
      refine TL.nil ?_
      exact TN.hand (mf1, (k11_1 ++ ([(((F_impl_flowOf m a reqs).2.getD k40_1 []).getD ((((F_impl_assigned ((F_impl_flowOf m a reqs).2)).1.getD k40_1 0)).toNat) 0)])), (k40_1 + 1), v9_12) ⟨(by first | omega | (simp [-List.getD_eq_getElem?_getD] <;> omega)), (pt_push hS hi1_1 (by omega)), (by omega), hL1⟩ (Nat.lt_succ_self _) ⟨rfl, rfl, rfl, rfl, rfl, rfl, trivial⟩ (fun w hw => Hp.sublist hw (.cons _ (.cons_cons _ (.cons_cons _ (.cons_cons _ (.cons_cons _ .slnil))))))
    · rw [bif_neg h137] at hL1
      have q138 := (of_decide_eq_false h137)
      refine TC.exit ?_
      refine TN.thenE ?_
      refine TN.thenE ?_
      rw [← hL1, elim_next] at hF
      try dsimp only at hF
      have hk40 : k40_1 = reqs.length := by omega
      have hpi := pi_of hS (by rw [hk40] at hi1_1; exact hi1_1)
      refine TN.blockH ?_
      refine TN.seq ?_
      refine TC.seq ?_
      refine TC.seq ?_
      refine TC.region ?_
      refine TL.op (yq (y_assign ev_c)) rfl rfl rfl ?_
      refine TL.nil ?_
      refine TN.seq ?_
      refine TC.block ?_
      obtain ⟨c142, hc143⟩ : ∃ c, F_impl_LeastPrices_L2 m a reqs ((2 * (1000000 - Th.lsum k11_1).toNat + (bif true then 1 else 0)) + 1) (true, k11_1) = c := ⟨_, rfl⟩
      rw [hc143] at hF
      refine TC.loop (ι := Nat × Bool × List Int) (fun (fu2, k14_2, m0_2) => [(8, (.pointer (some ⟨r3_3.1, 0, none⟩))), (9, r4_4), (11, vk11_1), (14, (.bool k14_2))]) (fun (fu2, k14_2, m0_2) => Hp w [rowI 3 vk11_1 m0_2, rowI 3 r4_4 ((F_impl_assigned ((F_impl_flowOf m a reqs).2)).1), .blk r3_3.1 48 [(.int .i64 ((F_impl_flowOf m a reqs).1)), r3_3.2.1], tabI 25 3 r3_3.2.1 r3_3.2.2 ((F_impl_flowOf m a reqs).2)]) (fun (fu2, k14_2, m0_2) => (PiM m a reqs m0_2) ∧ 2 * (1000000 - Th.lsum m0_2).toNat + (bif k14_2 then 1 else 0) < fu2 ∧ F_impl_LeastPrices_L2 m a reqs fu2 (k14_2, m0_2) = c142) (fun (fu2, k14_2, m0_2) => fu2) ((2 * (1000000 - Th.lsum k11_1).toNat + (bif true then 1 else 0)) + 1, true, k11_1) ⟨hpi, (by omega), hc143⟩ ⟨rfl, rfl, rfl, rfl, trivial⟩ (fun w hw => hw) ?_
      rintro ⟨fu2, k14_2, m0_2⟩ hJ2
      obtain ⟨hi2_0, hmu2, hL2⟩ : (PiM m a reqs m0_2) ∧ 2 * (1000000 - Th.lsum m0_2).toNat + (bif k14_2 then 1 else 0) < fu2 ∧ F_impl_LeastPrices_L2 m a reqs fu2 (k14_2, m0_2) = c142 := hJ2
      change TC _ _ _ _ (Hp w [rowI 3 vk11_1 m0_2, rowI 3 r4_4 ((F_impl_assigned ((F_impl_flowOf m a reqs).2)).1), .blk r3_3.1 48 [(.int .i64 ((F_impl_flowOf m a reqs).1)), r3_3.2.1], tabI 25 3 r3_3.2.1 r3_3.2.2 ((F_impl_flowOf m a reqs).2)]) [(8, (.pointer (some ⟨r3_3.1, 0, none⟩))), (9, r4_4), (11, vk11_1), (14, (.bool k14_2))]
      obtain ⟨mf2, rfl⟩ : ∃ m, fu2 = m + 1 := ⟨fu2 - 1, by omega⟩
      rw [F_impl_LeastPrices_L2_s] at hL2
      have hln2 := hi2_0.len
      refine TC.seq ?_
      refine TC.seq ?_
      refine TC.region ?_
      refine TL.op (yq (y_move (ev_t rfl))) rfl rfl rfl ?_
      refine TL.nil ?_
      refine TN.seq ?_
      refine TC.cond (b := k14_2) (ev_t rfl) (fun h144 => ?_) (fun h144 => ?_)
      · rw [bif_pos h144] at hL2
        have q145 := h144
        have hb1 : (bif k14_2 then 1 else 0 : Nat) = 1 := by rw [q145]; rfl
        refine TC.skip ?_
        refine TN.seq ?_
        refine TC.block ?_
        refine TC.seq ?_
        refine TC.region ?_
        refine TL.op (yq (y_assign ev_c)) rfl rfl rfl ?_
        refine TL.nil ?_
        refine TN.seq ?_
        refine TC.seq ?_
        refine TC.region ?_
        refine TL.op (yq (y_move (ev_t rfl))) rfl rfl rfl ?_
        refine TL.op (yq (y_len (ev_t rfl) Try.underlying25 (fun w hw => ((ri_row 1 rfl) w hw).ln))) rfl rfl rfl ?_
        refine TL.op (yq (y_move ev_c)) rfl rfl rfl ?_
        refine TL.nil ?_
        refine TN.seq ?_
        refine TC.block ?_
        obtain ⟨c146, hc147⟩ : ∃ c, F_impl_LeastPrices_L3 m a reqs ((((F_impl_assigned ((F_impl_flowOf m a reqs).2)).1.length) - 0) + 1) (false, 0, m0_2) = c := ⟨_, rfl⟩
        rw [hc147] at hL2
        refine TC.loop (ι := Nat × Bool × Nat × List Int) (fun (fu3, k14_3, k62_3, m0_3) => [(8, (.pointer (some ⟨r3_3.1, 0, none⟩))), (9, r4_4), (11, vk11_1), (14, (.bool k14_3)), (60, r4_4), (61, (.int .i64 ((F_impl_assigned ((F_impl_flowOf m a reqs).2)).1.length : Int))), (62, (.int .i64 (k62_3 : Int)))]) (fun (fu3, k14_3, k62_3, m0_3) => Hp w [rowI 3 vk11_1 m0_3, rowI 3 r4_4 ((F_impl_assigned ((F_impl_flowOf m a reqs).2)).1), .blk r3_3.1 48 [(.int .i64 ((F_impl_flowOf m a reqs).1)), r3_3.2.1], tabI 25 3 r3_3.2.1 r3_3.2.2 ((F_impl_flowOf m a reqs).2)]) (fun (fu3, k14_3, k62_3, m0_3) => (k62_3 ≤ ((F_impl_assigned ((F_impl_flowOf m a reqs).2)).1.length)) ∧ (PiM m a reqs m0_3) ∧ (Th.Rup k14_3 m0_3 m0_2) ∧ ((F_impl_assigned ((F_impl_flowOf m a reqs).2)).1.length) - k62_3 < fu3 ∧ F_impl_LeastPrices_L3 m a reqs fu3 (k14_3, k62_3, m0_3) = c146) (fun (fu3, k14_3, k62_3, m0_3) => fu3) ((((F_impl_assigned ((F_impl_flowOf m a reqs).2)).1.length) - 0) + 1, false, 0, m0_2) ⟨(by first | omega | (simp [-List.getD_eq_getElem?_getD] <;> omega)), hi2_0, (Th.Rup.init _), (by omega), hc147⟩ ⟨rfl, rfl, rfl, rfl, rfl, rfl, rfl, trivial⟩ (fun w hw => hw) ?_
        rintro ⟨fu3, k14_3, k62_3, m0_3⟩ hJ3
        obtain ⟨hi3_0, hi3_1, hi3_2, hmu3, hL3⟩ : (k62_3 ≤ ((F_impl_assigned ((F_impl_flowOf m a reqs).2)).1.length)) ∧ (PiM m a reqs m0_3) ∧ (Th.Rup k14_3 m0_3 m0_2) ∧ ((F_impl_assigned ((F_impl_flowOf m a reqs).2)).1.length) - k62_3 < fu3 ∧ F_impl_LeastPrices_L3 m a reqs fu3 (k14_3, k62_3, m0_3) = c146 := hJ3
        change TC _ _ _ _ (Hp w [rowI 3 vk11_1 m0_3, rowI 3 r4_4 ((F_impl_assigned ((F_impl_flowOf m a reqs).2)).1), .blk r3_3.1 48 [(.int .i64 ((F_impl_flowOf m a reqs).1)), r3_3.2.1], tabI 25 3 r3_3.2.1 r3_3.2.2 ((F_impl_flowOf m a reqs).2)]) [(8, (.pointer (some ⟨r3_3.1, 0, none⟩))), (9, r4_4), (11, vk11_1), (14, (.bool k14_3)), (60, r4_4), (61, (.int .i64 ((F_impl_assigned ((F_impl_flowOf m a reqs).2)).1.length : Int))), (62, (.int .i64 (k62_3 : Int)))]
        obtain ⟨mf3, rfl⟩ : ∃ m, fu3 = m + 1 := ⟨fu3 - 1, by omega⟩
        rw [F_impl_LeastPrices_L3_s] at hL3
        have hln3 := hi3_1.len
        refine TC.seq ?_
        refine TC.region ?_
        refine TL.op (yq (y_lss (ev_t rfl) (ev_t rfl))) rfl rfl rfl ?_
        refine TL.nil ?_
        refine TN.seq ?_
        refine TC.seq ?_
        refine TC.cond (b := decide ((k62_3 : Int) < ((F_impl_assigned ((F_impl_flowOf m a reqs).2)).1.length : Int))) (ev_t rfl) (fun h148 => ?_) (fun h148 => ?_)
        · rw [bif_pos h148] at hL3
          have q149 := (of_decide_eq_true h148)
          have hmi := hmx k62_3 (by omega)
          have hri := hff.2.1 k62_3 (by omega)
          refine TC.skip ?_
          refine TN.seq ?_
          refine TC.seq ?_
          refine TC.block ?_
          refine TC.seq ?_
          refine TC.region ?_
          refine TL.op (yq (y_move (ev_t rfl))) rfl rfl rfl ?_
          have hb150 : k62_3 < (F_impl_assigned ((F_impl_flowOf m a reqs).2)).1.length := (by first | omega | (simp only [List.length_set, List.length_append, List.length_cons, List.length_nil, List.length_replicate]; omega) | (rw [sortI_length]; simp only [List.length_cons, List.length_nil]; omega) | (simp only [ByteArray.size_append]; omega))
          refine TL.op (yq (y_idx (k := k62_3) (ev_t rfl) (ev_t rfl) (by first | omega | simp) slT_25 (ri_row 1 rfl) hb150)) rfl rfl rfl ?_
          refine TL.op (yq (y_ldi (ev_t rfl) one_3 (ri_row 1 rfl) hb150)) rfl rfl rfl ?_
          refine TL.op (yq (y_assign (ev_t rfl))) rfl rfl rfl ?_
          refine TL.op (yq (y_assign (ev_t rfl))) rfl rfl rfl ?_
          refine TL.nil ?_
          refine TN.seq ?_
          refine TC.seq ?_
          refine TC.region ?_
          refine TL.op (yq (y_move (ev_t rfl))) rfl rfl rfl ?_
          refine TL.op (yq (y_nilp (ev_t rfl))) rfl rfl rfl ?_
          refine TL.op (yq (y_fa (fa_48_1 r3_3.1) (ev_t rfl))) rfl rfl rfl ?_
          refine TL.op (yq (y_ldb 2 (ev_t rfl) one_22 rfl rfl)) rfl rfl rfl ?_
          refine TL.op (yq (y_len (ev_t rfl) Try.underlying22 (fun w hw => ((fun w hw => ((rii_tab 3 rfl) w hw).1) w hw).ln))) rfl rfl rfl ?_
          refine TL.op (yq (y_move ev_c)) rfl rfl rfl ?_
          refine TL.nil ?_
          refine TN.seq ?_
          refine TC.block ?_
          obtain ⟨c151, hc152⟩ : ∃ c, F_impl_LeastPrices_L4 m a reqs k62_3 ((((F_impl_flowOf m a reqs).2.length) - 0) + 1) (k14_3, 0, m0_3) = c := ⟨_, rfl⟩
          rw [hc152] at hL3
          refine TC.loop (ι := Nat × Bool × Nat × List Int) (fun (fu4, k14_4, k72_4, m0_4) => [(8, (.pointer (some ⟨r3_3.1, 0, none⟩))), (9, r4_4), (11, vk11_1), (14, (.bool k14_4)), (15, (.int .i64 (k62_3 : Int))), (16, (.int .i64 ((F_impl_assigned ((F_impl_flowOf m a reqs).2)).1.getD k62_3 0))), (60, r4_4), (61, (.int .i64 ((F_impl_assigned ((F_impl_flowOf m a reqs).2)).1.length : Int))), (62, (.int .i64 (k62_3 : Int))), (70, r3_3.2.1), (71, (.int .i64 ((F_impl_flowOf m a reqs).2.length : Int))), (72, (.int .i64 (k72_4 : Int)))]) (fun (fu4, k14_4, k72_4, m0_4) => Hp w [rowI 3 vk11_1 m0_4, rowI 3 r4_4 ((F_impl_assigned ((F_impl_flowOf m a reqs).2)).1), .blk r3_3.1 48 [(.int .i64 ((F_impl_flowOf m a reqs).1)), r3_3.2.1], tabI 25 3 r3_3.2.1 r3_3.2.2 ((F_impl_flowOf m a reqs).2)]) (fun (fu4, k14_4, k72_4, m0_4) => (k72_4 ≤ ((F_impl_flowOf m a reqs).2.length)) ∧ (PiM m a reqs m0_4) ∧ (Th.Rup k14_4 m0_4 m0_2) ∧ ((F_impl_flowOf m a reqs).2.length) - k72_4 < fu4 ∧ F_impl_LeastPrices_L4 m a reqs k62_3 fu4 (k14_4, k72_4, m0_4) = c151) (fun (fu4, k14_4, k72_4, m0_4) => fu4) ((((F_impl_flowOf m a reqs).2.length) - 0) + 1, k14_3, 0, m0_3) ⟨(by first | omega | (simp [-List.getD_eq_getElem?_getD] <;> omega)), hi3_1, hi3_2, (by omega), hc152⟩ ⟨rfl, rfl, rfl, rfl, rfl, rfl, rfl, rfl, rfl, rfl, rfl, rfl, trivial⟩ (fun w hw => hw) ?_
          rintro ⟨fu4, k14_4, k72_4, m0_4⟩ hJ4
          obtain ⟨hi4_0, hi4_1, hi4_2, hmu4, hL4⟩ : (k72_4 ≤ ((F_impl_flowOf m a reqs).2.length)) ∧ (PiM m a reqs m0_4) ∧ (Th.Rup k14_4 m0_4 m0_2) ∧ ((F_impl_flowOf m a reqs).2.length) - k72_4 < fu4 ∧ F_impl_LeastPrices_L4 m a reqs k62_3 fu4 (k14_4, k72_4, m0_4) = c151 := hJ4
          change TC _ _ _ _ (Hp w [rowI 3 vk11_1 m0_4, rowI 3 r4_4 ((F_impl_assigned ((F_impl_flowOf m a reqs).2)).1), .blk r3_3.1 48 [(.int .i64 ((F_impl_flowOf m a reqs).1)), r3_3.2.1], tabI 25 3 r3_3.2.1 r3_3.2.2 ((F_impl_flowOf m a reqs).2)]) [(8, (.pointer (some ⟨r3_3.1, 0, none⟩))), (9, r4_4), (11, vk11_1), (14, (.bool k14_4)), (15, (.int .i64 (k62_3 : Int))), (16, (.int .i64 ((F_impl_assigned ((F_impl_flowOf m a reqs).2)).1.getD k62_3 0))), (60, r4_4), (61, (.int .i64 ((F_impl_assigned ((F_impl_flowOf m a reqs).2)).1.length : Int))), (62, (.int .i64 (k62_3 : Int))), (70, r3_3.2.1), (71, (.int .i64 ((F_impl_flowOf m a reqs).2.length : Int))), (72, (.int .i64 (k72_4 : Int)))]
          obtain ⟨mf4, rfl⟩ : ∃ m, fu4 = m + 1 := ⟨fu4 - 1, by omega⟩
          rw [F_impl_LeastPrices_L4_s] at hL4
          have hln4 := hi4_1.len
          refine TC.seq ?_
          refine TC.region ?_
          refine TL.op (yq (y_lss (ev_t rfl) (ev_t rfl))) rfl rfl rfl ?_
          refine TL.nil ?_
          refine TN.seq ?_
          refine TC.seq ?_
          refine TC.cond (b := decide ((k72_4 : Int) < ((F_impl_flowOf m a reqs).2.length : Int))) (ev_t rfl) (fun h153 => ?_) (fun h153 => ?_)
          · rw [bif_pos h153] at hL4
            have q154 := (of_decide_eq_true h153)
            have hrj := hff.2.1 k72_4 (by omega)
            have hb3 := lp_bd hS hi4_1 k62_3 (by omega)
            have hb4 := lp_bd hS hi4_1 k72_4 (by omega)
            have he3 := hff.2.2 k62_3 ((F_impl_assigned (F_impl_flowOf m a reqs).2).1.getD k62_3 0).toNat
            have he4 := hff.2.2 k72_4 ((F_impl_assigned (F_impl_flowOf m a reqs).2).1.getD k62_3 0).toNat
            refine TC.skip ?_
            refine TN.seq ?_
            refine TC.seq ?_
            refine TC.block ?_
            refine TC.seq ?_
            refine TC.region ?_
            refine TL.op (yq (y_move (ev_t rfl))) rfl rfl rfl ?_
            have hb155 : k72_4 < (F_impl_flowOf m a reqs).2.length := (by first | omega | (simp only [List.length_set, List.length_append, List.length_cons, List.length_nil, List.length_replicate]; omega) | (rw [sortI_length]; simp only [List.length_cons, List.length_nil]; omega) | (simp only [ByteArray.size_append]; omega))
            refine TL.op (yq (y_idx (k := k72_4) (ev_t rfl) (ev_t rfl) (by first | omega | simp) slT_22 (fun w hw => ((rii_tab 3 rfl) w hw).1) hb155)) rfl rfl rfl ?_
            refine TL.op (yq (y_ldT 3 (ev_t rfl) one_25 rfl hb155)) rfl rfl rfl ?_
            refine TL.op (yq (y_assign (ev_t rfl))) rfl rfl rfl ?_
            refine TL.op (yq (y_assign (ev_t rfl))) rfl rfl rfl ?_
            refine TL.nil ?_
            refine TN.seq ?_
            refine TC.seq ?_
            refine TC.seq ?_
            refine TC.region ?_
            refine TL.op (yq (y_move (ev_t rfl))) rfl rfl rfl ?_
            refine TL.op (yq (y_move (ev_t rfl))) rfl rfl rfl ?_
            have hb156 : (((F_impl_assigned ((F_impl_flowOf m a reqs).2)).1.getD k62_3 0)).toNat < ((F_impl_flowOf m a reqs).2.getD k72_4 []).length := (by first | omega | (simp only [List.length_set, List.length_append, List.length_cons, List.length_nil, List.length_replicate]; omega) | (rw [sortI_length]; simp only [List.length_cons, List.length_nil]; omega) | (simp only [ByteArray.size_append]; omega))
            refine TL.op (yq (y_idx (k := (((F_impl_assigned ((F_impl_flowOf m a reqs).2)).1.getD k62_3 0)).toNat) (ev_t rfl) (ev_t rfl) (by first | omega | simp) slT_25 (ri_tab 3 k72_4 rfl hb155) hb156)) rfl rfl rfl ?_
            refine TL.op (yq (y_ldi (ev_t rfl) one_3 (ri_tab 3 k72_4 rfl hb155) hb156)) rfl rfl rfl ?_
            refine TL.op (yq (y_eql (ev_t rfl) ev_c)) rfl rfl rfl ?_
            refine TL.nil ?_
            refine TN.seq ?_
            refine TC.cond (b := decide ((((F_impl_flowOf m a reqs).2.getD k72_4 []).getD ((((F_impl_assigned ((F_impl_flowOf m a reqs).2)).1.getD k62_3 0)).toNat) 0) = 1073741824)) (ev_t rfl) (fun h157 => ?_) (fun h157 => ?_)
            · rw [bif_pos h157] at hL4
              have q158 := (of_decide_eq_true h157)
              refine TC.exit ?_
              refine TN.thenE ?_
              refine TN.blockH ?_
              refine TN.seq ?_
              refine TC.region ?_
              refine TL.op (yq (y_add (ev_t rfl) ev_c (by unfold In64; constructor <;> omega))) rfl rfl rfl ?_
              refine TL.op (yq (y_move (ev_t rfl))) rfl rfl rfl ?_
              refine TL.nil ?_
              exact TN.hand (mf4, k14_4, (k72_4 + 1), m0_4) ⟨(by first | omega | (simp [-List.getD_eq_getElem?_getD] <;> omega)), (by first | exact hst.1 | exact hi4_1), (by first | exact hi4_2.up hst.2 | exact hi4_2), (by omega), hL4⟩ (Nat.lt_succ_self _) ⟨rfl, rfl, rfl, rfl, rfl, rfl, rfl, rfl, rfl, rfl, rfl, rfl, trivial⟩ (fun w hw => hw)
            · rw [bif_neg h157] at hL4
              have q158 := (of_decide_eq_false h157)
              have hnf := q158
              refine TC.skip ?_
              refine TN.seq ?_
              refine TC.seq ?_
              refine TC.regionQ (by kernel_rfl) (by kernel_rfl) dr_hp ?_
              refine TQ.op (yq (y_move (ev_t rfl))) rfl rfl rfl ?_
              refine TQ.op (yq (y_move (ev_t rfl))) rfl rfl rfl ?_
              have hb159 : k72_4 < m0_4.length := (by first | omega | (simp only [List.length_set, List.length_append, List.length_cons, List.length_nil, List.length_replicate]; omega) | (rw [sortI_length]; simp only [List.length_cons, List.length_nil]; omega) | (simp only [ByteArray.size_append]; omega))
              refine TQ.op (yq (y_idx (k := k72_4) (ev_t rfl) (ev_t rfl) (by first | omega | simp) slT_25 (ri_row 0 rfl) hb159)) rfl rfl rfl ?_
              refine TQ.op (yq (y_ldi (ev_t rfl) one_3 (ri_row 0 rfl) hb159)) rfl rfl rfl ?_
              refine TQ.op (yq (y_move (ev_t rfl))) rfl rfl rfl ?_
              refine TQ.op (yq (y_move (ev_t rfl))) rfl rfl rfl ?_
              have hb160 : (((F_impl_assigned ((F_impl_flowOf m a reqs).2)).1.getD k62_3 0)).toNat < ((F_impl_flowOf m a reqs).2.getD k72_4 []).length := (by first | omega | (simp only [List.length_set, List.length_append, List.length_cons, List.length_nil, List.length_replicate]; omega) | (rw [sortI_length]; simp only [List.length_cons, List.length_nil]; omega) | (simp only [ByteArray.size_append]; omega))
              refine TQ.op (yq (y_idx (k := (((F_impl_assigned ((F_impl_flowOf m a reqs).2)).1.getD k62_3 0)).toNat) (ev_t rfl) (ev_t rfl) (by first | omega | simp) slT_25 (ri_tab 3 k72_4 rfl hb155) hb160)) rfl rfl rfl ?_
              refine TQ.op (yq (y_ldi (ev_t rfl) one_3 (ri_tab 3 k72_4 rfl hb155) hb160)) rfl rfl rfl ?_
              refine TQ.op (yq (y_sub (ev_t rfl) (ev_t rfl) (by unfold In64; constructor <;> omega))) rfl rfl rfl ?_
              refine TQ.op (yq (y_move (ev_t rfl))) rfl rfl rfl ?_
              refine TQ.op (yq (y_nilp (ev_t rfl))) rfl rfl rfl ?_
              refine TQ.op (yq (y_fa (fa_48_1 r3_3.1) (ev_t rfl))) rfl rfl rfl ?_
              refine TQ.op (yq (y_ldb 2 (ev_t rfl) one_22 rfl rfl)) rfl rfl rfl ?_
              refine TQ.op (yq (y_move (ev_t rfl))) rfl rfl rfl ?_
              have hb161 : k62_3 < (F_impl_flowOf m a reqs).2.length := (by first | omega | (simp only [List.length_set, List.length_append, List.length_cons, List.length_nil, List.length_replicate]; omega) | (rw [sortI_length]; simp only [List.length_cons, List.length_nil]; omega) | (simp only [ByteArray.size_append]; omega))
              refine TQ.op (yq (y_idx (k := k62_3) (ev_t rfl) (ev_t rfl) (by first | omega | simp) slT_22 (fun w hw => ((rii_tab 3 rfl) w hw).1) hb161)) rfl rfl rfl ?_
              refine TQ.op (yq (y_ldT 3 (ev_t rfl) one_25 rfl hb161)) rfl rfl rfl ?_
              refine TQ.op (yq (y_move (ev_t rfl))) rfl rfl rfl ?_
              have hb162 : (((F_impl_assigned ((F_impl_flowOf m a reqs).2)).1.getD k62_3 0)).toNat < ((F_impl_flowOf m a reqs).2.getD k62_3 []).length := (by first | omega | (simp only [List.length_set, List.length_append, List.length_cons, List.length_nil, List.length_replicate]; omega) | (rw [sortI_length]; simp only [List.length_cons, List.length_nil]; omega) | (simp only [ByteArray.size_append]; omega))
              refine TQ.op (yq (y_idx (k := (((F_impl_assigned ((F_impl_flowOf m a reqs).2)).1.getD k62_3 0)).toNat) (ev_t rfl) (ev_t rfl) (by first | omega | simp) slT_25 (ri_tab 3 k62_3 rfl hb161) hb162)) rfl rfl rfl ?_
              refine TQ.op (yq (y_ldi (ev_t rfl) one_3 (ri_tab 3 k62_3 rfl hb161) hb162)) rfl rfl rfl ?_
              refine TQ.op (yq (y_add (ev_t rfl) (ev_t rfl) (by unfold In64; constructor <;> omega))) rfl rfl rfl ?_
              refine TQ.op (yq (y_assign (ev_t rfl))) rfl rfl rfl ?_
              refine TQ.nil ?_
              refine TN.seq ?_
              refine TC.seq ?_
              refine TC.region ?_
              refine TL.op (yq (y_move (ev_t rfl))) rfl rfl rfl ?_
              refine TL.op (yq (y_move (ev_t rfl))) rfl rfl rfl ?_
              refine TL.op (yq (y_move (ev_t rfl))) rfl rfl rfl ?_
              have hb163 : k62_3 < m0_4.length := (by first | omega | (simp only [List.length_set, List.length_append, List.length_cons, List.length_nil, List.length_replicate]; omega) | (rw [sortI_length]; simp only [List.length_cons, List.length_nil]; omega) | (simp only [ByteArray.size_append]; omega))
              refine TL.op (yq (y_idx (k := k62_3) (ev_t rfl) (ev_t rfl) (by first | omega | simp) slT_25 (ri_row 0 rfl) hb163)) rfl rfl rfl ?_
              refine TL.op (yq (y_ldi (ev_t rfl) one_3 (ri_row 0 rfl) hb163)) rfl rfl rfl ?_
              refine TL.op (yq (y_gtr (ev_t rfl) (ev_t rfl))) rfl rfl rfl ?_
              refine TL.nil ?_
              refine TN.seq ?_
              refine TC.cond (b := decide ((m0_4.getD k62_3 0) < ((m0_4.getD k72_4 0) - (((F_impl_flowOf m a reqs).2.getD k72_4 []).getD ((((F_impl_assigned ((F_impl_flowOf m a reqs).2)).1.getD k62_3 0)).toNat) 0)) + (((F_impl_flowOf m a reqs).2.getD k62_3 []).getD ((((F_impl_assigned ((F_impl_flowOf m a reqs).2)).1.getD k62_3 0)).toNat) 0))) (ev_t rfl) (fun h164 => ?_) (fun h164 => ?_)
              · rw [bif_pos h164] at hL4
                have q165 := (of_decide_eq_true h164)
                have hst := lp_step hS hi4_1 (by omega) (by omega) hnf q165
                refine TC.region ?_
                refine TL.op (yq (y_move (ev_t rfl))) rfl rfl rfl ?_
                refine TL.op (yq (y_move (ev_t rfl))) rfl rfl rfl ?_
                refine TL.op (yq (y_move (ev_t rfl))) rfl rfl rfl ?_
                have hb166 : k62_3 < m0_4.length := (by first | omega | (simp only [List.length_set, List.length_append, List.length_cons, List.length_nil, List.length_replicate]; omega) | (rw [sortI_length]; simp only [List.length_cons, List.length_nil]; omega) | (simp only [ByteArray.size_append]; omega))
                refine TL.op (yq (y_idx (k := k62_3) (ev_t rfl) (ev_t rfl) (by first | omega | simp) slT_25 (ri_row 0 rfl) hb166)) rfl rfl rfl ?_
                refine TL.storeI 0 (ev_t rfl) (ev_t rfl) one_3 rfl hb166 ?_
                refine TL.op (yq (y_assign ev_c)) rfl rfl rfl ?_
                refine TL.nil ?_
                refine TN.blockN ?_
                refine TN.seq ?_
                refine TC.region ?_
                refine TL.op (yq (y_add (ev_t rfl) ev_c (by unfold In64; constructor <;> omega))) rfl rfl rfl ?_
                refine TL.op (yq (y_move (ev_t rfl))) rfl rfl rfl ?_
                refine TL.nil ?_
                exact TN.hand (mf4, true, (k72_4 + 1), (m0_4.set k62_3 (((m0_4.getD k72_4 0) - (((F_impl_flowOf m a reqs).2.getD k72_4 []).getD ((((F_impl_assigned ((F_impl_flowOf m a reqs).2)).1.getD k62_3 0)).toNat) 0)) + (((F_impl_flowOf m a reqs).2.getD k62_3 []).getD ((((F_impl_assigned ((F_impl_flowOf m a reqs).2)).1.getD k62_3 0)).toNat) 0)))) ⟨(by first | omega | (simp [-List.getD_eq_getElem?_getD] <;> omega)), (by first | exact hst.1 | exact hi4_1), (by first | exact hi4_2.up hst.2 | exact hi4_2), (by omega), hL4⟩ (Nat.lt_succ_self _) ⟨rfl, rfl, rfl, rfl, rfl, rfl, rfl, rfl, rfl, rfl, rfl, rfl, trivial⟩ (fun w hw => hw)
              · rw [bif_neg h164] at hL4
                have q165 := (of_decide_eq_false h164)
                refine TC.skip ?_
                refine TN.blockN ?_
                refine TN.seq ?_
                refine TC.region ?_
                refine TL.op (yq (y_add (ev_t rfl) ev_c (by unfold In64; constructor <;> omega))) rfl rfl rfl ?_
                refine TL.op (yq (y_move (ev_t rfl))) rfl rfl rfl ?_
                refine TL.nil ?_
                exact TN.hand (mf4, k14_4, (k72_4 + 1), m0_4) ⟨(by first | omega | (simp [-List.getD_eq_getElem?_getD] <;> omega)), (by first | exact hst.1 | exact hi4_1), (by first | exact hi4_2.up hst.2 | exact hi4_2), (by omega), hL4⟩ (Nat.lt_succ_self _) ⟨rfl, rfl, rfl, rfl, rfl, rfl, rfl, rfl, rfl, rfl, rfl, rfl, trivial⟩ (fun w hw => hw)
          · rw [bif_neg h153] at hL4
            have q154 := (of_decide_eq_false h153)
            refine TC.exit ?_
            refine TN.thenE ?_
            refine TN.thenE ?_
            rw [← hL4, elim_next] at hL3
            try dsimp only at hL3
            refine TN.blockH ?_
            refine TN.blockN ?_
            refine TN.seq ?_
            refine TC.region ?_
            refine TL.op (yq (y_add (ev_t rfl) ev_c (by unfold In64; constructor <;> omega))) rfl rfl rfl ?_
            refine TL.op (yq (y_move (ev_t rfl))) rfl rfl rfl ?_
            refine TL.nil ?_
            exact TN.hand (mf3, k14_4, (k62_3 + 1), m0_4) ⟨(by first | omega | (simp [-List.getD_eq_getElem?_getD] <;> omega)), hi4_1, hi4_2, (by omega), hL3⟩ (Nat.lt_succ_self _) ⟨rfl, rfl, rfl, rfl, rfl, rfl, rfl, trivial⟩ (fun w hw => hw)
        · rw [bif_neg h148] at hL3
          have q149 := (of_decide_eq_false h148)
          refine TC.exit ?_
          refine TN.thenE ?_
          refine TN.thenE ?_
          rw [← hL3, elim_next] at hL2
          try dsimp only at hL2
          refine TN.blockH ?_
          refine TN.blockN ?_
          have hmu2b := hi3_2.mu (lp_sum hS hi3_1)
          exact TN.hand (mf2, k14_3, m0_3) ⟨hi3_1, (by omega), hL2⟩ (Nat.lt_succ_self _) ⟨rfl, rfl, rfl, rfl, trivial⟩ (fun w hw => hw)
      · rw [bif_neg h144] at hL2
        have q145 := h144
        refine TC.exit ?_
        refine TN.thenE ?_
        refine TN.thenE ?_
        rw [← hL2, elim_next] at hF
        try dsimp only at hF
        refine TN.blockH ?_
        refine TN.seq ?_
        refine TC.seq ?_
        refine TC.region ?_
        refine TL.op (yq (y_move (ev_t rfl))) rfl rfl rfl ?_
        refine TL.op (yq (y_assign (ev_t rfl))) rfl rfl rfl ?_
        refine TL.op (yq (y_assign ev_c)) rfl rfl rfl ?_
        refine TL.nil ?_
        refine TN.seq ?_
        refine TC.ret ?_
        subst hF
        exact TN.ret2 rfl (ev_t rfl) (ev_t rfl) (fun w' hw => ⟨vk11_1, rfl, Hp.sublist hw (.cons_cons _ (.cons _ (.cons _ (.cons _ .slnil))))⟩)

end Go.Proofs.Ytgnikdpgndmldaa
namespace Go.Proofs.Ytgnikdpgndmldaa
set_option linter.unusedVariables false
set_option linter.unusedSimpArgs false
open Go Go.RowKit
set_option linter.unusedVariables false

set_option maxRecDepth 4000 in
set_option maxHeartbeats 1000000 in
theorem laws_eqIntS_ok (w : World) (va : Value) (a : List Int) (ha : RI w va a) (vb : Value) (b : List Int) (hb : RI w vb b)  :
    Calls Try.prog 12 ([va, vb] : List Value).toArray w (Ret (.bool (F_laws_eqIntS a b)) (Hp w [])) := by
  obtain ⟨rz, hF⟩ : ∃ rz, (F_laws_eqIntS a b) = rz := ⟨_, rfl⟩
  rw [hF]
  unfold F_laws_eqIntS at hF
  have hlen_a := arg_len ha
  have hlen_b := arg_len hb
  refine calls_tc Try.func12 rfl rfl rfl ?_
  change TC _ _ _ _ (Hp w []) [(0, va), (1, vb)]
  refine TC.seq ?_
  refine TC.region ?_
  refine TL.op (yq (y_assign ev_c)) rfl rfl rfl ?_
  refine TL.nil ?_
  refine TN.seq ?_
  refine TC.seq ?_
  refine TC.seq ?_
  refine TC.region ?_
  refine TL.op (yq (y_move (ev_t rfl))) rfl rfl rfl ?_
  refine TL.op (yq (y_len (ev_t rfl) Try.underlying25 (fun w hw => ((ri_arg ha) w hw).ln))) rfl rfl rfl ?_
  refine TL.op (yq (y_move (ev_t rfl))) rfl rfl rfl ?_
  refine TL.op (yq (y_len (ev_t rfl) Try.underlying25 (fun w hw => ((ri_arg hb) w hw).ln))) rfl rfl rfl ?_
  refine TL.op (yq (y_neq (ev_t rfl) (ev_t rfl))) rfl rfl rfl ?_
  refine TL.nil ?_
  refine TN.seq ?_
  refine TC.cond (b := !decide ((a.length : Int) = (b.length : Int))) (ev_t rfl) (fun h15 => ?_) (fun h15 => ?_)
  · rw [bif_pos h15] at hF
    have q16 := (of_decide_eq_false (not_t h15))
    refine TC.seq ?_
    refine TC.region ?_
    refine TL.op (yq (y_assign ev_c)) rfl rfl rfl ?_
    refine TL.nil ?_
    refine TN.seq ?_
    refine TC.ret ?_
    refine TN.thenR ?_
    subst hF
    exact TN.ret1 rfl (ev_t rfl) (fun w' hw => ⟨rfl, hw⟩)
  · rw [bif_neg h15] at hF
    have q16 := (of_decide_eq_true (not_f h15))
    refine TC.skip ?_
    refine TN.seq ?_
    refine TC.seq ?_
    refine TC.seq ?_
    refine TC.region ?_
    refine TL.op (yq (y_assign ev_c)) rfl rfl rfl ?_
    refine TL.nil ?_
    refine TN.seq ?_
    refine TC.block ?_
    obtain ⟨c17, hc18⟩ : ∃ c, F_laws_eqIntS_L1 a b ((a.length - 0) + 1) 0 = c := ⟨_, rfl⟩
    rw [hc18] at hF
    refine TC.loop (ι := Nat × Nat) (fun (fu1, i1) => [(0, va), (1, vb), (5, (.int .i64 (i1 : Int)))]) (fun (fu1, i1) => Hp w []) (fun (fu1, i1) => (i1 ≤ a.length) ∧ a.length - i1 < fu1 ∧ F_laws_eqIntS_L1 a b fu1 i1 = c17) (fun (fu1, i1) => fu1) ((a.length - 0) + 1, 0) ⟨(by first | omega | (simp [-List.getD_eq_getElem?_getD] <;> omega)), (by omega), hc18⟩ ⟨rfl, rfl, rfl, trivial⟩ (fun w hw => hw) ?_
    rintro ⟨fu1, i1⟩ hJ1
    obtain ⟨hi1_0, hmu1, hL1⟩ : (i1 ≤ a.length) ∧ a.length - i1 < fu1 ∧ F_laws_eqIntS_L1 a b fu1 i1 = c17 := hJ1
    change TC _ _ _ _ (Hp w []) [(0, va), (1, vb), (5, (.int .i64 (i1 : Int)))]
    obtain ⟨mf1, rfl⟩ : ∃ m, fu1 = m + 1 := ⟨fu1 - 1, by omega⟩
    rw [F_laws_eqIntS_L1_s] at hL1
    refine TC.seq ?_
    refine TC.seq ?_
    refine TC.region ?_
    refine TL.op (yq (y_move (ev_t rfl))) rfl rfl rfl ?_
    refine TL.op (yq (y_move (ev_t rfl))) rfl rfl rfl ?_
    refine TL.op (yq (y_len (ev_t rfl) Try.underlying25 (fun w hw => ((ri_arg ha) w hw).ln))) rfl rfl rfl ?_
    refine TL.op (yq (y_lss (ev_t rfl) (ev_t rfl))) rfl rfl rfl ?_
    refine TL.nil ?_
    refine TN.seq ?_
    refine TC.cond (b := decide ((i1 : Int) < (a.length : Int))) (ev_t rfl) (fun h19 => ?_) (fun h19 => ?_)
    · rw [bif_pos h19] at hL1
      have q20 := (of_decide_eq_true h19)
      refine TC.skip ?_
      refine TN.seq ?_
      refine TC.seq ?_
      refine TC.block ?_
      refine TC.seq ?_
      refine TC.regionQ (by kernel_rfl) (by kernel_rfl) dr_hp ?_
      refine TQ.op (yq (y_move (ev_t rfl))) rfl rfl rfl ?_
      refine TQ.op (yq (y_move (ev_t rfl))) rfl rfl rfl ?_
      have hb21 : i1 < a.length := (by first | omega | (simp only [List.length_set, List.length_append, List.length_cons, List.length_nil, List.length_replicate]; omega) | (rw [sortI_length]; simp only [List.length_cons, List.length_nil]; omega) | (simp only [ByteArray.size_append]; omega))
      refine TQ.op (yq (y_idx (k := i1) (ev_t rfl) (ev_t rfl) (by first | omega | simp) slT_25 (ri_arg ha) hb21)) rfl rfl rfl ?_
      refine TQ.op (yq (y_ldi (ev_t rfl) one_3 (ri_arg ha) hb21)) rfl rfl rfl ?_
      refine TQ.op (yq (y_move (ev_t rfl))) rfl rfl rfl ?_
      refine TQ.op (yq (y_move (ev_t rfl))) rfl rfl rfl ?_
      have hb22 : i1 < b.length := (by first | omega | (simp only [List.length_set, List.length_append, List.length_cons, List.length_nil, List.length_replicate]; omega) | (rw [sortI_length]; simp only [List.length_cons, List.length_nil]; omega) | (simp only [ByteArray.size_append]; omega))
      refine TQ.op (yq (y_idx (k := i1) (ev_t rfl) (ev_t rfl) (by first | omega | simp) slT_25 (ri_arg hb) hb22)) rfl rfl rfl ?_
      refine TQ.op (yq (y_ldi (ev_t rfl) one_3 (ri_arg hb) hb22)) rfl rfl rfl ?_
      refine TQ.op (yq (y_neq (ev_t rfl) (ev_t rfl))) rfl rfl rfl ?_
      refine TQ.nil ?_
      refine TN.seq ?_
      refine TC.cond (b := !decide ((a.getD i1 0) = (b.getD i1 0))) (ev_t rfl) (fun h23 => ?_) (fun h23 => ?_)
      · rw [bif_pos h23] at hL1
        have q24 := (of_decide_eq_false (not_t h23))
        refine TC.seq ?_
        refine TC.region ?_
        refine TL.op (yq (y_assign ev_c)) rfl rfl rfl ?_
        refine TL.nil ?_
        refine TN.seq ?_
        refine TC.ret ?_
        refine TN.blockR ?_
        refine TN.thenR ?_
        refine TN.thenR ?_
        rw [← hL1, elim_ret] at hF
        refine TN.blockR ?_
        refine TN.thenR ?_
        subst hF
        exact TN.ret1 rfl (ev_t rfl) (fun w' hw => ⟨rfl, hw⟩)
      · rw [bif_neg h23] at hL1
        have q24 := (of_decide_eq_true (not_f h23))
        refine TC.skip ?_
        refine TN.blockN ?_
        refine TN.seq ?_
        refine TC.region ?_
        refine TL.op (yq (y_move (ev_t rfl))) rfl rfl rfl ?_
        refine TL.op (yq (y_add (ev_t rfl) ev_c (by unfold In64; constructor <;> omega))) rfl rfl rfl ?_
        refine TL.op (yq (y_assign (ev_t rfl))) rfl rfl rfl ?_
        refine TL.nil ?_
        exact TN.hand (mf1, (i1 + 1)) ⟨(by first | omega | (simp [-List.getD_eq_getElem?_getD] <;> omega)), (by omega), hL1⟩ (Nat.lt_succ_self _) ⟨rfl, rfl, rfl, trivial⟩ (fun w hw => hw)
    · rw [bif_neg h19] at hL1
      have q20 := (of_decide_eq_false h19)
      refine TC.exit ?_
      refine TN.thenE ?_
      refine TN.thenE ?_
      rw [← hL1, elim_next] at hF
      try dsimp only at hF
      refine TN.blockH ?_
      refine TN.seq ?_
      refine TC.seq ?_
      refine TC.region ?_
      refine TL.op (yq (y_assign ev_c)) rfl rfl rfl ?_
      refine TL.nil ?_
      refine TN.seq ?_
      refine TC.ret ?_
      subst hF
      exact TN.ret1 rfl (ev_t rfl) (fun w' hw => ⟨rfl, hw⟩)

set_option maxRecDepth 4000 in
set_option maxHeartbeats 1000000 in
theorem laws_toIntS_ok (w : World) (va : Value) (a : List Int) (ha : RI w va a) (hp0 : a.length ≤ 1048576) :
    Calls Try.prog 9 ([va] : List Value).toArray w (fun e w' => ∃ i : Value, e = .returned i ∧ Hp w [rowI 3 i (F_laws_toIntS a)] w') := by
  obtain ⟨rz, hF⟩ : ∃ rz, (F_laws_toIntS a) = rz := ⟨_, rfl⟩
  rw [hF]
  unfold F_laws_toIntS at hF
  have hlen_a := arg_len ha
  refine calls_tc Try.func9 rfl rfl rfl ?_
  change TC _ _ _ _ (Hp w []) [(0, va)]
  refine TC.seq ?_
  refine TC.region ?_
  refine TL.op (yq (y_assign ev_c)) rfl rfl rfl ?_
  refine TL.nil ?_
  refine TN.seq ?_
  refine TC.seq ?_
  refine TC.region ?_
  refine TL.op (yq (y_move (ev_t rfl))) rfl rfl rfl ?_
  refine TL.op (yq (y_len (ev_t rfl) Try.underlying25 (fun w hw => ((ri_arg ha) w hw).ln))) rfl rfl rfl ?_
  refine TL.makeSlice (n := a.length) (ev_t rfl) (ev_t rfl) (by omega) slT_25 rfl (by omega) (by unfold maxLen; omega) rfl (fun v1_2 => ?_)
  refine TL.cls (fun w hw => hw.zeros) ?_
  refine TL.op (yq (y_assign (ev_t rfl))) rfl rfl rfl ?_
  refine TL.nil ?_
  refine TN.seq ?_
  refine TC.seq ?_
  refine TC.seq ?_
  refine TC.region ?_
  refine TL.op (yq (y_assign ev_c)) rfl rfl rfl ?_
  refine TL.nil ?_
  refine TN.seq ?_
  refine TC.block ?_
  obtain ⟨c13, hc14⟩ : ∃ c, F_laws_toIntS_L1 a ((a.length - 0) + 1) (0, (List.replicate a.length (0 : Int))) = c := ⟨_, rfl⟩
  rw [hc14] at hF
  refine TC.loop (ι := Nat × Nat × List Int) (fun (fu1, i1, out1) => [(0, va), (3, v1_2), (4, (.int .i64 (i1 : Int)))]) (fun (fu1, i1, out1) => Hp w [rowI 3 v1_2 out1]) (fun (fu1, i1, out1) => (i1 ≤ a.length) ∧ (out1.length = a.length) ∧ a.length - i1 < fu1 ∧ F_laws_toIntS_L1 a fu1 (i1, out1) = c13) (fun (fu1, i1, out1) => fu1) ((a.length - 0) + 1, 0, (List.replicate a.length (0 : Int))) ⟨(by first | omega | (simp [-List.getD_eq_getElem?_getD] <;> omega)), (by first | omega | (simp [-List.getD_eq_getElem?_getD] <;> omega)), (by omega), hc14⟩ ⟨rfl, rfl, rfl, trivial⟩ (fun w hw => hw) ?_
  rintro ⟨fu1, i1, out1⟩ hJ1
  obtain ⟨hi1_0, hi1_1, hmu1, hL1⟩ : (i1 ≤ a.length) ∧ (out1.length = a.length) ∧ a.length - i1 < fu1 ∧ F_laws_toIntS_L1 a fu1 (i1, out1) = c13 := hJ1
  change TC _ _ _ _ (Hp w [rowI 3 v1_2 out1]) [(0, va), (3, v1_2), (4, (.int .i64 (i1 : Int)))]
  obtain ⟨mf1, rfl⟩ : ∃ m, fu1 = m + 1 := ⟨fu1 - 1, by omega⟩
  rw [F_laws_toIntS_L1_s] at hL1
  refine TC.seq ?_
  refine TC.seq ?_
  refine TC.region ?_
  refine TL.op (yq (y_move (ev_t rfl))) rfl rfl rfl ?_
  refine TL.op (yq (y_move (ev_t rfl))) rfl rfl rfl ?_
  refine TL.op (yq (y_len (ev_t rfl) Try.underlying25 (fun w hw => ((ri_arg ha) w hw).ln))) rfl rfl rfl ?_
  refine TL.op (yq (y_lss (ev_t rfl) (ev_t rfl))) rfl rfl rfl ?_
  refine TL.nil ?_
  refine TN.seq ?_
  refine TC.cond (b := decide ((i1 : Int) < (a.length : Int))) (ev_t rfl) (fun h15 => ?_) (fun h15 => ?_)
  · rw [bif_pos h15] at hL1
    have q16 := (of_decide_eq_true h15)
    refine TC.skip ?_
    refine TN.seq ?_
    refine TC.seq ?_
    refine TC.block ?_
    refine TC.region ?_
    refine TL.op (yq (y_move (ev_t rfl))) rfl rfl rfl ?_
    refine TL.op (yq (y_move (ev_t rfl))) rfl rfl rfl ?_
    refine TL.op (yq (y_move (ev_t rfl))) rfl rfl rfl ?_
    refine TL.op (yq (y_move (ev_t rfl))) rfl rfl rfl ?_
    have hb17 : i1 < a.length := (by first | omega | (simp only [List.length_set, List.length_append, List.length_cons, List.length_nil, List.length_replicate]; omega) | (rw [sortI_length]; simp only [List.length_cons, List.length_nil]; omega) | (simp only [ByteArray.size_append]; omega))
    refine TL.op (yq (y_idx (k := i1) (ev_t rfl) (ev_t rfl) (by first | omega | simp) slT_25 (ri_arg ha) hb17)) rfl rfl rfl ?_
    refine TL.op (yq (y_ldi (ev_t rfl) one_3 (ri_arg ha) hb17)) rfl rfl rfl ?_
    have hb18 : i1 < out1.length := (by first | omega | (simp only [List.length_set, List.length_append, List.length_cons, List.length_nil, List.length_replicate]; omega) | (rw [sortI_length]; simp only [List.length_cons, List.length_nil]; omega) | (simp only [ByteArray.size_append]; omega))
    refine TL.op (yq (y_idx (k := i1) (ev_t rfl) (ev_t rfl) (by first | omega | simp) slT_25 (ri_row 0 rfl) hb18)) rfl rfl rfl ?_
    refine TL.storeI 0 (ev_t rfl) (ev_t rfl) one_3 rfl hb18 ?_
    refine TL.nil ?_
    refine TN.blockN ?_
    refine TN.seq ?_
    refine TC.region ?_
    refine TL.op (yq (y_move (ev_t rfl))) rfl rfl rfl ?_
    refine TL.op (yq (y_add (ev_t rfl) ev_c (by unfold In64; constructor <;> omega))) rfl rfl rfl ?_
    refine TL.op (yq (y_assign (ev_t rfl))) rfl rfl rfl ?_
    refine TL.nil ?_
    exact TN.hand (mf1, (i1 + 1), (out1.set i1 (a.getD i1 0))) ⟨(by first | omega | (simp [-List.getD_eq_getElem?_getD] <;> omega)), (by first | omega | (simp [-List.getD_eq_getElem?_getD] <;> omega)), (by omega), hL1⟩ (Nat.lt_succ_self _) ⟨rfl, rfl, rfl, trivial⟩ (fun w hw => hw)
  · rw [bif_neg h15] at hL1
    have q16 := (of_decide_eq_false h15)
    refine TC.exit ?_
    refine TN.thenE ?_
    refine TN.thenE ?_
    rw [← hL1, elim_next] at hF
    try dsimp only at hF
    refine TN.blockH ?_
    refine TN.seq ?_
    refine TC.seq ?_
    refine TC.region ?_
    refine TL.op (yq (y_move (ev_t rfl))) rfl rfl rfl ?_
    refine TL.op (yq (y_assign (ev_t rfl))) rfl rfl rfl ?_
    refine TL.nil ?_
    refine TN.seq ?_
    refine TC.ret ?_
    subst hF
    exact TN.ret1 rfl (ev_t rfl) (fun w' hw => ⟨v1_2, rfl, hw⟩)

set_option maxRecDepth 4000 in
set_option maxHeartbeats 1000000 in
theorem laws_eqIntSS_ok (w : World) (va : Value) (ua : List Value) (a : List (List Int)) (ha : RII w va ua a) (vb : Value) (ub : List Value) (b : List (List Int)) (hb : RII w vb ub b)  :
    Calls Try.prog 29 ([va, vb] : List Value).toArray w (Ret (.bool (F_laws_eqIntSS a b)) (Hp w [])) := by
  obtain ⟨rz, hF⟩ : ∃ rz, (F_laws_eqIntSS a b) = rz := ⟨_, rfl⟩
  rw [hF]
  unfold F_laws_eqIntSS at hF
  have hlen_a := argT_len ha
  have hlen_b := argT_len hb
  refine calls_tc Try.func29 rfl rfl rfl ?_
  change TC _ _ _ _ (Hp w []) [(0, va), (1, vb)]
  refine TC.seq ?_
  refine TC.region ?_
  refine TL.op (yq (y_assign ev_c)) rfl rfl rfl ?_
  refine TL.nil ?_
  refine TN.seq ?_
  refine TC.seq ?_
  refine TC.seq ?_
  refine TC.region ?_
  refine TL.op (yq (y_move (ev_t rfl))) rfl rfl rfl ?_
  refine TL.op (yq (y_len (ev_t rfl) Try.underlying22 (fun w hw => ((fun w hw => ((rii_arg ha) w hw).1) w hw).ln))) rfl rfl rfl ?_
  refine TL.op (yq (y_move (ev_t rfl))) rfl rfl rfl ?_
  refine TL.op (yq (y_len (ev_t rfl) Try.underlying22 (fun w hw => ((fun w hw => ((rii_arg hb) w hw).1) w hw).ln))) rfl rfl rfl ?_
  refine TL.op (yq (y_neq (ev_t rfl) (ev_t rfl))) rfl rfl rfl ?_
  refine TL.nil ?_
  refine TN.seq ?_
  refine TC.cond (b := !decide ((a.length : Int) = (b.length : Int))) (ev_t rfl) (fun h19 => ?_) (fun h19 => ?_)
  · rw [bif_pos h19] at hF
    have q20 := (of_decide_eq_false (not_t h19))
    refine TC.seq ?_
    refine TC.region ?_
    refine TL.op (yq (y_assign ev_c)) rfl rfl rfl ?_
    refine TL.nil ?_
    refine TN.seq ?_
    refine TC.ret ?_
    refine TN.thenR ?_
    subst hF
    exact TN.ret1 rfl (ev_t rfl) (fun w' hw => ⟨rfl, hw⟩)
  · rw [bif_neg h19] at hF
    have q20 := (of_decide_eq_true (not_f h19))
    refine TC.skip ?_
    refine TN.seq ?_
    refine TC.seq ?_
    refine TC.seq ?_
    refine TC.region ?_
    refine TL.op (yq (y_assign ev_c)) rfl rfl rfl ?_
    refine TL.nil ?_
    refine TN.seq ?_
    refine TC.block ?_
    obtain ⟨c21, hc22⟩ : ∃ c, F_laws_eqIntSS_L1 a b ((a.length - 0) + 1) 0 = c := ⟨_, rfl⟩
    rw [hc22] at hF
    refine TC.loop (ι := Nat × Nat) (fun (fu1, i1) => [(0, va), (1, vb), (5, (.int .i64 (i1 : Int)))]) (fun (fu1, i1) => Hp w []) (fun (fu1, i1) => (i1 ≤ a.length) ∧ a.length - i1 < fu1 ∧ F_laws_eqIntSS_L1 a b fu1 i1 = c21) (fun (fu1, i1) => fu1) ((a.length - 0) + 1, 0) ⟨(by first | omega | (simp [-List.getD_eq_getElem?_getD] <;> omega)), (by omega), hc22⟩ ⟨rfl, rfl, rfl, trivial⟩ (fun w hw => hw) ?_
    rintro ⟨fu1, i1⟩ hJ1
    obtain ⟨hi1_0, hmu1, hL1⟩ : (i1 ≤ a.length) ∧ a.length - i1 < fu1 ∧ F_laws_eqIntSS_L1 a b fu1 i1 = c21 := hJ1
    change TC _ _ _ _ (Hp w []) [(0, va), (1, vb), (5, (.int .i64 (i1 : Int)))]
    obtain ⟨mf1, rfl⟩ : ∃ m, fu1 = m + 1 := ⟨fu1 - 1, by omega⟩
    rw [F_laws_eqIntSS_L1_s] at hL1
    refine TC.seq ?_
    refine TC.seq ?_
    refine TC.region ?_
    refine TL.op (yq (y_move (ev_t rfl))) rfl rfl rfl ?_
    refine TL.op (yq (y_move (ev_t rfl))) rfl rfl rfl ?_
    refine TL.op (yq (y_len (ev_t rfl) Try.underlying22 (fun w hw => ((fun w hw => ((rii_arg ha) w hw).1) w hw).ln))) rfl rfl rfl ?_
    refine TL.op (yq (y_lss (ev_t rfl) (ev_t rfl))) rfl rfl rfl ?_
    refine TL.nil ?_
    refine TN.seq ?_
    refine TC.cond (b := decide ((i1 : Int) < (a.length : Int))) (ev_t rfl) (fun h23 => ?_) (fun h23 => ?_)
    · rw [bif_pos h23] at hL1
      have q24 := (of_decide_eq_true h23)
      refine TC.skip ?_
      refine TN.seq ?_
      refine TC.seq ?_
      refine TC.block ?_
      refine TC.seq ?_
      refine TC.regionQ (by kernel_rfl) (by kernel_rfl) dr_hp ?_
      refine TQ.op (yq (y_move (ev_t rfl))) rfl rfl rfl ?_
      refine TQ.op (yq (y_move (ev_t rfl))) rfl rfl rfl ?_
      have hb25 : i1 < a.length := (by first | omega | (simp only [List.length_set, List.length_append, List.length_cons, List.length_nil, List.length_replicate]; omega) | (rw [sortI_length]; simp only [List.length_cons, List.length_nil]; omega) | (simp only [ByteArray.size_append]; omega))
      refine TQ.op (yq (y_idx (k := i1) (ev_t rfl) (ev_t rfl) (by first | omega | simp) slT_22 (fun w hw => ((rii_arg ha) w hw).1) hb25)) rfl rfl rfl ?_
      have ha26 := ha.row (i := i1) hb25
      refine TQ.op (yq (y_ldA (ev_t rfl) one_25 (rii_arg ha) hb25)) rfl rfl rfl ?_
      refine TQ.op (yq (y_move (ev_t rfl))) rfl rfl rfl ?_
      refine TQ.op (yq (y_move (ev_t rfl))) rfl rfl rfl ?_
      have hb27 : i1 < b.length := (by first | omega | (simp only [List.length_set, List.length_append, List.length_cons, List.length_nil, List.length_replicate]; omega) | (rw [sortI_length]; simp only [List.length_cons, List.length_nil]; omega) | (simp only [ByteArray.size_append]; omega))
      refine TQ.op (yq (y_idx (k := i1) (ev_t rfl) (ev_t rfl) (by first | omega | simp) slT_22 (fun w hw => ((rii_arg hb) w hw).1) hb27)) rfl rfl rfl ?_
      have ha28 := hb.row (i := i1) hb27
      refine TQ.op (yq (y_ldA (ev_t rfl) one_25 (rii_arg hb) hb27)) rfl rfl rfl ?_
      refine TQ.op (y_call (vs := [(ua.getD i1 undef), (ub.getD i1 undef)]) (v := (.bool (F_laws_eqIntS (a.getD i1 []) (b.getD i1 [])))) en_12 ⟨(ev_t rfl), (ev_t rfl), trivial⟩ (fun w hw => laws_eqIntS_ok w (ua.getD i1 undef) (a.getD i1 []) ((ri_arg ha26) w hw) (ub.getD i1 undef) (b.getD i1 []) ((ri_arg ha28) w hw))) rfl rfl rfl ?_
      refine TQ.op (yq (y_not (ev_t rfl))) rfl rfl rfl ?_
      refine TQ.nil ?_
      refine TN.seq ?_
      refine TC.cond (b := !(F_laws_eqIntS (a.getD i1 []) (b.getD i1 []))) (ev_t rfl) (fun h29 => ?_) (fun h29 => ?_)
      · rw [bif_pos h29] at hL1
        have q30 := (not_t h29)
        refine TC.seq ?_
        refine TC.region ?_
        refine TL.op (yq (y_assign ev_c)) rfl rfl rfl ?_
        refine TL.nil ?_
        refine TN.seq ?_
        refine TC.ret ?_
        refine TN.blockR ?_
        refine TN.thenR ?_
        refine TN.thenR ?_
        rw [← hL1, elim_ret] at hF
        refine TN.blockR ?_
        refine TN.thenR ?_
        subst hF
        exact TN.ret1 rfl (ev_t rfl) (fun w' hw => ⟨rfl, hw⟩)
      · rw [bif_neg h29] at hL1
        have q30 := (not_f h29)
        refine TC.skip ?_
        refine TN.blockN ?_
        refine TN.seq ?_
        refine TC.region ?_
        refine TL.op (yq (y_move (ev_t rfl))) rfl rfl rfl ?_
        refine TL.op (yq (y_add (ev_t rfl) ev_c (by unfold In64; constructor <;> omega))) rfl rfl rfl ?_
        refine TL.op (yq (y_assign (ev_t rfl))) rfl rfl rfl ?_
        refine TL.nil ?_
        exact TN.hand (mf1, (i1 + 1)) ⟨(by first | omega | (simp [-List.getD_eq_getElem?_getD] <;> omega)), (by omega), hL1⟩ (Nat.lt_succ_self _) ⟨rfl, rfl, rfl, trivial⟩ (fun w hw => hw)
    · rw [bif_neg h23] at hL1
      have q24 := (of_decide_eq_false h23)
      refine TC.exit ?_
      refine TN.thenE ?_
      refine TN.thenE ?_
      rw [← hL1, elim_next] at hF
      try dsimp only at hF
      refine TN.blockH ?_
      refine TN.seq ?_
      refine TC.seq ?_
      refine TC.region ?_
      refine TL.op (yq (y_assign ev_c)) rfl rfl rfl ?_
      refine TL.nil ?_
      refine TN.seq ?_
      refine TC.ret ?_
      subst hF
      exact TN.ret1 rfl (ev_t rfl) (fun w' hw => ⟨rfl, hw⟩)

set_option maxRecDepth 4000 in
set_option maxHeartbeats 1000000 in
theorem laws_markIntS_ok (w0 w : World) (fr : List Ck) (va : Value) (a : List Int) (hw : Hp w0 (rowI 3 va a :: fr) w) (k : Int) (hp0 : 0 ≤ k) (hp1 : k + a.length ≤ 4611686018427387904) :
    Calls Try.prog 16 ([va, (.int .i64 k)] : List Value).toArray w (fun e w' => ∃ _i : Unit, e = .returned (.int .i64 ((F_laws_markIntS a k).1)) ∧ Hp w0 (rowI 3 va ((F_laws_markIntS a k).2) :: fr) w') := by
  obtain ⟨rz, hF⟩ : ∃ rz, (F_laws_markIntS a k) = rz := ⟨_, rfl⟩
  rw [hF]
  unfold F_laws_markIntS at hF
  have hlen_a : a.length ≤ 9223372036854775807 := (hw.get 0 rfl).maxn
  refine calls_tcm Try.func16 rfl rfl rfl hw ?_
  change TC _ _ _ _ (Hp w0 ([rowI 3 va a] ++ fr)) [(0, va), (1, (.int .i64 k))]
  refine TC.seq ?_
  refine TC.region ?_
  refine TL.op (yq (y_assign ev_c)) rfl rfl rfl ?_
  refine TL.nil ?_
  refine TN.seq ?_
  refine TC.seq ?_
  refine TC.seq ?_
  refine TC.region ?_
  refine TL.op (yq (y_assign ev_c)) rfl rfl rfl ?_
  refine TL.nil ?_
  refine TN.seq ?_
  refine TC.block ?_
  obtain ⟨c10, hc11⟩ : ∃ c, F_laws_markIntS_L1  ((a.length - 0) + 1) (k, 0, a) = c := ⟨_, rfl⟩
  rw [hc11] at hF
  refine TC.loop (ι := Nat × Int × Nat × List Int) (fun (fu1, k1, i1, a1) => [(0, va), (1, (.int .i64 k1)), (5, (.int .i64 (i1 : Int)))]) (fun (fu1, k1, i1, a1) => Hp w0 ([rowI 3 va a1] ++ fr)) (fun (fu1, k1, i1, a1) => (a1.length = a.length) ∧ (i1 ≤ a.length) ∧ (k1 = k + i1) ∧ a.length - i1 < fu1 ∧ F_laws_markIntS_L1  fu1 (k1, i1, a1) = c10) (fun (fu1, k1, i1, a1) => fu1) ((a.length - 0) + 1, k, 0, a) ⟨(by first | omega | (simp [-List.getD_eq_getElem?_getD] <;> omega)), (by first | omega | (simp [-List.getD_eq_getElem?_getD] <;> omega)), (by first | omega | (simp [-List.getD_eq_getElem?_getD] <;> omega)), (by omega), hc11⟩ ⟨rfl, rfl, rfl, trivial⟩ (fun w hw => hw) ?_
  rintro ⟨fu1, k1, i1, a1⟩ hJ1
  obtain ⟨hi1_0, hi1_1, hi1_2, hmu1, hL1⟩ : (a1.length = a.length) ∧ (i1 ≤ a.length) ∧ (k1 = k + i1) ∧ a.length - i1 < fu1 ∧ F_laws_markIntS_L1  fu1 (k1, i1, a1) = c10 := hJ1
  change TC _ _ _ _ (Hp w0 ([rowI 3 va a1] ++ fr)) [(0, va), (1, (.int .i64 k1)), (5, (.int .i64 (i1 : Int)))]
  obtain ⟨mf1, rfl⟩ : ∃ m, fu1 = m + 1 := ⟨fu1 - 1, by omega⟩
  rw [F_laws_markIntS_L1_s] at hL1
  refine TC.seq ?_
  refine TC.seq ?_
  refine TC.region ?_
  refine TL.op (yq (y_move (ev_t rfl))) rfl rfl rfl ?_
  refine TL.op (yq (y_move (ev_t rfl))) rfl rfl rfl ?_
  refine TL.op (yq (y_len (ev_t rfl) Try.underlying25 (fun w hw => ((ri_row 0 rfl) w hw).ln))) rfl rfl rfl ?_
  refine TL.op (yq (y_lss (ev_t rfl) (ev_t rfl))) rfl rfl rfl ?_
  refine TL.nil ?_
  refine TN.seq ?_
  refine TC.cond (b := decide ((i1 : Int) < (a1.length : Int))) (ev_t rfl) (fun h12 => ?_) (fun h12 => ?_)
  · rw [bif_pos h12] at hL1
    have q13 := (of_decide_eq_true h12)
    refine TC.skip ?_
    refine TN.seq ?_
    refine TC.seq ?_
    refine TC.block ?_
    refine TC.seq ?_
    refine TC.region ?_
    refine TL.op (yq (y_move (ev_t rfl))) rfl rfl rfl ?_
    refine TL.op (yq (y_move (ev_t rfl))) rfl rfl rfl ?_
    refine TL.op (yq (y_move (ev_t rfl))) rfl rfl rfl ?_
    have hb14 : i1 < a1.length := (by first | omega | (simp only [List.length_set, List.length_append, List.length_cons, List.length_nil, List.length_replicate]; omega) | (rw [sortI_length]; simp only [List.length_cons, List.length_nil]; omega) | (simp only [ByteArray.size_append]; omega))
    refine TL.op (yq (y_idx (k := i1) (ev_t rfl) (ev_t rfl) (by first | omega | simp) slT_25 (ri_row 0 rfl) hb14)) rfl rfl rfl ?_
    refine TL.storeI 0 (ev_t rfl) (ev_t rfl) one_3 rfl hb14 ?_
    refine TL.nil ?_
    refine TN.seq ?_
    refine TC.region ?_
    refine TL.op (yq (y_move (ev_t rfl))) rfl rfl rfl ?_
    refine TL.op (yq (y_add (ev_t rfl) ev_c (by unfold In64; constructor <;> omega))) rfl rfl rfl ?_
    refine TL.op (yq (y_assign (ev_t rfl))) rfl rfl rfl ?_
    refine TL.nil ?_
    refine TN.blockN ?_
    refine TN.seq ?_
    refine TC.region ?_
    refine TL.op (yq (y_move (ev_t rfl))) rfl rfl rfl ?_
    refine TL.op (yq (y_add (ev_t rfl) ev_c (by unfold In64; constructor <;> omega))) rfl rfl rfl ?_
    refine TL.op (yq (y_assign (ev_t rfl))) rfl rfl rfl ?_
    refine TL.nil ?_
    exact TN.hand (mf1, k1 + 1, (i1 + 1), (a1.set i1 k1)) ⟨(by first | omega | (simp [-List.getD_eq_getElem?_getD] <;> omega)), (by first | omega | (simp [-List.getD_eq_getElem?_getD] <;> omega)), (by first | omega | (simp [-List.getD_eq_getElem?_getD] <;> omega)), (by omega), hL1⟩ (Nat.lt_succ_self _) ⟨rfl, rfl, rfl, trivial⟩ (fun w hw => hw)
  · rw [bif_neg h12] at hL1
    have q13 := (of_decide_eq_false h12)
    refine TC.exit ?_
    refine TN.thenE ?_
    refine TN.thenE ?_
    rw [← hL1, elim_next] at hF
    try dsimp only at hF
    refine TN.blockH ?_
    refine TN.seq ?_
    refine TC.seq ?_
    refine TC.region ?_
    refine TL.op (yq (y_move (ev_t rfl))) rfl rfl rfl ?_
    refine TL.op (yq (y_assign (ev_t rfl))) rfl rfl rfl ?_
    refine TL.nil ?_
    refine TN.seq ?_
    refine TC.ret ?_
    subst hF
    exact TN.ret1 rfl (ev_t rfl) (fun w' hw => ⟨(), rfl, hw⟩)

set_option maxRecDepth 4000 in
set_option maxHeartbeats 1000000 in
theorem laws_heldIntS_ok (w : World) (va : Value) (a : List Int) (ha : RI w va a) (k : Int) (hp0 : 0 ≤ k) (hp1 : k + a.length ≤ 4611686018427387904) :
    Calls Try.prog 17 ([va, (.int .i64 k)] : List Value).toArray w (Ret (.int .i64 (F_laws_heldIntS a k)) (Hp w [])) := by
  obtain ⟨rz, hF⟩ : ∃ rz, (F_laws_heldIntS a k) = rz := ⟨_, rfl⟩
  rw [hF]
  unfold F_laws_heldIntS at hF
  have hlen_a := arg_len ha
  refine calls_tc Try.func17 rfl rfl rfl ?_
  change TC _ _ _ _ (Hp w []) [(0, va), (1, (.int .i64 k))]
  refine TC.seq ?_
  refine TC.region ?_
  refine TL.op (yq (y_assign ev_c)) rfl rfl rfl ?_
  refine TL.nil ?_
  refine TN.seq ?_
  refine TC.seq ?_
  refine TC.seq ?_
  refine TC.region ?_
  refine TL.op (yq (y_assign ev_c)) rfl rfl rfl ?_
  refine TL.nil ?_
  refine TN.seq ?_
  refine TC.block ?_
  obtain ⟨c11, hc12⟩ : ∃ c, F_laws_heldIntS_L1 a ((a.length - 0) + 1) (k, 0) = c := ⟨_, rfl⟩
  rw [hc12] at hF
  refine TC.loop (ι := Nat × Int × Nat) (fun (fu1, k1, i1) => [(0, va), (1, (.int .i64 k1)), (5, (.int .i64 (i1 : Int)))]) (fun (fu1, k1, i1) => Hp w []) (fun (fu1, k1, i1) => (i1 ≤ a.length) ∧ (k1 = k + i1) ∧ a.length - i1 < fu1 ∧ F_laws_heldIntS_L1 a fu1 (k1, i1) = c11) (fun (fu1, k1, i1) => fu1) ((a.length - 0) + 1, k, 0) ⟨(by first | omega | (simp [-List.getD_eq_getElem?_getD] <;> omega)), (by first | omega | (simp [-List.getD_eq_getElem?_getD] <;> omega)), (by omega), hc12⟩ ⟨rfl, rfl, rfl, trivial⟩ (fun w hw => hw) ?_
  rintro ⟨fu1, k1, i1⟩ hJ1
  obtain ⟨hi1_0, hi1_1, hmu1, hL1⟩ : (i1 ≤ a.length) ∧ (k1 = k + i1) ∧ a.length - i1 < fu1 ∧ F_laws_heldIntS_L1 a fu1 (k1, i1) = c11 := hJ1
  change TC _ _ _ _ (Hp w []) [(0, va), (1, (.int .i64 k1)), (5, (.int .i64 (i1 : Int)))]
  obtain ⟨mf1, rfl⟩ : ∃ m, fu1 = m + 1 := ⟨fu1 - 1, by omega⟩
  rw [F_laws_heldIntS_L1_s] at hL1
  refine TC.seq ?_
  refine TC.seq ?_
  refine TC.region ?_
  refine TL.op (yq (y_move (ev_t rfl))) rfl rfl rfl ?_
  refine TL.op (yq (y_move (ev_t rfl))) rfl rfl rfl ?_
  refine TL.op (yq (y_len (ev_t rfl) Try.underlying25 (fun w hw => ((ri_arg ha) w hw).ln))) rfl rfl rfl ?_
  refine TL.op (yq (y_lss (ev_t rfl) (ev_t rfl))) rfl rfl rfl ?_
  refine TL.nil ?_
  refine TN.seq ?_
  refine TC.cond (b := decide ((i1 : Int) < (a.length : Int))) (ev_t rfl) (fun h13 => ?_) (fun h13 => ?_)
  · rw [bif_pos h13] at hL1
    have q14 := (of_decide_eq_true h13)
    refine TC.skip ?_
    refine TN.seq ?_
    refine TC.seq ?_
    refine TC.block ?_
    refine TC.seq ?_
    refine TC.seq ?_
    refine TC.region ?_
    refine TL.op (yq (y_move (ev_t rfl))) rfl rfl rfl ?_
    refine TL.op (yq (y_move (ev_t rfl))) rfl rfl rfl ?_
    have hb15 : i1 < a.length := (by first | omega | (simp only [List.length_set, List.length_append, List.length_cons, List.length_nil, List.length_replicate]; omega) | (rw [sortI_length]; simp only [List.length_cons, List.length_nil]; omega) | (simp only [ByteArray.size_append]; omega))
    refine TL.op (yq (y_idx (k := i1) (ev_t rfl) (ev_t rfl) (by first | omega | simp) slT_25 (ri_arg ha) hb15)) rfl rfl rfl ?_
    refine TL.op (yq (y_ldi (ev_t rfl) one_3 (ri_arg ha) hb15)) rfl rfl rfl ?_
    refine TL.op (yq (y_move (ev_t rfl))) rfl rfl rfl ?_
    refine TL.op (yq (y_neq (ev_t rfl) (ev_t rfl))) rfl rfl rfl ?_
    refine TL.nil ?_
    refine TN.seq ?_
    refine TC.cond (b := !decide ((a.getD i1 0) = k1)) (ev_t rfl) (fun h16 => ?_) (fun h16 => ?_)
    · rw [bif_pos h16] at hL1
      have q17 := (of_decide_eq_false (not_t h16))
      refine TC.seq ?_
      refine TC.region ?_
      refine TL.op (yq (y_assign ev_c)) rfl rfl rfl ?_
      refine TL.nil ?_
      refine TN.seq ?_
      refine TC.ret ?_
      refine TN.thenR ?_
      refine TN.blockR ?_
      refine TN.thenR ?_
      refine TN.thenR ?_
      rw [← hL1, elim_ret] at hF
      refine TN.blockR ?_
      refine TN.thenR ?_
      subst hF
      exact TN.ret1 rfl (ev_t rfl) (fun w' hw => ⟨rfl, hw⟩)
    · rw [bif_neg h16] at hL1
      have q17 := (of_decide_eq_true (not_f h16))
      refine TC.skip ?_
      refine TN.seq ?_
      refine TC.region ?_
      refine TL.op (yq (y_move (ev_t rfl))) rfl rfl rfl ?_
      refine TL.op (yq (y_add (ev_t rfl) ev_c (by unfold In64; constructor <;> omega))) rfl rfl rfl ?_
      refine TL.op (yq (y_assign (ev_t rfl))) rfl rfl rfl ?_
      refine TL.nil ?_
      refine TN.blockN ?_
      refine TN.seq ?_
      refine TC.region ?_
      refine TL.op (yq (y_move (ev_t rfl))) rfl rfl rfl ?_
      refine TL.op (yq (y_add (ev_t rfl) ev_c (by unfold In64; constructor <;> omega))) rfl rfl rfl ?_
      refine TL.op (yq (y_assign (ev_t rfl))) rfl rfl rfl ?_
      refine TL.nil ?_
      exact TN.hand (mf1, k1 + 1, (i1 + 1)) ⟨(by first | omega | (simp [-List.getD_eq_getElem?_getD] <;> omega)), (by first | omega | (simp [-List.getD_eq_getElem?_getD] <;> omega)), (by omega), hL1⟩ (Nat.lt_succ_self _) ⟨rfl, rfl, rfl, trivial⟩ (fun w hw => hw)
  · rw [bif_neg h13] at hL1
    have q14 := (of_decide_eq_false h13)
    refine TC.exit ?_
    refine TN.thenE ?_
    refine TN.thenE ?_
    rw [← hL1, elim_next] at hF
    try dsimp only at hF
    refine TN.blockH ?_
    refine TN.seq ?_
    refine TC.seq ?_
    refine TC.region ?_
    refine TL.op (yq (y_move (ev_t rfl))) rfl rfl rfl ?_
    refine TL.op (yq (y_assign (ev_t rfl))) rfl rfl rfl ?_
    refine TL.nil ?_
    refine TN.seq ?_
    refine TC.ret ?_
    subst hF
    exact TN.ret1 rfl (ev_t rfl) (fun w' hw => ⟨rfl, hw⟩)

set_option maxRecDepth 4000 in
set_option maxHeartbeats 1000000 in
theorem laws_markIntSS_ok (w0 w : World) (fr : List Ck) (va : Value) (ua : List Value) (a : List (List Int)) (hw : Hp w0 (tabI 25 3 va ua a :: fr) w) (k : Int) (hp0 : 0 ≤ k) (hp1 : k + total a ≤ 1000000000) :
    Calls Try.prog 31 ([va, (.int .i64 k)] : List Value).toArray w (fun e w' => ∃ _i : Unit, e = .returned (.int .i64 ((F_laws_markIntSS a k).1)) ∧ Hp w0 (tabI 25 3 va ua ((F_laws_markIntSS a k).2) :: fr) w') := by
  obtain ⟨rz, hF⟩ : ∃ rz, (F_laws_markIntSS a k) = rz := ⟨_, rfl⟩
  rw [hF]
  unfold F_laws_markIntSS at hF
  have htot := totalFrom_zero a
  have hlen_a : a.length ≤ 9223372036854775807 := (hw.get 0 rfl).maxn
  refine calls_tcm Try.func31 rfl rfl rfl hw ?_
  change TC _ _ _ _ (Hp w0 ([tabI 25 3 va ua a] ++ fr)) [(0, va), (1, (.int .i64 k))]
  refine TC.seq ?_
  refine TC.region ?_
  refine TL.op (yq (y_assign ev_c)) rfl rfl rfl ?_
  refine TL.nil ?_
  refine TN.seq ?_
  refine TC.seq ?_
  refine TC.seq ?_
  refine TC.region ?_
  refine TL.op (yq (y_assign ev_c)) rfl rfl rfl ?_
  refine TL.nil ?_
  refine TN.seq ?_
  refine TC.block ?_
  obtain ⟨c10, hc11⟩ : ∃ c, F_laws_markIntSS_L1  ((a.length - 0) + 1) (k, 0, a) = c := ⟨_, rfl⟩
  rw [hc11] at hF
  refine TC.loop (ι := Nat × Int × Nat × List (List Int)) (fun (fu1, k1, i1, a1) => [(0, va), (1, (.int .i64 k1)), (5, (.int .i64 (i1 : Int)))]) (fun (fu1, k1, i1, a1) => Hp w0 ([tabI 25 3 va ua a1] ++ fr)) (fun (fu1, k1, i1, a1) => (a1.length = a.length) ∧ (i1 ≤ a.length) ∧ (0 ≤ k1) ∧ (k1 + totalFrom a i1 ≤ 1000000000) ∧ (∀ j, i1 ≤ j → a1.getD j [] = a.getD j []) ∧ a.length - i1 < fu1 ∧ F_laws_markIntSS_L1  fu1 (k1, i1, a1) = c10) (fun (fu1, k1, i1, a1) => fu1) ((a.length - 0) + 1, k, 0, a) ⟨(by first | omega | (simp [-List.getD_eq_getElem?_getD] <;> omega)), (by first | omega | (simp [-List.getD_eq_getElem?_getD] <;> omega)), (by first | omega | (simp [-List.getD_eq_getElem?_getD] <;> omega)), (by first | omega | (simp [-List.getD_eq_getElem?_getD] <;> omega)), (fun _ _ => rfl), (by omega), hc11⟩ ⟨rfl, rfl, rfl, trivial⟩ (fun w hw => hw) ?_
  rintro ⟨fu1, k1, i1, a1⟩ hJ1
  obtain ⟨hi1_0, hi1_1, hi1_2, hi1_3, hi1_4, hmu1, hL1⟩ : (a1.length = a.length) ∧ (i1 ≤ a.length) ∧ (0 ≤ k1) ∧ (k1 + totalFrom a i1 ≤ 1000000000) ∧ (∀ j, i1 ≤ j → a1.getD j [] = a.getD j []) ∧ a.length - i1 < fu1 ∧ F_laws_markIntSS_L1  fu1 (k1, i1, a1) = c10 := hJ1
  change TC _ _ _ _ (Hp w0 ([tabI 25 3 va ua a1] ++ fr)) [(0, va), (1, (.int .i64 k1)), (5, (.int .i64 (i1 : Int)))]
  obtain ⟨mf1, rfl⟩ : ∃ m, fu1 = m + 1 := ⟨fu1 - 1, by omega⟩
  rw [F_laws_markIntSS_L1_s] at hL1
  have hst := totalFrom_step a i1
  have hg := congrArg List.length (hi1_4 i1 (Nat.le_refl _))
  have hmk := markIntS_fst (a1.getD i1 []) k1
  refine TC.seq ?_
  refine TC.seq ?_
  refine TC.region ?_
  refine TL.op (yq (y_move (ev_t rfl))) rfl rfl rfl ?_
  refine TL.op (yq (y_move (ev_t rfl))) rfl rfl rfl ?_
  refine TL.op (yq (y_len (ev_t rfl) Try.underlying22 (fun w hw => ((fun w hw => ((rii_tab 0 rfl) w hw).1) w hw).ln))) rfl rfl rfl ?_
  refine TL.op (yq (y_lss (ev_t rfl) (ev_t rfl))) rfl rfl rfl ?_
  refine TL.nil ?_
  refine TN.seq ?_
  refine TC.cond (b := decide ((i1 : Int) < (a1.length : Int))) (ev_t rfl) (fun h12 => ?_) (fun h12 => ?_)
  · rw [bif_pos h12] at hL1
    have q13 := (of_decide_eq_true h12)
    refine TC.skip ?_
    refine TN.seq ?_
    refine TC.seq ?_
    refine TC.block ?_
    refine TC.region ?_
    refine TL.op (yq (y_move (ev_t rfl))) rfl rfl rfl ?_
    refine TL.op (yq (y_move (ev_t rfl))) rfl rfl rfl ?_
    have hb14 : i1 < a1.length := (by first | omega | (simp only [List.length_set, List.length_append, List.length_cons, List.length_nil, List.length_replicate]; omega) | (rw [sortI_length]; simp only [List.length_cons, List.length_nil]; omega) | (simp only [ByteArray.size_append]; omega))
    refine TL.op (yq (y_idx (k := i1) (ev_t rfl) (ev_t rfl) (by first | omega | simp) slT_22 (fun w hw => ((rii_tab 0 rfl) w hw).1) hb14)) rfl rfl rfl ?_
    refine TL.op (yq (y_ldT 0 (ev_t rfl) one_25 rfl hb14)) rfl rfl rfl ?_
    refine TL.op (yq (y_move (ev_t rfl))) rfl rfl rfl ?_
    refine TL.callmT 0 i1 (vs := [(ua.getD i1 undef), (.int .i64 k1)]) (.int .i64 ((F_laws_markIntS (a1.getD i1 []) k1).1)) ((F_laws_markIntS (a1.getD i1 []) k1).2) en_16 ⟨(ev_t rfl), (ev_t rfl), trivial⟩ rfl rfl hb14 (fun w1 fr1 hw => laws_markIntS_ok w0 w1 _ (ua.getD i1 undef) (a1.getD i1 []) hw k1 (by first | assumption | omega | grind) (by first | assumption | omega | grind)) ?_
    refine TL.op (yq (y_assign (ev_t rfl))) rfl rfl rfl ?_
    refine TL.nil ?_
    refine TN.blockN ?_
    refine TN.seq ?_
    refine TC.region ?_
    refine TL.op (yq (y_move (ev_t rfl))) rfl rfl rfl ?_
    refine TL.op (yq (y_add (ev_t rfl) ev_c (by unfold In64; constructor <;> omega))) rfl rfl rfl ?_
    refine TL.op (yq (y_assign (ev_t rfl))) rfl rfl rfl ?_
    refine TL.nil ?_
    exact TN.hand (mf1, (F_laws_markIntS (a1.getD i1 []) k1).1, (i1 + 1), (a1.set i1 ((F_laws_markIntS (a1.getD i1 []) k1).2))) ⟨(by first | omega | (simp [-List.getD_eq_getElem?_getD] <;> omega)), (by first | omega | (simp [-List.getD_eq_getElem?_getD] <;> omega)), (by first | omega | (simp [-List.getD_eq_getElem?_getD] <;> omega)), (by first | omega | (simp [-List.getD_eq_getElem?_getD] <;> omega)), (fun j hj => by rw [getD_set_ne _ _ _ _ _ (by omega)]; exact hi1_4 j (by omega)), (by omega), hL1⟩ (Nat.lt_succ_self _) ⟨rfl, rfl, rfl, trivial⟩ (fun w hw => hw)
  · rw [bif_neg h12] at hL1
    have q13 := (of_decide_eq_false h12)
    refine TC.exit ?_
    refine TN.thenE ?_
    refine TN.thenE ?_
    rw [← hL1, elim_next] at hF
    try dsimp only at hF
    refine TN.blockH ?_
    refine TN.seq ?_
    refine TC.seq ?_
    refine TC.region ?_
    refine TL.op (yq (y_move (ev_t rfl))) rfl rfl rfl ?_
    refine TL.op (yq (y_assign (ev_t rfl))) rfl rfl rfl ?_
    refine TL.nil ?_
    refine TN.seq ?_
    refine TC.ret ?_
    subst hF
    exact TN.ret1 rfl (ev_t rfl) (fun w' hw => ⟨(), rfl, hw⟩)

set_option maxRecDepth 4000 in
set_option maxHeartbeats 1000000 in
theorem laws_szIntS_ok (w : World) (va : Value) (a : List Int) (ha : RI w va a) (left : Int) (hp0 : 0 ≤ left) (hp1 : left ≤ 1048576) :
    Calls Try.prog 38 ([va, (.int .i64 left)] : List Value).toArray w (Ret (.int .i64 (F_laws_szIntS a left)) (Hp w [])) := by
  obtain ⟨rz, hF⟩ : ∃ rz, (F_laws_szIntS a left) = rz := ⟨_, rfl⟩
  rw [hF]
  unfold F_laws_szIntS at hF
  have hlen_a := arg_len ha
  refine calls_tc Try.func38 rfl rfl rfl ?_
  change TC _ _ _ _ (Hp w []) [(0, va), (1, (.int .i64 left))]
  refine TC.seq ?_
  refine TC.region ?_
  refine TL.op (yq (y_assign ev_c)) rfl rfl rfl ?_
  refine TL.nil ?_
  refine TN.seq ?_
  refine TC.seq ?_
  refine TC.region ?_
  refine TL.op (yq (y_move (ev_t rfl))) rfl rfl rfl ?_
  refine TL.op (yq (y_move (ev_t rfl))) rfl rfl rfl ?_
  refine TL.op (yq (y_len (ev_t rfl) Try.underlying25 (fun w hw => ((ri_arg ha) w hw).ln))) rfl rfl rfl ?_
  refine TL.op (yq (y_sub (ev_t rfl) (ev_t rfl) (by unfold In64; constructor <;> omega))) rfl rfl rfl ?_
  refine TL.op (yq (y_assign (ev_t rfl))) rfl rfl rfl ?_
  refine TL.nil ?_
  refine TN.seq ?_
  refine TC.seq ?_
  refine TC.seq ?_
  refine TC.region ?_
  refine TL.op (yq (y_move (ev_t rfl))) rfl rfl rfl ?_
  refine TL.op (yq (y_lss (ev_t rfl) ev_c)) rfl rfl rfl ?_
  refine TL.nil ?_
  refine TN.seq ?_
  refine TC.cond (b := decide (left - (a.length : Int) < 0)) (ev_t rfl) (fun h3 => ?_) (fun h3 => ?_)
  · rw [bif_pos h3] at hF
    have q4 := (of_decide_eq_true h3)
    refine TC.seq ?_
    refine TC.region ?_
    refine TL.op (yq (y_assign ev_c)) rfl rfl rfl ?_
    refine TL.nil ?_
    refine TN.seq ?_
    refine TC.ret ?_
    refine TN.thenR ?_
    subst hF
    exact TN.ret1 rfl (ev_t rfl) (fun w' hw => ⟨rfl, hw⟩)
  · rw [bif_neg h3] at hF
    have q4 := (of_decide_eq_false h3)
    refine TC.skip ?_
    refine TN.seq ?_
    refine TC.seq ?_
    refine TC.region ?_
    refine TL.op (yq (y_move (ev_t rfl))) rfl rfl rfl ?_
    refine TL.op (yq (y_assign (ev_t rfl))) rfl rfl rfl ?_
    refine TL.nil ?_
    refine TN.seq ?_
    refine TC.ret ?_
    subst hF
    exact TN.ret1 rfl (ev_t rfl) (fun w' hw => ⟨rfl, hw⟩)

set_option maxRecDepth 4000 in
set_option maxHeartbeats 1000000 in
theorem laws_szIntSS_ok (w : World) (va : Value) (ua : List Value) (a : List (List Int)) (ha : RII w va ua a) (left : Int) (hp0 : 0 ≤ left) (hp1 : left ≤ 1048576) :
    Calls Try.prog 20 ([va, (.int .i64 left)] : List Value).toArray w (Ret (.int .i64 (F_laws_szIntSS a left)) (Hp w [])) := by
  obtain ⟨rz, hF⟩ : ∃ rz, (F_laws_szIntSS a left) = rz := ⟨_, rfl⟩
  rw [hF]
  unfold F_laws_szIntSS at hF
  have hlen_a := argT_len ha
  refine calls_tc Try.func20 rfl rfl rfl ?_
  change TC _ _ _ _ (Hp w []) [(0, va), (1, (.int .i64 left))]
  refine TC.seq ?_
  refine TC.region ?_
  refine TL.op (yq (y_assign ev_c)) rfl rfl rfl ?_
  refine TL.nil ?_
  refine TN.seq ?_
  refine TC.seq ?_
  refine TC.region ?_
  refine TL.op (yq (y_move (ev_t rfl))) rfl rfl rfl ?_
  refine TL.op (yq (y_move (ev_t rfl))) rfl rfl rfl ?_
  refine TL.op (yq (y_len (ev_t rfl) Try.underlying22 (fun w hw => ((fun w hw => ((rii_arg ha) w hw).1) w hw).ln))) rfl rfl rfl ?_
  refine TL.op (yq (y_sub (ev_t rfl) (ev_t rfl) (by unfold In64; constructor <;> omega))) rfl rfl rfl ?_
  refine TL.op (yq (y_assign (ev_t rfl))) rfl rfl rfl ?_
  refine TL.nil ?_
  refine TN.seq ?_
  refine TC.seq ?_
  refine TC.seq ?_
  refine TC.region ?_
  refine TL.op (yq (y_move (ev_t rfl))) rfl rfl rfl ?_
  refine TL.op (yq (y_lss (ev_t rfl) ev_c)) rfl rfl rfl ?_
  refine TL.nil ?_
  refine TN.seq ?_
  refine TC.cond (b := decide (left - (a.length : Int) < 0)) (ev_t rfl) (fun h15 => ?_) (fun h15 => ?_)
  · rw [bif_pos h15] at hF
    have q16 := (of_decide_eq_true h15)
    refine TC.seq ?_
    refine TC.region ?_
    refine TL.op (yq (y_assign ev_c)) rfl rfl rfl ?_
    refine TL.nil ?_
    refine TN.seq ?_
    refine TC.ret ?_
    refine TN.thenR ?_
    subst hF
    exact TN.ret1 rfl (ev_t rfl) (fun w' hw => ⟨rfl, hw⟩)
  · rw [bif_neg h15] at hF
    have q16 := (of_decide_eq_false h15)
    refine TC.skip ?_
    refine TN.seq ?_
    refine TC.seq ?_
    refine TC.seq ?_
    refine TC.region ?_
    refine TL.op (yq (y_assign ev_c)) rfl rfl rfl ?_
    refine TL.nil ?_
    refine TN.seq ?_
    refine TC.block ?_
    obtain ⟨c17, hc18⟩ : ∃ c, F_laws_szIntSS_L1 a ((a.length - 0) + 1) ((left - (a.length : Int)), 0) = c := ⟨_, rfl⟩
    rw [hc18] at hF
    refine TC.loop (ι := Nat × Int × Nat) (fun (fu1, left1, i1) => [(0, va), (1, (.int .i64 left1)), (5, (.int .i64 (i1 : Int)))]) (fun (fu1, left1, i1) => Hp w []) (fun (fu1, left1, i1) => (i1 ≤ a.length) ∧ (0 ≤ left1) ∧ (left1 ≤ 1048576) ∧ a.length - i1 < fu1 ∧ F_laws_szIntSS_L1 a fu1 (left1, i1) = c17) (fun (fu1, left1, i1) => fu1) ((a.length - 0) + 1, left - (a.length : Int), 0) ⟨(by first | omega | (simp [-List.getD_eq_getElem?_getD] <;> omega)), (by first | omega | (simp [-List.getD_eq_getElem?_getD] <;> omega)), (by first | omega | (simp [-List.getD_eq_getElem?_getD] <;> omega)), (by omega), hc18⟩ ⟨rfl, rfl, rfl, trivial⟩ (fun w hw => hw) ?_
    rintro ⟨fu1, left1, i1⟩ hJ1
    obtain ⟨hi1_0, hi1_1, hi1_2, hmu1, hL1⟩ : (i1 ≤ a.length) ∧ (0 ≤ left1) ∧ (left1 ≤ 1048576) ∧ a.length - i1 < fu1 ∧ F_laws_szIntSS_L1 a fu1 (left1, i1) = c17 := hJ1
    change TC _ _ _ _ (Hp w []) [(0, va), (1, (.int .i64 left1)), (5, (.int .i64 (i1 : Int)))]
    obtain ⟨mf1, rfl⟩ : ∃ m, fu1 = m + 1 := ⟨fu1 - 1, by omega⟩
    rw [F_laws_szIntSS_L1_s] at hL1
    have hsz := szIntS_le (a.getD i1 []) left1 (by omega)
    refine TC.seq ?_
    refine TC.seq ?_
    refine TC.region ?_
    refine TL.op (yq (y_move (ev_t rfl))) rfl rfl rfl ?_
    refine TL.op (yq (y_move (ev_t rfl))) rfl rfl rfl ?_
    refine TL.op (yq (y_len (ev_t rfl) Try.underlying22 (fun w hw => ((fun w hw => ((rii_arg ha) w hw).1) w hw).ln))) rfl rfl rfl ?_
    refine TL.op (yq (y_lss (ev_t rfl) (ev_t rfl))) rfl rfl rfl ?_
    refine TL.nil ?_
    refine TN.seq ?_
    refine TC.cond (b := decide ((i1 : Int) < (a.length : Int))) (ev_t rfl) (fun h19 => ?_) (fun h19 => ?_)
    · rw [bif_pos h19] at hL1
      have q20 := (of_decide_eq_true h19)
      refine TC.skip ?_
      refine TN.seq ?_
      refine TC.seq ?_
      refine TC.block ?_
      refine TC.seq ?_
      refine TC.region ?_
      refine TL.op (yq (y_move (ev_t rfl))) rfl rfl rfl ?_
      refine TL.op (yq (y_move (ev_t rfl))) rfl rfl rfl ?_
      have hb21 : i1 < a.length := (by first | omega | (simp only [List.length_set, List.length_append, List.length_cons, List.length_nil, List.length_replicate]; omega) | (rw [sortI_length]; simp only [List.length_cons, List.length_nil]; omega) | (simp only [ByteArray.size_append]; omega))
      refine TL.op (yq (y_idx (k := i1) (ev_t rfl) (ev_t rfl) (by first | omega | simp) slT_22 (fun w hw => ((rii_arg ha) w hw).1) hb21)) rfl rfl rfl ?_
      have ha22 := ha.row (i := i1) hb21
      refine TL.op (yq (y_ldA (ev_t rfl) one_25 (rii_arg ha) hb21)) rfl rfl rfl ?_
      refine TL.op (yq (y_move (ev_t rfl))) rfl rfl rfl ?_
      refine TL.op (y_call (vs := [(ua.getD i1 undef), (.int .i64 left1)]) (v := (.int .i64 (F_laws_szIntS (a.getD i1 []) left1))) en_38 ⟨(ev_t rfl), (ev_t rfl), trivial⟩ (fun w hw => laws_szIntS_ok w (ua.getD i1 undef) (a.getD i1 []) ((ri_arg ha22) w hw) left1 (by first | assumption | omega | grind) (by first | assumption | omega | grind))) rfl rfl rfl ?_
      refine TL.op (yq (y_assign (ev_t rfl))) rfl rfl rfl ?_
      refine TL.nil ?_
      refine TN.seq ?_
      refine TC.seq ?_
      refine TC.region ?_
      refine TL.op (yq (y_move (ev_t rfl))) rfl rfl rfl ?_
      refine TL.op (yq (y_lss (ev_t rfl) ev_c)) rfl rfl rfl ?_
      refine TL.nil ?_
      refine TN.seq ?_
      refine TC.cond (b := decide ((F_laws_szIntS (a.getD i1 []) left1) < 0)) (ev_t rfl) (fun h23 => ?_) (fun h23 => ?_)
      · rw [bif_pos h23] at hL1
        have q24 := (of_decide_eq_true h23)
        refine TC.seq ?_
        refine TC.region ?_
        refine TL.op (yq (y_assign ev_c)) rfl rfl rfl ?_
        refine TL.nil ?_
        refine TN.seq ?_
        refine TC.ret ?_
        refine TN.blockR ?_
        refine TN.thenR ?_
        refine TN.thenR ?_
        rw [← hL1, elim_ret] at hF
        refine TN.blockR ?_
        refine TN.thenR ?_
        subst hF
        exact TN.ret1 rfl (ev_t rfl) (fun w' hw => ⟨rfl, hw⟩)
      · rw [bif_neg h23] at hL1
        have q24 := (of_decide_eq_false h23)
        refine TC.skip ?_
        refine TN.blockN ?_
        refine TN.seq ?_
        refine TC.region ?_
        refine TL.op (yq (y_move (ev_t rfl))) rfl rfl rfl ?_
        refine TL.op (yq (y_add (ev_t rfl) ev_c (by unfold In64; constructor <;> omega))) rfl rfl rfl ?_
        refine TL.op (yq (y_assign (ev_t rfl))) rfl rfl rfl ?_
        refine TL.nil ?_
        exact TN.hand (mf1, (F_laws_szIntS (a.getD i1 []) left1), (i1 + 1)) ⟨(by first | omega | (simp [-List.getD_eq_getElem?_getD] <;> omega)), (by first | omega | (simp [-List.getD_eq_getElem?_getD] <;> omega)), (by first | omega | (simp [-List.getD_eq_getElem?_getD] <;> omega)), (by omega), hL1⟩ (Nat.lt_succ_self _) ⟨rfl, rfl, rfl, trivial⟩ (fun w hw => hw)
    · rw [bif_neg h19] at hL1
      have q20 := (of_decide_eq_false h19)
      refine TC.exit ?_
      refine TN.thenE ?_
      refine TN.thenE ?_
      rw [← hL1, elim_next] at hF
      try dsimp only at hF
      refine TN.blockH ?_
      refine TN.seq ?_
      refine TC.seq ?_
      refine TC.region ?_
      refine TL.op (yq (y_move (ev_t rfl))) rfl rfl rfl ?_
      refine TL.op (yq (y_assign (ev_t rfl))) rfl rfl rfl ?_
      refine TL.nil ?_
      refine TN.seq ?_
      refine TC.ret ?_
      subst hF
      exact TN.ret1 rfl (ev_t rfl) (fun w' hw => ⟨rfl, hw⟩)

set_option maxRecDepth 4000 in
set_option maxHeartbeats 1000000 in
theorem laws_szMetric_ok (w : World) (vm : Value) (um : List Value) (m : List (List Int)) (hm : RII w vm um m) (left : Int) (hp0 : 0 ≤ left) (hp1 : left ≤ 1048576) :
    Calls Try.prog 6 ([(.agg #[vm]), (.int .i64 left)] : List Value).toArray w (Ret (.int .i64 (F_laws_szMetric m left)) (Hp w [])) := by
  obtain ⟨rz, hF⟩ : ∃ rz, (F_laws_szMetric m left) = rz := ⟨_, rfl⟩
  rw [hF]
  unfold F_laws_szMetric at hF
  have hlen_m := argT_len hm
  refine calls_tc Try.func6 rfl rfl rfl ?_
  change TC _ _ _ _ (Hp w []) [(0, (.agg #[vm])), (1, (.int .i64 left))]
  refine TC.seq ?_
  refine TC.region ?_
  refine TL.box (ev_t rfl) rfl (fun g0_0 => ?_)
  refine TL.op (yq (y_assign ev_c)) rfl rfl rfl ?_
  refine TL.nil ?_
  refine TN.seq ?_
  refine TC.seq ?_
  refine TC.region ?_
  refine TL.op (yq (y_fa (fa_24_0 g0_0) (ev_t rfl))) rfl rfl rfl ?_
  refine TL.op (yq (y_ldb 0 (ev_t rfl) one_22 rfl rfl)) rfl rfl rfl ?_
  refine TL.op (yq (y_move (ev_t rfl))) rfl rfl rfl ?_
  refine TL.op (y_call (vs := [vm, (.int .i64 left)]) (v := (.int .i64 (F_laws_szIntSS m left))) en_20 ⟨(ev_t rfl), (ev_t rfl), trivial⟩ (fun w hw => laws_szIntSS_ok w vm um m ((rii_arg hm) w hw) left (by first | assumption | omega | grind) (by first | assumption | omega | grind))) rfl rfl rfl ?_
  refine TL.op (yq (y_assign (ev_t rfl))) rfl rfl rfl ?_
  refine TL.nil ?_
  refine TN.seq ?_
  refine TC.seq ?_
  refine TC.seq ?_
  refine TC.region ?_
  refine TL.op (yq (y_move (ev_t rfl))) rfl rfl rfl ?_
  refine TL.op (yq (y_lss (ev_t rfl) ev_c)) rfl rfl rfl ?_
  refine TL.nil ?_
  refine TN.seq ?_
  refine TC.cond (b := decide ((F_laws_szIntSS m left) < 0)) (ev_t rfl) (fun h3 => ?_) (fun h3 => ?_)
  · rw [bif_pos h3] at hF
    have q4 := (of_decide_eq_true h3)
    refine TC.seq ?_
    refine TC.region ?_
    refine TL.op (yq (y_assign ev_c)) rfl rfl rfl ?_
    refine TL.nil ?_
    refine TN.seq ?_
    refine TC.ret ?_
    refine TN.thenR ?_
    subst hF
    exact TN.ret1 rfl (ev_t rfl) (fun w' hw => ⟨rfl, Hp.sublist hw (List.nil_sublist _)⟩)
  · rw [bif_neg h3] at hF
    have q4 := (of_decide_eq_false h3)
    have hss := szIntSS_t m left (by omega)
    have hss1 : ∀ i, (m.getD i []).length ≤ 1048576 := fun i => by have := row_le_total m i; omega
    refine TC.skip ?_
    refine TN.seq ?_
    refine TC.seq ?_
    refine TC.region ?_
    refine TL.op (yq (y_move (ev_t rfl))) rfl rfl rfl ?_
    refine TL.op (yq (y_assign (ev_t rfl))) rfl rfl rfl ?_
    refine TL.nil ?_
    refine TN.seq ?_
    refine TC.ret ?_
    subst hF
    exact TN.ret1 rfl (ev_t rfl) (fun w' hw => ⟨rfl, Hp.sublist hw (List.nil_sublist _)⟩)

set_option maxRecDepth 4000 in
set_option maxHeartbeats 1000000 in
theorem laws_toIntSS_ok (w : World) (va : Value) (ua : List Value) (a : List (List Int)) (ha : RII w va ua a) (hp0 : a.length ≤ 1048576) (hp1 : ∀ i, (a.getD i []).length ≤ 1048576) :
    Calls Try.prog 25 ([va] : List Value).toArray w (fun e w' => ∃ i : Value × List Value, e = .returned i.1 ∧ Hp w [tabI 25 3 i.1 i.2 (F_laws_toIntSS a)] w') := by
  obtain ⟨rz, hF⟩ : ∃ rz, (F_laws_toIntSS a) = rz := ⟨_, rfl⟩
  rw [hF]
  unfold F_laws_toIntSS at hF
  have hlen_a := argT_len ha
  refine calls_tc Try.func25 rfl rfl rfl ?_
  change TC _ _ _ _ (Hp w []) [(0, va)]
  refine TC.seq ?_
  refine TC.region ?_
  refine TL.op (yq (y_assign ev_c)) rfl rfl rfl ?_
  refine TL.nil ?_
  refine TN.seq ?_
  refine TC.seq ?_
  refine TC.region ?_
  refine TL.op (yq (y_move (ev_t rfl))) rfl rfl rfl ?_
  refine TL.op (yq (y_len (ev_t rfl) Try.underlying22 (fun w hw => ((fun w hw => ((rii_arg ha) w hw).1) w hw).ln))) rfl rfl rfl ?_
  refine TL.makeSlice (n := a.length) (ev_t rfl) (ev_t rfl) (by omega) slT_22 rfl (by omega) (by unfold maxLen; omega) rfl (fun v1_2 => ?_)
  refine TL.cls (fun w hw => hw.madeTab 3) ?_
  refine TL.op (yq (y_assign (ev_t rfl))) rfl rfl rfl ?_
  refine TL.nil ?_
  refine TN.seq ?_
  refine TC.seq ?_
  refine TC.seq ?_
  refine TC.region ?_
  refine TL.op (yq (y_assign ev_c)) rfl rfl rfl ?_
  refine TL.nil ?_
  refine TN.seq ?_
  refine TC.block ?_
  obtain ⟨c16, hc17⟩ : ∃ c, F_laws_toIntSS_L1 a ((a.length - 0) + 1) (0, (List.replicate a.length ([] : List Int))) = c := ⟨_, rfl⟩
  rw [hc17] at hF
  refine TC.loop (ι := Nat × Nat × List (List Int) × List Value) (fun (fu1, i1, out1, uout1) => [(0, va), (3, v1_2), (4, (.int .i64 (i1 : Int)))]) (fun (fu1, i1, out1, uout1) => Hp w [tabI 25 3 v1_2 uout1 out1]) (fun (fu1, i1, out1, uout1) => (i1 ≤ a.length) ∧ (out1.length = a.length) ∧ a.length - i1 < fu1 ∧ F_laws_toIntSS_L1 a fu1 (i1, out1) = c16) (fun (fu1, i1, out1, uout1) => fu1) ((a.length - 0) + 1, 0, (List.replicate a.length ([] : List Int)), (List.replicate a.length (.slice none 0 0))) ⟨(by first | omega | (simp [-List.getD_eq_getElem?_getD] <;> omega)), (by first | omega | (simp [-List.getD_eq_getElem?_getD] <;> omega)), (by omega), hc17⟩ ⟨rfl, rfl, rfl, trivial⟩ (fun w hw => hw) ?_
  rintro ⟨fu1, i1, out1, uout1⟩ hJ1
  obtain ⟨hi1_0, hi1_1, hmu1, hL1⟩ : (i1 ≤ a.length) ∧ (out1.length = a.length) ∧ a.length - i1 < fu1 ∧ F_laws_toIntSS_L1 a fu1 (i1, out1) = c16 := hJ1
  change TC _ _ _ _ (Hp w [tabI 25 3 v1_2 uout1 out1]) [(0, va), (3, v1_2), (4, (.int .i64 (i1 : Int)))]
  obtain ⟨mf1, rfl⟩ : ∃ m, fu1 = m + 1 := ⟨fu1 - 1, by omega⟩
  rw [F_laws_toIntSS_L1_s] at hL1
  have hrow := hp1 i1
  refine TC.seq ?_
  refine TC.seq ?_
  refine TC.region ?_
  refine TL.op (yq (y_move (ev_t rfl))) rfl rfl rfl ?_
  refine TL.op (yq (y_move (ev_t rfl))) rfl rfl rfl ?_
  refine TL.op (yq (y_len (ev_t rfl) Try.underlying22 (fun w hw => ((fun w hw => ((rii_arg ha) w hw).1) w hw).ln))) rfl rfl rfl ?_
  refine TL.op (yq (y_lss (ev_t rfl) (ev_t rfl))) rfl rfl rfl ?_
  refine TL.nil ?_
  refine TN.seq ?_
  refine TC.cond (b := decide ((i1 : Int) < (a.length : Int))) (ev_t rfl) (fun h18 => ?_) (fun h18 => ?_)
  · rw [bif_pos h18] at hL1
    have q19 := (of_decide_eq_true h18)
    refine TC.skip ?_
    refine TN.seq ?_
    refine TC.seq ?_
    refine TC.block ?_
    refine TC.region ?_
    refine TL.op (yq (y_move (ev_t rfl))) rfl rfl rfl ?_
    refine TL.op (yq (y_move (ev_t rfl))) rfl rfl rfl ?_
    refine TL.op (yq (y_move (ev_t rfl))) rfl rfl rfl ?_
    refine TL.op (yq (y_move (ev_t rfl))) rfl rfl rfl ?_
    have hb20 : i1 < a.length := (by first | omega | (simp only [List.length_set, List.length_append, List.length_cons, List.length_nil, List.length_replicate]; omega) | (rw [sortI_length]; simp only [List.length_cons, List.length_nil]; omega) | (simp only [ByteArray.size_append]; omega))
    refine TL.op (yq (y_idx (k := i1) (ev_t rfl) (ev_t rfl) (by first | omega | simp) slT_22 (fun w hw => ((rii_arg ha) w hw).1) hb20)) rfl rfl rfl ?_
    have ha21 := ha.row (i := i1) hb20
    refine TL.op (yq (y_ldA (ev_t rfl) one_25 (rii_arg ha) hb20)) rfl rfl rfl ?_
    refine TL.callr (ι := Value) (vs := [(ua.getD i1 undef)]) (fun i => i) (fun i => [rowI 3 i (F_laws_toIntS (a.getD i1 []))]) en_9 ⟨(ev_t rfl), trivial⟩ rfl (fun w hw => laws_toIntS_ok w (ua.getD i1 undef) (a.getD i1 []) ((ri_arg ha21) w hw) (by first | assumption | omega | grind)) (fun r5_6 => ?_)
    have hb22 : i1 < out1.length := (by first | omega | (simp only [List.length_set, List.length_append, List.length_cons, List.length_nil, List.length_replicate]; omega) | (rw [sortI_length]; simp only [List.length_cons, List.length_nil]; omega) | (simp only [ByteArray.size_append]; omega))
    refine TL.op (yq (y_idx (k := i1) (ev_t rfl) (ev_t rfl) (by first | omega | simp) slT_22 (fun w hw => ((rii_tab 1 rfl) w hw).1) hb22)) rfl rfl rfl ?_
    refine TL.storeU 1 0 rfl (ev_t rfl) (ev_t rfl) one_25 rfl rfl hb22 ?_
    refine TL.nil ?_
    refine TN.blockN ?_
    refine TN.seq ?_
    refine TC.region ?_
    refine TL.op (yq (y_move (ev_t rfl))) rfl rfl rfl ?_
    refine TL.op (yq (y_add (ev_t rfl) ev_c (by unfold In64; constructor <;> omega))) rfl rfl rfl ?_
    refine TL.op (yq (y_assign (ev_t rfl))) rfl rfl rfl ?_
    refine TL.nil ?_
    exact TN.hand (mf1, (i1 + 1), (out1.set i1 (F_laws_toIntS (a.getD i1 []))), (uout1.set i1 r5_6)) ⟨(by first | omega | (simp [-List.getD_eq_getElem?_getD] <;> omega)), (by first | omega | (simp [-List.getD_eq_getElem?_getD] <;> omega)), (by omega), hL1⟩ (Nat.lt_succ_self _) ⟨rfl, rfl, rfl, trivial⟩ (fun w hw => Hp.sublist hw (.cons _ (.cons_cons _ .slnil)))
  · rw [bif_neg h18] at hL1
    have q19 := (of_decide_eq_false h18)
    refine TC.exit ?_
    refine TN.thenE ?_
    refine TN.thenE ?_
    rw [← hL1, elim_next] at hF
    try dsimp only at hF
    refine TN.blockH ?_
    refine TN.seq ?_
    refine TC.seq ?_
    refine TC.region ?_
    refine TL.op (yq (y_move (ev_t rfl))) rfl rfl rfl ?_
    refine TL.op (yq (y_assign (ev_t rfl))) rfl rfl rfl ?_
    refine TL.nil ?_
    refine TN.seq ?_
    refine TC.ret ?_
    subst hF
    exact TN.ret1 rfl (ev_t rfl) (fun w' hw => ⟨(v1_2, uout1), rfl, hw⟩)

set_option maxRecDepth 4000 in
set_option maxHeartbeats 1000000 in
theorem laws_toMetric_ok (w : World) (vm : Value) (um : List Value) (m : List (List Int)) (hm : RII w vm um m) (hp0 : m.length ≤ 1048576) (hp1 : ∀ i, (m.getD i []).length ≤ 1048576) :
    Calls Try.prog 8 ([(.agg #[vm])] : List Value).toArray w (fun e w' => ∃ i : Value × List Value, e = .returned (.agg #[i.1]) ∧ Hp w [tabI 25 3 i.1 i.2 (F_laws_toMetric m)] w') := by
  obtain ⟨rz, hF⟩ : ∃ rz, (F_laws_toMetric m) = rz := ⟨_, rfl⟩
  rw [hF]
  unfold F_laws_toMetric at hF
  have hlen_m := argT_len hm
  refine calls_tc Try.func8 rfl rfl rfl ?_
  change TC _ _ _ _ (Hp w []) [(0, (.agg #[vm]))]
  refine TC.seq ?_
  refine TC.region ?_
  refine TL.box (ev_t rfl) rfl (fun g0_0 => ?_)
  refine TL.alloc (u := (.agg #[(.slice none 0 0)])) (by kernel_rfl) rfl (fun g0_1 => ?_)
  refine TL.nil ?_
  refine TN.seq ?_
  refine TC.seq ?_
  refine TC.region ?_
  refine TL.alloc (u := (.agg #[(.slice none 0 0)])) (by kernel_rfl) rfl (fun g1_0 => ?_)
  refine TL.nil ?_
  refine TN.seq ?_
  refine TC.seq ?_
  refine TC.region ?_
  refine TL.op (yq (y_fa (fa_24_0 g0_0) (ev_t rfl))) rfl rfl rfl ?_
  refine TL.op (yq (y_ldb 2 (ev_t rfl) one_22 rfl rfl)) rfl rfl rfl ?_
  refine TL.callr (ι := Value × List Value) (vs := [vm]) (fun i => i.1) (fun i => [tabI 25 3 i.1 i.2 (F_laws_toIntSS m)]) en_25 ⟨(ev_t rfl), trivial⟩ rfl (fun w hw => laws_toIntSS_ok w vm um m ((rii_arg hm) w hw) (by first | assumption | omega | grind) (by first | assumption | omega | grind)) (fun r2_2 => ?_)
  refine TL.op (yq (y_fa (fa_29_0 g1_0) (ev_t rfl))) rfl rfl rfl ?_
  refine TL.storeB 1 (ev_t rfl) (ev_t rfl) one_22 rfl (by first | decide | simp) (fun w hw => (ln_one ((fun w hw => ((rii_tab 0 rfl) w hw).1) w hw).ln)) ?_
  refine TL.nil ?_
  refine TN.seq ?_
  refine TC.seq ?_
  refine TC.region ?_
  refine TL.op (yq (y_ldagg (cs := [r2_2.1]) 1 (ev_t rfl) agg_29 rfl)) rfl rfl rfl ?_
  refine TL.storeAgg (cs := [(.slice none 0 0)]) (us := [r2_2.1]) 2 (ev_t rfl) (ev_t rfl) agg_29 rfl rfl (fun w hw => (ocs_cons (ln_one ((fun w hw => ((rii_tab 0 rfl) w hw).1) w hw).ln) ocs_nil)) ?_
  refine TL.nil ?_
  refine TN.seq ?_
  refine TC.ret ?_
  subst hF
  exact TN.retC (cs := [r2_2.1]) 2 (by simp) rfl (ev_t rfl) agg_29 rfl (fun w' hw => ⟨(r2_2.1, r2_2.2), rfl, Hp.sublist hw (.cons_cons _ (.cons _ (.cons _ (.cons _ .slnil))))⟩)

set_option maxRecDepth 4000 in
set_option maxHeartbeats 1000000 in
theorem laws_eqMetric_ok (w : World) (va : Value) (ua : List Value) (a : List (List Int)) (ha : RII w va ua a) (vb : Value) (ub : List Value) (b : List (List Int)) (hb : RII w vb ub b)  :
    Calls Try.prog 11 ([(.agg #[va]), (.agg #[vb])] : List Value).toArray w (Ret (.bool (F_laws_eqMetric a b)) (Hp w [])) := by
  obtain ⟨rz, hF⟩ : ∃ rz, (F_laws_eqMetric a b) = rz := ⟨_, rfl⟩
  rw [hF]
  unfold F_laws_eqMetric at hF
  have hlen_a := argT_len ha
  have hlen_b := argT_len hb
  refine calls_tc Try.func11 rfl rfl rfl ?_
  change TC _ _ _ _ (Hp w []) [(0, (.agg #[va])), (1, (.agg #[vb]))]
  refine TC.seq ?_
  refine TC.region ?_
  refine TL.box (ev_t rfl) rfl (fun g0_0 => ?_)
  refine TL.box (ev_t rfl) rfl (fun g0_1 => ?_)
  refine TL.op (yq (y_assign ev_c)) rfl rfl rfl ?_
  refine TL.nil ?_
  refine TN.seq ?_
  refine TC.seq ?_
  refine TC.seq ?_
  refine TC.region ?_
  refine TL.op (yq (y_fa (fa_29_0 g0_0) (ev_t rfl))) rfl rfl rfl ?_
  refine TL.op (yq (y_ldb 1 (ev_t rfl) one_22 rfl rfl)) rfl rfl rfl ?_
  refine TL.op (yq (y_fa (fa_29_0 g0_1) (ev_t rfl))) rfl rfl rfl ?_
  refine TL.op (yq (y_ldb 0 (ev_t rfl) one_22 rfl rfl)) rfl rfl rfl ?_
  refine TL.op (y_call (vs := [va, vb]) (v := (.bool (F_laws_eqIntSS a b))) en_29 ⟨(ev_t rfl), (ev_t rfl), trivial⟩ (fun w hw => laws_eqIntSS_ok w va ua a ((rii_arg ha) w hw) vb ub b ((rii_arg hb) w hw))) rfl rfl rfl ?_
  refine TL.op (yq (y_not (ev_t rfl))) rfl rfl rfl ?_
  refine TL.nil ?_
  refine TN.seq ?_
  refine TC.cond (b := !(F_laws_eqIntSS a b)) (ev_t rfl) (fun h3 => ?_) (fun h3 => ?_)
  · rw [bif_pos h3] at hF
    have q4 := (not_t h3)
    refine TC.seq ?_
    refine TC.region ?_
    refine TL.op (yq (y_assign ev_c)) rfl rfl rfl ?_
    refine TL.nil ?_
    refine TN.seq ?_
    refine TC.ret ?_
    refine TN.thenR ?_
    subst hF
    exact TN.ret1 rfl (ev_t rfl) (fun w' hw => ⟨rfl, Hp.sublist hw (List.nil_sublist _)⟩)
  · rw [bif_neg h3] at hF
    have q4 := (not_f h3)
    refine TC.skip ?_
    refine TN.seq ?_
    refine TC.seq ?_
    refine TC.region ?_
    refine TL.op (yq (y_assign ev_c)) rfl rfl rfl ?_
    refine TL.nil ?_
    refine TN.seq ?_
    refine TC.ret ?_
    subst hF
    exact TN.ret1 rfl (ev_t rfl) (fun w' hw => ⟨rfl, Hp.sublist hw (List.nil_sublist _)⟩)

set_option maxRecDepth 4000 in
set_option maxHeartbeats 1000000 in
theorem laws_markMetric_ok (w0 w : World) (fr : List Ck) (va : Value) (ua : List Value) (a : List (List Int)) (hw : Hp w0 (tabI 25 3 va ua a :: fr) w) (k : Int) (hp0 : 0 ≤ k) (hp1 : k + total a ≤ 1000000000) :
    Calls Try.prog 15 ([(.agg #[va]), (.int .i64 k)] : List Value).toArray w (fun e w' => ∃ _i : Unit, e = .returned (.int .i64 ((F_laws_markMetric a k).1)) ∧ Hp w0 (tabI 25 3 va ua ((F_laws_markMetric a k).2) :: fr) w') := by
  obtain ⟨rz, hF⟩ : ∃ rz, (F_laws_markMetric a k) = rz := ⟨_, rfl⟩
  rw [hF]
  unfold F_laws_markMetric at hF
  have hlen_a : a.length ≤ 9223372036854775807 := (hw.get 0 rfl).maxn
  refine calls_tcm Try.func15 rfl rfl rfl hw ?_
  change TC _ _ _ _ (Hp w0 ([tabI 25 3 va ua a] ++ fr)) [(0, (.agg #[va])), (1, (.int .i64 k))]
  refine TC.seq ?_
  refine TC.region ?_
  refine TL.box (ev_t rfl) rfl (fun g0_0 => ?_)
  refine TL.op (yq (y_assign ev_c)) rfl rfl rfl ?_
  refine TL.nil ?_
  refine TN.seq ?_
  refine TC.seq ?_
  refine TC.region ?_
  refine TL.op (yq (y_fa (fa_29_0 g0_0) (ev_t rfl))) rfl rfl rfl ?_
  refine TL.op (yq (y_ldb 0 (ev_t rfl) one_22 rfl rfl)) rfl rfl rfl ?_
  refine TL.op (yq (y_move (ev_t rfl))) rfl rfl rfl ?_
  refine TL.callm (ι := Unit) 1 (vs := [va, (.int .i64 k)]) (fun _ => (.int .i64 ((F_laws_markIntSS a k).1))) (fun _ => tabI 25 3 va ua ((F_laws_markIntSS a k).2)) en_31 ⟨(ev_t rfl), (ev_t rfl), trivial⟩ rfl rfl (fun w1 fr1 hw => laws_markIntSS_ok w0 w1 _ va ua a hw k (by first | assumption | omega | grind) (by first | assumption | omega | grind)) (fun _ => ?_)
  refine TL.op (yq (y_assign (ev_t rfl))) rfl rfl rfl ?_
  refine TL.nil ?_
  refine TN.seq ?_
  refine TC.seq ?_
  refine TC.region ?_
  refine TL.op (yq (y_move (ev_t rfl))) rfl rfl rfl ?_
  refine TL.op (yq (y_assign (ev_t rfl))) rfl rfl rfl ?_
  refine TL.nil ?_
  refine TN.seq ?_
  refine TC.ret ?_
  subst hF
  exact TN.ret1 rfl (ev_t rfl) (fun w' hw => ⟨(), rfl, Hp.sublist hw (.cons _ (.cons_cons _ (List.Sublist.refl _)))⟩)

end Go.Proofs.Ytgnikdpgndmldaa
