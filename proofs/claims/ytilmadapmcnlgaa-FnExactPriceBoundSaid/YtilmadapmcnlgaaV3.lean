/-
  Walks of functions of the program: each computes its plain function. No condition but the bounds that are typed.
-/
import Derived.Test.YtilmadapmcnlgaaV2
namespace Go.Proofs.Ytilmadapmcnlgaa
open Go Go.RowKit
set_option linter.unusedVariables false

set_option maxRecDepth 4000 in
set_option maxHeartbeats 1000000 in
theorem impl_flowOf_ok (w : World) (vm : Value) (um : List Value) (m : List (List Int)) (hm : RII w vm um m) (va : Value) (a : List Int) (ha : RI w va a) (vreqs : Value) (reqs : List Int) (hreqs : RI w vreqs reqs) (hp0 : Sv m a reqs) :
    Calls Try.prog 95 ([(.agg #[vm]), va, vreqs] : List Value).toArray w (fun e w' => ∃ i : Nat × Value × List Value, e = .returned (.pointer (some ⟨i.1, 0, none⟩)) ∧ Hp w [.blk i.1 93 [.int .i64 ((F_impl_flowOf m a reqs).1), i.2.1], tabI 25 3 i.2.1 i.2.2 ((F_impl_flowOf m a reqs).2)] w') := by
  obtain ⟨rz, hF⟩ : ∃ rz, (F_impl_flowOf m a reqs) = rz := ⟨_, rfl⟩
  rw [hF]
  unfold F_impl_flowOf at hF
  have hal := concat_len a reqs
  have htt := total_two a reqs
  have hTab := hp0.tab
  have hr60 := hp0.r60
  have hn3 := hp0.cf.n3
  have hlen_m := argT_len hm
  have hlen_a := arg_len ha
  have hlen_reqs := arg_len hreqs
  refine calls_tc Try.func95 rfl rfl rfl ?_
  change TC _ _ _ _ (Hp w []) [(0, (.agg #[vm])), (1, va), (2, vreqs)]
  refine TC.seq ?_
  refine TC.region ?_
  refine TL.box (ev_t rfl) rfl (fun g0_0 => ?_)
  refine TL.op (yq (y_assign ev_c)) rfl rfl rfl ?_
  refine TL.nil ?_
  refine TN.seq ?_
  refine TC.seq ?_
  refine TC.region ?_
  refine TL.op (yq (y_move (ev_t rfl))) rfl rfl rfl ?_
  refine TL.op (yq (y_len (ev_t rfl) Try.underlying25 (fun w hw => ((ri_arg ha) w hw).ln))) rfl rfl rfl ?_
  refine TL.op (yq (y_bldF (ev_t rfl) bd_93_f)) rfl rfl rfl ?_
  refine TL.box (ev_t rfl) rfl (fun g1_3 => ?_)
  refine TL.op (yq (y_assign (ev_t rfl))) rfl rfl rfl ?_
  refine TL.nil ?_
  refine TN.seq ?_
  refine TC.seq ?_
  refine TC.region ?_
  refine TL.op (yq (y_move (ev_t rfl))) rfl rfl rfl ?_
  refine TL.op (yq (y_move (ev_t rfl))) rfl rfl rfl ?_
  refine TL.build2 slT_22 (ev_t rfl) (ev_t rfl) (fun w hw => ((ri_arg ha) w hw).ln) (fun w hw => ((ri_arg hreqs) w hw).ln) rfl (fun v2_2 => ?_)
  refine TL.callr (ι := Value) (vs := [v2_2]) (fun i => i) (fun i => [rowI 3 i (F_slices_Concat_Sint_int ([a, reqs]))]) en_123 ⟨(ev_t rfl), trivial⟩ rfl (fun w hw => slices_Concat_Sint_int_ok w v2_2 ([va, vreqs]) ([a, reqs]) ((rii_two 0 rfl (ri_arg ha) (ri_arg hreqs)) w hw) (by first | assumption | omega | grind)) (fun r2_3 => ?_)
  refine TL.op (yq (y_assign (ev_t rfl))) rfl rfl rfl ?_
  refine TL.nil ?_
  refine TN.seq ?_
  refine TC.seq ?_
  refine TC.seq ?_
  refine TC.region ?_
  refine TL.op (yq (y_move (ev_t rfl))) rfl rfl rfl ?_
  refine TL.op (yq (y_len (ev_t rfl) Try.underlying25 (fun w hw => ((ri_arg hreqs) w hw).ln))) rfl rfl rfl ?_
  refine TL.op (yq (y_move ev_c)) rfl rfl rfl ?_
  refine TL.nil ?_
  refine TN.seq ?_
  refine TC.block ?_
  refine TC.cls (fun w hw => hw.nilTab 25 3) ?_
  obtain ⟨c63, hc64⟩ : ∃ c, F_impl_flowOf_L1 m a reqs ((reqs.length - 0) + 1) (0, ([])) = c := ⟨_, rfl⟩
  rw [hc64] at hF
  refine TC.loop (ι := Nat × Nat × List (List Int) × Value × List Value) (fun (fu1, k24_1, zg1_3_1_1, vzg1_3_1_1, uzg1_3_1_1) => [(1, va), (3, (.pointer (some ⟨g0_0, 0, none⟩))), (7, (.pointer (some ⟨g1_3, 0, none⟩))), (8, r2_3), (22, vreqs), (23, (.int .i64 (reqs.length : Int))), (24, (.int .i64 (k24_1 : Int)))]) (fun (fu1, k24_1, zg1_3_1_1, vzg1_3_1_1, uzg1_3_1_1) => Hp w [tabI 25 3 vzg1_3_1_1 uzg1_3_1_1 zg1_3_1_1, rowI 3 r2_3 (F_slices_Concat_Sint_int ([a, reqs])), .blk g1_3 93 [(.int .i64 (a.length : Int)), vzg1_3_1_1], .blk g0_0 29 [vm]]) (fun (fu1, k24_1, zg1_3_1_1, vzg1_3_1_1, uzg1_3_1_1) => (k24_1 ≤ reqs.length) ∧ (zg1_3_1_1.length = k24_1) ∧ reqs.length - k24_1 < fu1 ∧ F_impl_flowOf_L1 m a reqs fu1 (k24_1, zg1_3_1_1) = c63) (fun (fu1, k24_1, zg1_3_1_1, vzg1_3_1_1, uzg1_3_1_1) => fu1) ((reqs.length - 0) + 1, 0, [], (.slice none 0 0), []) ⟨(by first | omega | (simp [-List.getD_eq_getElem?_getD] <;> omega)), (by first | omega | (simp [-List.getD_eq_getElem?_getD] <;> omega)), (by omega), hc64⟩ ⟨rfl, rfl, rfl, rfl, rfl, rfl, rfl, trivial⟩ (fun w hw => Hp.sublist hw (.cons_cons _ (.cons_cons _ (.cons _ (.cons_cons _ (.cons_cons _ .slnil)))))) ?_
  rintro ⟨fu1, k24_1, zg1_3_1_1, vzg1_3_1_1, uzg1_3_1_1⟩ hJ1
  obtain ⟨hi1_0, hi1_1, hmu1, hL1⟩ : (k24_1 ≤ reqs.length) ∧ (zg1_3_1_1.length = k24_1) ∧ reqs.length - k24_1 < fu1 ∧ F_impl_flowOf_L1 m a reqs fu1 (k24_1, zg1_3_1_1) = c63 := hJ1
  change TC _ _ _ _ (Hp w [tabI 25 3 vzg1_3_1_1 uzg1_3_1_1 zg1_3_1_1, rowI 3 r2_3 (F_slices_Concat_Sint_int ([a, reqs])), .blk g1_3 93 [(.int .i64 (a.length : Int)), vzg1_3_1_1], .blk g0_0 29 [vm]]) [(1, va), (3, (.pointer (some ⟨g0_0, 0, none⟩))), (7, (.pointer (some ⟨g1_3, 0, none⟩))), (8, r2_3), (22, vreqs), (23, (.int .i64 (reqs.length : Int))), (24, (.int .i64 (k24_1 : Int)))]
  obtain ⟨mf1, rfl⟩ : ∃ m, fu1 = m + 1 := ⟨fu1 - 1, by omega⟩
  rw [F_impl_flowOf_L1_s] at hL1
  have hre := hp0.el k24_1
  have hfl := fun h => flow_ln a reqs (i := k24_1) h
  refine TC.seq ?_
  refine TC.region ?_
  refine TL.op (yq (y_lss (ev_t rfl) (ev_t rfl))) rfl rfl rfl ?_
  refine TL.nil ?_
  refine TN.seq ?_
  refine TC.seq ?_
  refine TC.cond (b := decide ((k24_1 : Int) < (reqs.length : Int))) (ev_t rfl) (fun h65 => ?_) (fun h65 => ?_)
  · rw [bif_pos h65] at hL1
    have q66 := (of_decide_eq_true h65)
    refine TC.skip ?_
    refine TN.seq ?_
    refine TC.seq ?_
    refine TC.block ?_
    refine TC.seq ?_
    refine TC.region ?_
    refine TL.op (yq (y_move (ev_t rfl))) rfl rfl rfl ?_
    have hb67 : k24_1 < reqs.length := (by first | omega | (simp only [List.length_set, List.length_append, List.length_cons, List.length_nil, List.length_replicate]; omega) | (rw [sortI_length]; simp only [List.length_cons, List.length_nil]; omega))
    refine TL.op (yq (y_idx (k := k24_1) (ev_t rfl) (ev_t rfl) (by first | omega | simp) slT_25 (ri_arg hreqs) hb67)) rfl rfl rfl ?_
    refine TL.op (yq (y_ldi (ev_t rfl) one_3 (ri_arg hreqs) hb67)) rfl rfl rfl ?_
    refine TL.op (yq (y_assign (ev_t rfl))) rfl rfl rfl ?_
    refine TL.op (yq (y_assign (ev_t rfl))) rfl rfl rfl ?_
    refine TL.nil ?_
    refine TN.seq ?_
    refine TC.seq ?_
    refine TC.region ?_
    refine TL.buildI (zs := [.const (.int .i64 1073741824)]) (qs := [1073741824]) slT_25 rfl ⟨ev_c, trivial⟩ rfl (by decide) rfl (fun v6_0 => ?_)
    refine TL.op (yq (y_move (ev_t rfl))) rfl rfl rfl ?_
    refine TL.op (yq (y_len (ev_t rfl) Try.underlying25 (fun w hw => ((ri_row 2 rfl) w hw).ln))) rfl rfl rfl ?_
    refine TL.callr (ι := Value) (vs := [v6_0, (.int .i64 ((F_slices_Concat_Sint_int ([a, reqs])).length : Int))]) (fun i => i) (fun i => [rowI 3 i (F_slices_Repeat_Sint_int ([1073741824]) ((F_slices_Concat_Sint_int ([a, reqs])).length : Int))]) en_82 ⟨(ev_t rfl), (ev_t rfl), trivial⟩ rfl (fun w hw => slices_Repeat_Sint_int_ok w v6_0 ([1073741824]) ((ri_row 0 rfl) w hw) ((F_slices_Concat_Sint_int ([a, reqs])).length : Int) (by first | omega | rfl) (by first | omega | rfl) (by first | omega | rfl)) (fun r6_3 => ?_)
    refine TL.op (yq (y_assign (ev_t rfl))) rfl rfl rfl ?_
    refine TL.nil ?_
    refine TN.seq ?_
    refine TC.seq ?_
    refine TC.seq ?_
    refine TC.region ?_
    refine TL.op (yq (y_move (ev_t rfl))) rfl rfl rfl ?_
    refine TL.op (yq (y_move (ev_t rfl))) rfl rfl rfl ?_
    refine TL.op (yq (y_len (ev_t rfl) Try.underlying25 (fun w hw => ((ri_arg ha) w hw).ln))) rfl rfl rfl ?_
    refine TL.op (yq (y_move (ev_t rfl))) rfl rfl rfl ?_
    refine TL.op (yq (y_add (ev_t rfl) (ev_t rfl) (by unfold In64; omega))) rfl rfl rfl ?_
    have hs68 : 0 ≤ (a.length + k24_1) := (by first | omega | (simp only [List.length_set, List.length_append, List.length_cons, List.length_nil, List.length_replicate]; omega) | (rw [sortI_length]; simp only [List.length_cons, List.length_nil]; omega))
    have hs69 : (a.length + k24_1) ≤ (F_slices_Concat_Sint_int ([a, reqs])).length := (by first | omega | (simp only [List.length_set, List.length_append, List.length_cons, List.length_nil, List.length_replicate]; omega) | (rw [sortI_length]; simp only [List.length_cons, List.length_nil]; omega))
    refine TL.op (yq (y_slice_hi (ev_t rfl) (ev_t rfl) (hi := (a.length + k24_1)) (by omega) slT_25 (ri_row 3 rfl) hs69)) rfl rfl rfl ?_
    refine TL.op (yq (y_len (ev_t rfl) Try.underlying25 (fun w hw => ((fun w hw => ri_resl ((ri_row 3 rfl) w hw) hs68 hs69) w hw).ln))) rfl rfl rfl ?_
    refine TL.op (yq (y_move ev_c)) rfl rfl rfl ?_
    refine TL.nil ?_
    refine TN.seq ?_
    refine TC.block ?_
    obtain ⟨c70, hc71⟩ : ∃ c, F_impl_flowOf_L2 m a reqs k24_1 ((((((F_slices_Concat_Sint_int ([a, reqs])).take (a.length + k24_1)).drop 0).length) - 0) + 1) (0, (F_slices_Repeat_Sint_int ([1073741824]) ((F_slices_Concat_Sint_int ([a, reqs])).length : Int))) = c := ⟨_, rfl⟩
    rw [hc71] at hL1
    refine TC.loop (ι := Nat × Nat × List Int) (fun (fu2, k40_2, m0_2) => [(1, va), (3, (.pointer (some ⟨g0_0, 0, none⟩))), (7, (.pointer (some ⟨g1_3, 0, none⟩))), (8, r2_3), (10, (.int .i64 (reqs.getD k24_1 0))), (11, r6_3), (22, vreqs), (23, (.int .i64 (reqs.length : Int))), (24, (.int .i64 (k24_1 : Int))), (38, (resl r2_3 0 (a.length + k24_1) 1)), (39, (.int .i64 ((((F_slices_Concat_Sint_int ([a, reqs])).take (a.length + k24_1)).drop 0).length : Int))), (40, (.int .i64 (k40_2 : Int)))]) (fun (fu2, k40_2, m0_2) => Hp w [rowI 3 r6_3 m0_2, tabI 25 3 vzg1_3_1_1 uzg1_3_1_1 zg1_3_1_1, rowI 3 r2_3 (F_slices_Concat_Sint_int ([a, reqs])), .blk g1_3 93 [(.int .i64 (a.length : Int)), vzg1_3_1_1], .blk g0_0 29 [vm]]) (fun (fu2, k40_2, m0_2) => (k40_2 ≤ ((((F_slices_Concat_Sint_int ([a, reqs])).take (a.length + k24_1)).drop 0).length)) ∧ (m0_2.length = a.length + reqs.length) ∧ ((((F_slices_Concat_Sint_int ([a, reqs])).take (a.length + k24_1)).drop 0).length) - k40_2 < fu2 ∧ F_impl_flowOf_L2 m a reqs k24_1 fu2 (k40_2, m0_2) = c70) (fun (fu2, k40_2, m0_2) => fu2) ((((((F_slices_Concat_Sint_int ([a, reqs])).take (a.length + k24_1)).drop 0).length) - 0) + 1, 0, (F_slices_Repeat_Sint_int ([1073741824]) ((F_slices_Concat_Sint_int ([a, reqs])).length : Int))) ⟨(by first | omega | (simp [-List.getD_eq_getElem?_getD] <;> omega)), (by rw [repeat_eq _ _ (by omega) (by omega)]; simp; omega), (by omega), hc71⟩ ⟨rfl, rfl, rfl, rfl, rfl, rfl, rfl, rfl, rfl, rfl, rfl, rfl, trivial⟩ (fun w hw => Hp.sublist hw (.cons_cons _ (.cons _ (.cons_cons _ (.cons_cons _ (.cons_cons _ (.cons_cons _ .slnil))))))) ?_
    rintro ⟨fu2, k40_2, m0_2⟩ hJ2
    obtain ⟨hi2_0, hi2_1, hmu2, hL2⟩ : (k40_2 ≤ ((((F_slices_Concat_Sint_int ([a, reqs])).take (a.length + k24_1)).drop 0).length)) ∧ (m0_2.length = a.length + reqs.length) ∧ ((((F_slices_Concat_Sint_int ([a, reqs])).take (a.length + k24_1)).drop 0).length) - k40_2 < fu2 ∧ F_impl_flowOf_L2 m a reqs k24_1 fu2 (k40_2, m0_2) = c70 := hJ2
    change TC _ _ _ _ (Hp w [rowI 3 r6_3 m0_2, tabI 25 3 vzg1_3_1_1 uzg1_3_1_1 zg1_3_1_1, rowI 3 r2_3 (F_slices_Concat_Sint_int ([a, reqs])), .blk g1_3 93 [(.int .i64 (a.length : Int)), vzg1_3_1_1], .blk g0_0 29 [vm]]) [(1, va), (3, (.pointer (some ⟨g0_0, 0, none⟩))), (7, (.pointer (some ⟨g1_3, 0, none⟩))), (8, r2_3), (10, (.int .i64 (reqs.getD k24_1 0))), (11, r6_3), (22, vreqs), (23, (.int .i64 (reqs.length : Int))), (24, (.int .i64 (k24_1 : Int))), (38, (resl r2_3 0 (a.length + k24_1) 1)), (39, (.int .i64 ((((F_slices_Concat_Sint_int ([a, reqs])).take (a.length + k24_1)).drop 0).length : Int))), (40, (.int .i64 (k40_2 : Int)))]
    obtain ⟨mf2, rfl⟩ : ∃ m, fu2 = m + 1 := ⟨fu2 - 1, by omega⟩
    rw [F_impl_flowOf_L2_s] at hL2
    have hfa := hfl (by omega)
    have hpe := fun h => flow_pt hp0 (i := k24_1) (by omega) k40_2 h
    have hrw := hTab.rows ((((F_slices_Concat_Sint_int ([a, reqs])).take (a.length + k24_1)).drop 0).getD k40_2 0).toNat
    refine TC.seq ?_
    refine TC.region ?_
    refine TL.op (yq (y_lss (ev_t rfl) (ev_t rfl))) rfl rfl rfl ?_
    refine TL.nil ?_
    refine TN.seq ?_
    refine TC.seq ?_
    refine TC.cond (b := decide ((k40_2 : Int) < ((((F_slices_Concat_Sint_int ([a, reqs])).take (a.length + k24_1)).drop 0).length : Int))) (ev_t rfl) (fun h72 => ?_) (fun h72 => ?_)
    · rw [bif_pos h72] at hL2
      have q73 := (of_decide_eq_true h72)
      refine TC.skip ?_
      refine TN.seq ?_
      refine TC.seq ?_
      refine TC.block ?_
      refine TC.seq ?_
      refine TC.region ?_
      refine TL.op (yq (y_move (ev_t rfl))) rfl rfl rfl ?_
      have hb74 : k40_2 < (((F_slices_Concat_Sint_int ([a, reqs])).take (a.length + k24_1)).drop 0).length := (by first | omega | (simp only [List.length_set, List.length_append, List.length_cons, List.length_nil, List.length_replicate]; omega) | (rw [sortI_length]; simp only [List.length_cons, List.length_nil]; omega))
      refine TL.op (yq (y_idx (k := k40_2) (ev_t rfl) (ev_t rfl) (by first | omega | simp) slT_25 (fun w hw => ri_resl ((ri_row 2 rfl) w hw) hs68 hs69) hb74)) rfl rfl rfl ?_
      refine TL.op (yq (y_ldi (ev_t rfl) one_3 (fun w hw => ri_resl ((ri_row 2 rfl) w hw) hs68 hs69) hb74)) rfl rfl rfl ?_
      refine TL.op (yq (y_assign (ev_t rfl))) rfl rfl rfl ?_
      refine TL.op (yq (y_assign (ev_t rfl))) rfl rfl rfl ?_
      refine TL.nil ?_
      refine TN.seq ?_
      refine TC.region ?_
      refine TL.op (yq (y_move (ev_t rfl))) rfl rfl rfl ?_
      refine TL.op (yq (y_move (ev_t rfl))) rfl rfl rfl ?_
      refine TL.op (yq (y_fa (fa_29_0 g0_0) (ev_t rfl))) rfl rfl rfl ?_
      refine TL.op (yq (y_ldb 4 (ev_t rfl) one_22 rfl rfl)) rfl rfl rfl ?_
      refine TL.op (yq (y_move (ev_t rfl))) rfl rfl rfl ?_
      have hb75 : (((((F_slices_Concat_Sint_int ([a, reqs])).take (a.length + k24_1)).drop 0).getD k40_2 0)).toNat < m.length := (by first | omega | (simp only [List.length_set, List.length_append, List.length_cons, List.length_nil, List.length_replicate]; omega) | (rw [sortI_length]; simp only [List.length_cons, List.length_nil]; omega))
      refine TL.op (yq (y_idx (k := (((((F_slices_Concat_Sint_int ([a, reqs])).take (a.length + k24_1)).drop 0).getD k40_2 0)).toNat) (ev_t rfl) (ev_t rfl) (by first | omega | simp) slT_22 (fun w hw => ((rii_arg hm) w hw).1) hb75)) rfl rfl rfl ?_
      have ha76 := hm.row (i := (((((F_slices_Concat_Sint_int ([a, reqs])).take (a.length + k24_1)).drop 0).getD k40_2 0)).toNat) hb75
      refine TL.op (yq (y_ldA (ev_t rfl) one_25 (rii_arg hm) hb75)) rfl rfl rfl ?_
      refine TL.op (yq (y_move (ev_t rfl))) rfl rfl rfl ?_
      have hb77 : ((reqs.getD k24_1 0)).toNat < (m.getD ((((((F_slices_Concat_Sint_int ([a, reqs])).take (a.length + k24_1)).drop 0).getD k40_2 0)).toNat) []).length := (by first | omega | (simp only [List.length_set, List.length_append, List.length_cons, List.length_nil, List.length_replicate]; omega) | (rw [sortI_length]; simp only [List.length_cons, List.length_nil]; omega))
      refine TL.op (yq (y_idx (k := ((reqs.getD k24_1 0)).toNat) (ev_t rfl) (ev_t rfl) (by first | omega | simp) slT_25 (ri_arg ha76) hb77)) rfl rfl rfl ?_
      refine TL.op (yq (y_ldi (ev_t rfl) one_3 (ri_arg ha76) hb77)) rfl rfl rfl ?_
      have hb78 : k40_2 < m0_2.length := (by first | omega | (simp only [List.length_set, List.length_append, List.length_cons, List.length_nil, List.length_replicate]; omega) | (rw [sortI_length]; simp only [List.length_cons, List.length_nil]; omega))
      refine TL.op (yq (y_idx (k := k40_2) (ev_t rfl) (ev_t rfl) (by first | omega | simp) slT_25 (ri_row 0 rfl) hb78)) rfl rfl rfl ?_
      refine TL.storeI 0 (ev_t rfl) (ev_t rfl) one_3 rfl hb78 ?_
      refine TL.nil ?_
      refine TN.blockN ?_
      refine TN.seq ?_
      refine TC.region ?_
      refine TL.op (yq (y_add (ev_t rfl) ev_c (by unfold In64; omega))) rfl rfl rfl ?_
      refine TL.op (yq (y_move (ev_t rfl))) rfl rfl rfl ?_
      refine TL.nil ?_
      exact TN.hand (mf2, (k40_2 + 1), (m0_2.set k40_2 ((m.getD ((((((F_slices_Concat_Sint_int ([a, reqs])).take (a.length + k24_1)).drop 0).getD k40_2 0)).toNat) []).getD (((reqs.getD k24_1 0)).toNat) 0))) ⟨(by first | omega | (simp [-List.getD_eq_getElem?_getD] <;> omega)), (by simp only [List.length_set]; exact hi2_1), (by omega), hL2⟩ (Nat.lt_succ_self _) ⟨rfl, rfl, rfl, rfl, rfl, rfl, rfl, rfl, rfl, rfl, rfl, rfl, trivial⟩ (fun w hw => hw)
    · rw [bif_neg h72] at hL2
      have q73 := (of_decide_eq_false h72)
      refine TC.exit ?_
      refine TN.thenE ?_
      refine TN.thenE ?_
      rw [← hL2, elim_next] at hL1
      try dsimp only at hL1
      refine TN.blockH ?_
      refine TN.seq ?_
      refine TC.region ?_
      refine TL.op (yq (y_move (ev_t rfl))) rfl rfl rfl ?_
      refine TL.op (yq (y_move (ev_t rfl))) rfl rfl rfl ?_
      refine TL.op (yq (y_nilp (ev_t rfl))) rfl rfl rfl ?_
      refine TL.op (yq (y_fa (fa_93_1 g1_3) (ev_t rfl))) rfl rfl rfl ?_
      refine TL.op (yq (y_ldb 3 (ev_t rfl) one_22 rfl rfl)) rfl rfl rfl ?_
      refine TL.op (yq (y_move (ev_t rfl))) rfl rfl rfl ?_
      refine TL.buildU slT_22 (ev_t rfl) (fun w hw => ((ri_row 0 rfl) w hw).ln) rfl (fun v12_6 => ?_)
      refine TL.appendT 2 1 rfl (ev_t rfl) (ev_t rfl) rfl rfl slT_22 (rd_row 0 rfl) (by first | omega | (simp [-List.getD_eq_getElem?_getD] <;> omega)) rfl (fun v12_7 => ?_)
      refine TL.op (yq (y_nilp (ev_t rfl))) rfl rfl rfl ?_
      refine TL.op (yq (y_fa (fa_93_1 g1_3) (ev_t rfl))) rfl rfl rfl ?_
      refine TL.storeB 4 (ev_t rfl) (ev_t rfl) one_22 rfl (by first | decide | simp) (fun w hw => (ln_one ((fun w hw => ((rii_tab 2 rfl) w hw).1) w hw).ln)) ?_
      refine TL.nil ?_
      refine TN.blockN ?_
      refine TN.seq ?_
      refine TC.region ?_
      refine TL.op (yq (y_add (ev_t rfl) ev_c (by unfold In64; omega))) rfl rfl rfl ?_
      refine TL.op (yq (y_move (ev_t rfl))) rfl rfl rfl ?_
      refine TL.nil ?_
      exact TN.hand (mf1, (k24_1 + 1), (zg1_3_1_1 ++ [m0_2]), v12_7, (uzg1_3_1_1 ++ [r6_3])) ⟨(by first | omega | (simp [-List.getD_eq_getElem?_getD] <;> omega)), (by first | omega | (simp [-List.getD_eq_getElem?_getD] <;> omega)), (by omega), hL1⟩ (Nat.lt_succ_self _) ⟨rfl, rfl, rfl, rfl, rfl, rfl, rfl, trivial⟩ (fun w hw => Hp.sublist hw (.cons _ (.cons _ (.cons_cons _ (.cons_cons _ (.cons_cons _ (.cons_cons _ .slnil)))))))
  · rw [bif_neg h65] at hL1
    have q66 := (of_decide_eq_false h65)
    refine TC.exit ?_
    refine TN.thenE ?_
    refine TN.thenE ?_
    rw [← hL1, elim_next] at hF
    try dsimp only at hF
    refine TN.blockH ?_
    refine TN.seq ?_
    refine TC.seq ?_
    refine TC.region ?_
    refine TL.op (yq (y_move (ev_t rfl))) rfl rfl rfl ?_
    refine TL.op (yq (y_assign (ev_t rfl))) rfl rfl rfl ?_
    refine TL.nil ?_
    refine TN.seq ?_
    refine TC.ret ?_
    subst hF
    exact TN.ret1 rfl (ev_t rfl) (fun w' hw => ⟨(g1_3, vzg1_3_1_1, uzg1_3_1_1), rfl, Hp.picks [2, 0] (by decide) rfl hw⟩)

set_option maxRecDepth 4000 in
set_option maxHeartbeats 1000000 in
theorem impl_PriceBound_ok (w : World) (vm : Value) (um : List Value) (m : List (List Int)) (hm : RII w vm um m) (va : Value) (a : List Int) (ha : RI w va a) (vreqs : Value) (reqs : List Int) (hreqs : RI w vreqs reqs) (vprices : Value) (prices : List Int) (hprices : RI w vprices prices)  :
    Calls Try.prog 51 ([(.agg #[vm]), va, vreqs, vprices] : List Value).toArray w (Ret (.tuple #[(.int .i64 ((F_impl_PriceBound m a reqs prices).1)), (.bool ((F_impl_PriceBound m a reqs prices).2))]) (Hp w [])) := by
  obtain ⟨rz, hF⟩ : ∃ rz, (F_impl_PriceBound m a reqs prices) = rz := ⟨_, rfl⟩
  rw [hF]
  unfold F_impl_PriceBound at hF
  have hlen_m := argT_len hm
  have hlen_a := arg_len ha
  have hlen_reqs := arg_len hreqs
  have hlen_prices := arg_len hprices
  refine calls_tc Try.func51 rfl rfl rfl ?_
  change TC _ _ _ _ (Hp w []) [(0, (.agg #[vm])), (1, va), (2, vreqs), (3, vprices)]
  refine TC.seq ?_
  refine TC.region ?_
  refine TL.box (ev_t rfl) rfl (fun g0_0 => ?_)
  refine TL.op (yq (y_assign ev_c)) rfl rfl rfl ?_
  refine TL.op (yq (y_assign ev_c)) rfl rfl rfl ?_
  refine TL.nil ?_
  refine TN.seq ?_
  refine TC.seq ?_
  refine TC.seq ?_
  refine TC.region ?_
  refine TL.op (yq (y_ldagg (cs := [vm]) 0 (ev_t rfl) agg_29 rfl)) rfl rfl rfl ?_
  refine TL.op (yq (y_move (ev_t rfl))) rfl rfl rfl ?_
  refine TL.op (yq (y_move (ev_t rfl))) rfl rfl rfl ?_
  refine TL.op (y_call (vs := [(.agg #[vm]), va, vreqs]) (v := (.bool (F_impl_isServed m a reqs))) en_67 ⟨(ev_t rfl), (ev_t rfl), (ev_t rfl), trivial⟩ (fun w hw => impl_isServed_ok w vm um m ((rii_arg hm) w hw) va a ((ri_arg ha) w hw) vreqs reqs ((ri_arg hreqs) w hw))) rfl rfl rfl ?_
  refine TL.op (yq (y_not (ev_t rfl))) rfl rfl rfl ?_
  refine TL.op (yq (y_move (ev_t rfl))) rfl rfl rfl ?_
  refine TL.opw (w_f rfl rfl rfl) (fun hg => yq (y_move (ev_t rfl))) rfl rfl ?_
  refine TL.opw (w_f rfl rfl rfl) (fun hg => yq (y_len (ev_g rfl hg) Try.underlying25 (fun w hw => ((ri_arg hprices) w hw).ln))) rfl rfl ?_
  refine TL.opw (w_f rfl rfl rfl) (fun hg => yq (y_move (ev_t rfl))) rfl rfl ?_
  refine TL.opw (w_f rfl rfl rfl) (fun hg => yq (y_len (ev_g rfl hg) Try.underlying25 (fun w hw => ((ri_arg hreqs) w hw).ln))) rfl rfl ?_
  refine TL.opw (w_f rfl rfl rfl) (fun hg => yq (y_neq (ev_g rfl hg) (ev_g rfl hg))) rfl rfl ?_
  refine TL.op (yq (y_or (ev_t rfl) (fun hq => (ev_g rfl hq)))) rfl rfl rfl ?_
  refine TL.op (yq (y_move (ev_t rfl))) rfl rfl rfl ?_
  refine TL.opw (w_f rfl rfl rfl) (fun hg => yq (y_move (ev_t rfl))) rfl rfl ?_
  refine TL.opw (w_f rfl rfl rfl) (fun hg => y_call (vs := [vprices]) (v := (.bool (F_impl_isSmall prices))) en_79 ⟨(ev_g rfl hg), trivial⟩ (fun w hw => impl_isSmall_ok w vprices prices ((ri_arg hprices) w hw))) rfl rfl ?_
  refine TL.opw (w_f rfl rfl rfl) (fun hg => yq (y_not (ev_g rfl hg))) rfl rfl ?_
  refine TL.op (yq (y_or (ev_t rfl) (fun hq => (ev_g rfl hq)))) rfl rfl rfl ?_
  refine TL.nil ?_
  refine TN.seq ?_
  refine TC.cond (b := (((!(F_impl_isServed m a reqs)) || (!decide ((prices.length : Int) = (reqs.length : Int)))) || (!(F_impl_isSmall prices)))) (ev_t rfl) (fun h36 => ?_) (fun h36 => ?_)
  · rw [bif_pos h36] at hF
    have q37 := ((or_t h36).imp (fun h => ((or_t h).imp (fun h => (not_t h)) (fun h => (of_decide_eq_false (not_t h))))) (fun h => (not_t h)))
    refine TC.seq ?_
    refine TC.region ?_
    refine TL.op (yq (y_assign ev_c)) rfl rfl rfl ?_
    refine TL.op (yq (y_assign ev_c)) rfl rfl rfl ?_
    refine TL.nil ?_
    refine TN.seq ?_
    refine TC.ret ?_
    refine TN.thenR ?_
    subst hF
    exact TN.ret2 rfl (ev_t rfl) (ev_t rfl) (fun w' hw => ⟨rfl, Hp.sublist hw (List.nil_sublist _)⟩)
  · rw [bif_neg h36] at hF
    have q37 := (and_imp (or_f h36) (fun h => (and_imp (or_f h) (fun h => (isServed_t (not_f h))) (fun h => (of_decide_eq_true (not_f h))))) (fun h => (isSmall_t (not_f h))))
    have hS := q37.1.1
    have hpb := small_bd q37.2
    have hr60 := hS.r60
    have hn3 := hS.cf.n3
    have hfb := flow_bd hS
    have hf1 := hfb.1
    have hpl := q37.1.2
    refine TC.skip ?_
    refine TN.seq ?_
    refine TC.seq ?_
    refine TC.region ?_
    refine TL.op (yq (y_ldagg (cs := [vm]) 0 (ev_t rfl) agg_29 rfl)) rfl rfl rfl ?_
    refine TL.op (yq (y_move (ev_t rfl))) rfl rfl rfl ?_
    refine TL.op (yq (y_move (ev_t rfl))) rfl rfl rfl ?_
    refine TL.callr (ι := Nat × Value × List Value) (vs := [(.agg #[vm]), va, vreqs]) (fun i => (.pointer (some ⟨i.1, 0, none⟩))) (fun i => [.blk i.1 93 [.int .i64 ((F_impl_flowOf m a reqs).1), i.2.1], tabI 25 3 i.2.1 i.2.2 ((F_impl_flowOf m a reqs).2)]) en_95 ⟨(ev_t rfl), (ev_t rfl), (ev_t rfl), trivial⟩ rfl (fun w hw => impl_flowOf_ok w vm um m ((rii_arg hm) w hw) va a ((ri_arg ha) w hw) vreqs reqs ((ri_arg hreqs) w hw) (by first | assumption | omega | grind)) (fun r3_3 => ?_)
    refine TL.op (yq (y_assign (ev_t rfl))) rfl rfl rfl ?_
    refine TL.nil ?_
    refine TN.seq ?_
    refine TC.seq ?_
    refine TC.region ?_
    refine TL.op (yq (y_assign ev_c)) rfl rfl rfl ?_
    refine TL.nil ?_
    refine TN.seq ?_
    refine TC.seq ?_
    refine TC.seq ?_
    refine TC.region ?_
    refine TL.op (yq (y_move (ev_t rfl))) rfl rfl rfl ?_
    refine TL.op (yq (y_len (ev_t rfl) Try.underlying25 (fun w hw => ((ri_arg hprices) w hw).ln))) rfl rfl rfl ?_
    refine TL.op (yq (y_move ev_c)) rfl rfl rfl ?_
    refine TL.nil ?_
    refine TN.seq ?_
    refine TC.block ?_
    obtain ⟨c38, hc39⟩ : ∃ c, F_impl_PriceBound_L1 prices ((prices.length - 0) + 1) (0, 0) = c := ⟨_, rfl⟩
    rw [hc39] at hF
    refine TC.loop (ι := Nat × Int × Nat) (fun (fu1, k11_1, k41_1) => [(1, va), (2, vreqs), (3, vprices), (10, (.pointer (some ⟨r3_3.1, 0, none⟩))), (11, (.int .i64 k11_1)), (39, vprices), (40, (.int .i64 (prices.length : Int))), (41, (.int .i64 (k41_1 : Int)))]) (fun (fu1, k11_1, k41_1) => Hp w [.blk r3_3.1 93 [(.int .i64 ((F_impl_flowOf m a reqs).1)), r3_3.2.1], tabI 25 3 r3_3.2.1 r3_3.2.2 ((F_impl_flowOf m a reqs).2)]) (fun (fu1, k11_1, k41_1) => (k41_1 ≤ prices.length) ∧ (0 ≤ k11_1) ∧ (k11_1 ≤ 99999 * (k41_1 : Int)) ∧ prices.length - k41_1 < fu1 ∧ F_impl_PriceBound_L1 prices fu1 (k11_1, k41_1) = c38) (fun (fu1, k11_1, k41_1) => fu1) ((prices.length - 0) + 1, 0, 0) ⟨(by first | omega | (simp [-List.getD_eq_getElem?_getD] <;> omega)), (by first | omega | (simp [-List.getD_eq_getElem?_getD] <;> omega)), (by first | omega | (simp [-List.getD_eq_getElem?_getD] <;> omega)), (by omega), hc39⟩ ⟨rfl, rfl, rfl, rfl, rfl, rfl, rfl, rfl, trivial⟩ (fun w hw => Hp.sublist hw (.cons_cons _ (.cons_cons _ (.cons _ .slnil)))) ?_
    rintro ⟨fu1, k11_1, k41_1⟩ hJ1
    obtain ⟨hi1_0, hi1_1, hi1_2, hmu1, hL1⟩ : (k41_1 ≤ prices.length) ∧ (0 ≤ k11_1) ∧ (k11_1 ≤ 99999 * (k41_1 : Int)) ∧ prices.length - k41_1 < fu1 ∧ F_impl_PriceBound_L1 prices fu1 (k11_1, k41_1) = c38 := hJ1
    change TC _ _ _ _ (Hp w [.blk r3_3.1 93 [(.int .i64 ((F_impl_flowOf m a reqs).1)), r3_3.2.1], tabI 25 3 r3_3.2.1 r3_3.2.2 ((F_impl_flowOf m a reqs).2)]) [(1, va), (2, vreqs), (3, vprices), (10, (.pointer (some ⟨r3_3.1, 0, none⟩))), (11, (.int .i64 k11_1)), (39, vprices), (40, (.int .i64 (prices.length : Int))), (41, (.int .i64 (k41_1 : Int)))]
    obtain ⟨mf1, rfl⟩ : ∃ m, fu1 = m + 1 := ⟨fu1 - 1, by omega⟩
    rw [F_impl_PriceBound_L1_s] at hL1
    have hp1 := hpb k41_1
    refine TC.seq ?_
    refine TC.region ?_
    refine TL.op (yq (y_lss (ev_t rfl) (ev_t rfl))) rfl rfl rfl ?_
    refine TL.nil ?_
    refine TN.seq ?_
    refine TC.seq ?_
    refine TC.cond (b := decide ((k41_1 : Int) < (prices.length : Int))) (ev_t rfl) (fun h40 => ?_) (fun h40 => ?_)
    · rw [bif_pos h40] at hL1
      have q41 := (of_decide_eq_true h40)
      refine TC.skip ?_
      refine TN.seq ?_
      refine TC.seq ?_
      refine TC.block ?_
      refine TC.seq ?_
      refine TC.region ?_
      have hb42 : k41_1 < prices.length := (by first | omega | (simp only [List.length_set, List.length_append, List.length_cons, List.length_nil, List.length_replicate]; omega) | (rw [sortI_length]; simp only [List.length_cons, List.length_nil]; omega))
      refine TL.op (yq (y_idx (k := k41_1) (ev_t rfl) (ev_t rfl) (by first | omega | simp) slT_25 (ri_arg hprices) hb42)) rfl rfl rfl ?_
      refine TL.op (yq (y_ldi (ev_t rfl) one_3 (ri_arg hprices) hb42)) rfl rfl rfl ?_
      refine TL.op (yq (y_assign (ev_t rfl))) rfl rfl rfl ?_
      refine TL.nil ?_
      refine TN.seq ?_
      refine TC.region ?_
      refine TL.op (yq (y_move (ev_t rfl))) rfl rfl rfl ?_
      refine TL.op (yq (y_move (ev_t rfl))) rfl rfl rfl ?_
      refine TL.op (yq (y_add (ev_t rfl) (ev_t rfl) (by unfold In64; omega))) rfl rfl rfl ?_
      refine TL.op (yq (y_assign (ev_t rfl))) rfl rfl rfl ?_
      refine TL.nil ?_
      refine TN.blockN ?_
      refine TN.seq ?_
      refine TC.region ?_
      refine TL.op (yq (y_add (ev_t rfl) ev_c (by unfold In64; omega))) rfl rfl rfl ?_
      refine TL.op (yq (y_move (ev_t rfl))) rfl rfl rfl ?_
      refine TL.nil ?_
      exact TN.hand (mf1, k11_1 + (prices.getD k41_1 0), (k41_1 + 1)) ⟨(by first | omega | (simp [-List.getD_eq_getElem?_getD] <;> omega)), (by first | omega | (simp [-List.getD_eq_getElem?_getD] <;> omega)), (by first | omega | (simp [-List.getD_eq_getElem?_getD] <;> omega)), (by omega), hL1⟩ (Nat.lt_succ_self _) ⟨rfl, rfl, rfl, rfl, rfl, rfl, rfl, rfl, trivial⟩ (fun w hw => hw)
    · rw [bif_neg h40] at hL1
      have q41 := (of_decide_eq_false h40)
      refine TC.exit ?_
      refine TN.thenE ?_
      refine TN.thenE ?_
      rw [← hL1, elim_next] at hF
      try dsimp only at hF
      refine TN.blockH ?_
      refine TN.seq ?_
      refine TC.seq ?_
      refine TC.seq ?_
      refine TC.region ?_
      refine TL.op (yq (y_move (ev_t rfl))) rfl rfl rfl ?_
      refine TL.op (yq (y_len (ev_t rfl) Try.underlying25 (fun w hw => ((ri_arg ha) w hw).ln))) rfl rfl rfl ?_
      refine TL.op (yq (y_move (ev_t rfl))) rfl rfl rfl ?_
      refine TL.op (yq (y_len (ev_t rfl) Try.underlying25 (fun w hw => ((ri_arg hreqs) w hw).ln))) rfl rfl rfl ?_
      refine TL.op (yq (y_add (ev_t rfl) (ev_t rfl) (by unfold In64; omega))) rfl rfl rfl ?_
      refine TL.op (yq (y_move ev_c)) rfl rfl rfl ?_
      refine TL.nil ?_
      refine TN.seq ?_
      refine TC.block ?_
      obtain ⟨c43, hc44⟩ : ∃ c, F_impl_PriceBound_L2 m a reqs prices (((((a.length : Int) + (reqs.length : Int)).toNat) - 0) + 1) (k11_1, 0) = c := ⟨_, rfl⟩
      rw [hc44] at hF
      refine TC.loop (ι := Nat × Int × Nat) (fun (fu2, k11_2, k54_2) => [(3, vprices), (10, (.pointer (some ⟨r3_3.1, 0, none⟩))), (11, (.int .i64 k11_2)), (53, (.int .i64 ((a.length : Int) + (reqs.length : Int)))), (54, (.int .i64 (k54_2 : Int)))]) (fun (fu2, k11_2, k54_2) => Hp w [.blk r3_3.1 93 [(.int .i64 ((F_impl_flowOf m a reqs).1)), r3_3.2.1], tabI 25 3 r3_3.2.1 r3_3.2.2 ((F_impl_flowOf m a reqs).2)]) (fun (fu2, k11_2, k54_2) => (k54_2 ≤ (((a.length : Int) + (reqs.length : Int)).toNat)) ∧ (k11_2 ≤ 99999 * 60) ∧ (-99999 * (k54_2 : Int) ≤ k11_2) ∧ (((a.length : Int) + (reqs.length : Int)).toNat) - k54_2 < fu2 ∧ F_impl_PriceBound_L2 m a reqs prices fu2 (k11_2, k54_2) = c43) (fun (fu2, k11_2, k54_2) => fu2) (((((a.length : Int) + (reqs.length : Int)).toNat) - 0) + 1, k11_1, 0) ⟨(by first | omega | (simp [-List.getD_eq_getElem?_getD] <;> omega)), (by first | omega | (simp [-List.getD_eq_getElem?_getD] <;> omega)), (by first | omega | (simp [-List.getD_eq_getElem?_getD] <;> omega)), (by omega), hc44⟩ ⟨rfl, rfl, rfl, rfl, rfl, trivial⟩ (fun w hw => hw) ?_
      rintro ⟨fu2, k11_2, k54_2⟩ hJ2
      obtain ⟨hi2_0, hi2_1, hi2_2, hmu2, hL2⟩ : (k54_2 ≤ (((a.length : Int) + (reqs.length : Int)).toNat)) ∧ (k11_2 ≤ 99999 * 60) ∧ (-99999 * (k54_2 : Int) ≤ k11_2) ∧ (((a.length : Int) + (reqs.length : Int)).toNat) - k54_2 < fu2 ∧ F_impl_PriceBound_L2 m a reqs prices fu2 (k11_2, k54_2) = c43 := hJ2
      change TC _ _ _ _ (Hp w [.blk r3_3.1 93 [(.int .i64 ((F_impl_flowOf m a reqs).1)), r3_3.2.1], tabI 25 3 r3_3.2.1 r3_3.2.2 ((F_impl_flowOf m a reqs).2)]) [(3, vprices), (10, (.pointer (some ⟨r3_3.1, 0, none⟩))), (11, (.int .i64 k11_2)), (53, (.int .i64 ((a.length : Int) + (reqs.length : Int)))), (54, (.int .i64 (k54_2 : Int)))]
      obtain ⟨mf2, rfl⟩ : ∃ m, fu2 = m + 1 := ⟨fu2 - 1, by omega⟩
      rw [F_impl_PriceBound_L2_s] at hL2
      refine TC.seq ?_
      refine TC.region ?_
      refine TL.op (yq (y_lss (ev_t rfl) (ev_t rfl))) rfl rfl rfl ?_
      refine TL.nil ?_
      refine TN.seq ?_
      refine TC.seq ?_
      refine TC.cond (b := decide ((k54_2 : Int) < (a.length : Int) + (reqs.length : Int))) (ev_t rfl) (fun h45 => ?_) (fun h45 => ?_)
      · rw [bif_pos h45] at hL2
        have q46 := (of_decide_eq_true h45)
        refine TC.skip ?_
        refine TN.seq ?_
        refine TC.seq ?_
        refine TC.block ?_
        refine TC.seq ?_
        refine TC.region ?_
        refine TL.op (yq (y_move (ev_t rfl))) rfl rfl rfl ?_
        refine TL.op (yq (y_assign (ev_t rfl))) rfl rfl rfl ?_
        refine TL.nil ?_
        refine TN.seq ?_
        refine TC.seq ?_
        refine TC.region ?_
        refine TL.op (yq (y_assign ev_c)) rfl rfl rfl ?_
        refine TL.nil ?_
        refine TN.seq ?_
        refine TC.seq ?_
        refine TC.seq ?_
        refine TC.region ?_
        refine TL.op (yq (y_move (ev_t rfl))) rfl rfl rfl ?_
        refine TL.op (yq (y_nilp (ev_t rfl))) rfl rfl rfl ?_
        refine TL.op (yq (y_fa (fa_93_1 r3_3.1) (ev_t rfl))) rfl rfl rfl ?_
        refine TL.op (yq (y_ldb 0 (ev_t rfl) one_22 rfl rfl)) rfl rfl rfl ?_
        refine TL.op (yq (y_len (ev_t rfl) Try.underlying22 (fun w hw => ((fun w hw => ((rii_tab 1 rfl) w hw).1) w hw).ln))) rfl rfl rfl ?_
        refine TL.op (yq (y_move ev_c)) rfl rfl rfl ?_
        refine TL.nil ?_
        refine TN.seq ?_
        refine TC.block ?_
        obtain ⟨c47, hc48⟩ : ∃ c, F_impl_PriceBound_L3 m a reqs prices k54_2 ((((F_impl_flowOf m a reqs).2.length) - 0) + 1) (0, 0) = c := ⟨_, rfl⟩
        rw [hc48] at hL2
        refine TC.loop (ι := Nat × Int × Nat) (fun (fu3, k15_3, k62_3) => [(3, vprices), (10, (.pointer (some ⟨r3_3.1, 0, none⟩))), (11, (.int .i64 k11_2)), (14, (.int .i64 (k54_2 : Int))), (15, (.int .i64 k15_3)), (53, (.int .i64 ((a.length : Int) + (reqs.length : Int)))), (54, (.int .i64 (k54_2 : Int))), (60, r3_3.2.1), (61, (.int .i64 ((F_impl_flowOf m a reqs).2.length : Int))), (62, (.int .i64 (k62_3 : Int)))]) (fun (fu3, k15_3, k62_3) => Hp w [.blk r3_3.1 93 [(.int .i64 ((F_impl_flowOf m a reqs).1)), r3_3.2.1], tabI 25 3 r3_3.2.1 r3_3.2.2 ((F_impl_flowOf m a reqs).2)]) (fun (fu3, k15_3, k62_3) => (k62_3 ≤ ((F_impl_flowOf m a reqs).2.length)) ∧ (0 ≤ k15_3) ∧ (k15_3 ≤ 99999) ∧ ((F_impl_flowOf m a reqs).2.length) - k62_3 < fu3 ∧ F_impl_PriceBound_L3 m a reqs prices k54_2 fu3 (k15_3, k62_3) = c47) (fun (fu3, k15_3, k62_3) => fu3) ((((F_impl_flowOf m a reqs).2.length) - 0) + 1, 0, 0) ⟨(by first | omega | (simp [-List.getD_eq_getElem?_getD] <;> omega)), (by first | omega | (simp [-List.getD_eq_getElem?_getD] <;> omega)), (by first | omega | (simp [-List.getD_eq_getElem?_getD] <;> omega)), (by omega), hc48⟩ ⟨rfl, rfl, rfl, rfl, rfl, rfl, rfl, rfl, rfl, rfl, trivial⟩ (fun w hw => hw) ?_
        rintro ⟨fu3, k15_3, k62_3⟩ hJ3
        obtain ⟨hi3_0, hi3_1, hi3_2, hmu3, hL3⟩ : (k62_3 ≤ ((F_impl_flowOf m a reqs).2.length)) ∧ (0 ≤ k15_3) ∧ (k15_3 ≤ 99999) ∧ ((F_impl_flowOf m a reqs).2.length) - k62_3 < fu3 ∧ F_impl_PriceBound_L3 m a reqs prices k54_2 fu3 (k15_3, k62_3) = c47 := hJ3
        change TC _ _ _ _ (Hp w [.blk r3_3.1 93 [(.int .i64 ((F_impl_flowOf m a reqs).1)), r3_3.2.1], tabI 25 3 r3_3.2.1 r3_3.2.2 ((F_impl_flowOf m a reqs).2)]) [(3, vprices), (10, (.pointer (some ⟨r3_3.1, 0, none⟩))), (11, (.int .i64 k11_2)), (14, (.int .i64 (k54_2 : Int))), (15, (.int .i64 k15_3)), (53, (.int .i64 ((a.length : Int) + (reqs.length : Int)))), (54, (.int .i64 (k54_2 : Int))), (60, r3_3.2.1), (61, (.int .i64 ((F_impl_flowOf m a reqs).2.length : Int))), (62, (.int .i64 (k62_3 : Int)))]
        obtain ⟨mf3, rfl⟩ : ∃ m, fu3 = m + 1 := ⟨fu3 - 1, by omega⟩
        rw [F_impl_PriceBound_L3_s] at hL3
        have hp1 := hpb k62_3
        have hf2 := hfb.2.1 k62_3
        have hf3 := hfb.2.2 k62_3 k54_2
        refine TC.seq ?_
        refine TC.region ?_
        refine TL.op (yq (y_lss (ev_t rfl) (ev_t rfl))) rfl rfl rfl ?_
        refine TL.nil ?_
        refine TN.seq ?_
        refine TC.seq ?_
        refine TC.cond (b := decide ((k62_3 : Int) < ((F_impl_flowOf m a reqs).2.length : Int))) (ev_t rfl) (fun h49 => ?_) (fun h49 => ?_)
        · rw [bif_pos h49] at hL3
          have q50 := (of_decide_eq_true h49)
          refine TC.skip ?_
          refine TN.seq ?_
          refine TC.seq ?_
          refine TC.block ?_
          refine TC.seq ?_
          refine TC.region ?_
          refine TL.op (yq (y_move (ev_t rfl))) rfl rfl rfl ?_
          have hb51 : k62_3 < (F_impl_flowOf m a reqs).2.length := (by first | omega | (simp only [List.length_set, List.length_append, List.length_cons, List.length_nil, List.length_replicate]; omega) | (rw [sortI_length]; simp only [List.length_cons, List.length_nil]; omega))
          refine TL.op (yq (y_idx (k := k62_3) (ev_t rfl) (ev_t rfl) (by first | omega | simp) slT_22 (fun w hw => ((rii_tab 1 rfl) w hw).1) hb51)) rfl rfl rfl ?_
          refine TL.op (yq (y_ldT 1 (ev_t rfl) one_25 rfl hb51)) rfl rfl rfl ?_
          refine TL.op (yq (y_assign (ev_t rfl))) rfl rfl rfl ?_
          refine TL.op (yq (y_assign (ev_t rfl))) rfl rfl rfl ?_
          refine TL.nil ?_
          refine TN.seq ?_
          refine TC.regionQ (by kernel_rfl) (by kernel_rfl) dr_hp ?_
          refine TQ.op (yq (y_move (ev_t rfl))) rfl rfl rfl ?_
          refine TQ.op (yq (y_move (ev_t rfl))) rfl rfl rfl ?_
          refine TQ.op (yq (y_move (ev_t rfl))) rfl rfl rfl ?_
          have hb52 : k62_3 < prices.length := (by first | omega | (simp only [List.length_set, List.length_append, List.length_cons, List.length_nil, List.length_replicate]; omega) | (rw [sortI_length]; simp only [List.length_cons, List.length_nil]; omega))
          refine TQ.op (yq (y_idx (k := k62_3) (ev_t rfl) (ev_t rfl) (by first | omega | simp) slT_25 (ri_arg hprices) hb52)) rfl rfl rfl ?_
          refine TQ.op (yq (y_ldi (ev_t rfl) one_3 (ri_arg hprices) hb52)) rfl rfl rfl ?_
          refine TQ.op (yq (y_move (ev_t rfl))) rfl rfl rfl ?_
          refine TQ.op (yq (y_move (ev_t rfl))) rfl rfl rfl ?_
          have hb53 : k54_2 < ((F_impl_flowOf m a reqs).2.getD k62_3 []).length := (by first | omega | (simp only [List.length_set, List.length_append, List.length_cons, List.length_nil, List.length_replicate]; omega) | (rw [sortI_length]; simp only [List.length_cons, List.length_nil]; omega))
          refine TQ.op (yq (y_idx (k := k54_2) (ev_t rfl) (ev_t rfl) (by first | omega | simp) slT_25 (ri_tab 1 k62_3 rfl hb51) hb53)) rfl rfl rfl ?_
          refine TQ.op (yq (y_ldi (ev_t rfl) one_3 (ri_tab 1 k62_3 rfl hb51) hb53)) rfl rfl rfl ?_
          refine TQ.op (yq (y_sub (ev_t rfl) (ev_t rfl) (by unfold In64; omega))) rfl rfl rfl ?_
          refine TQ.op (yq (y_max (ev_t rfl) (ev_t rfl))) rfl rfl rfl ?_
          refine TQ.op (yq (y_assign (ev_t rfl))) rfl rfl rfl ?_
          refine TQ.nil ?_
          refine TN.blockN ?_
          refine TN.seq ?_
          refine TC.region ?_
          refine TL.op (yq (y_add (ev_t rfl) ev_c (by unfold In64; omega))) rfl rfl rfl ?_
          refine TL.op (yq (y_move (ev_t rfl))) rfl rfl rfl ?_
          refine TL.nil ?_
          exact TN.hand (mf3, max k15_3 ((prices.getD k62_3 0) - (((F_impl_flowOf m a reqs).2.getD k62_3 []).getD k54_2 0)), (k62_3 + 1)) ⟨(by first | omega | (simp [-List.getD_eq_getElem?_getD] <;> omega)), (by first | omega | (simp [-List.getD_eq_getElem?_getD] <;> omega)), (by first | omega | (simp [-List.getD_eq_getElem?_getD] <;> omega)), (by omega), hL3⟩ (Nat.lt_succ_self _) ⟨rfl, rfl, rfl, rfl, rfl, rfl, rfl, rfl, rfl, rfl, trivial⟩ (fun w hw => hw)
        · rw [bif_neg h49] at hL3
          have q50 := (of_decide_eq_false h49)
          refine TC.exit ?_
          refine TN.thenE ?_
          refine TN.thenE ?_
          rw [← hL3, elim_next] at hL2
          try dsimp only at hL2
          refine TN.blockH ?_
          refine TN.seq ?_
          refine TC.region ?_
          refine TL.op (yq (y_move (ev_t rfl))) rfl rfl rfl ?_
          refine TL.op (yq (y_move (ev_t rfl))) rfl rfl rfl ?_
          refine TL.op (yq (y_sub (ev_t rfl) (ev_t rfl) (by unfold In64; omega))) rfl rfl rfl ?_
          refine TL.op (yq (y_assign (ev_t rfl))) rfl rfl rfl ?_
          refine TL.nil ?_
          refine TN.blockN ?_
          refine TN.seq ?_
          refine TC.region ?_
          refine TL.op (yq (y_add (ev_t rfl) ev_c (by unfold In64; omega))) rfl rfl rfl ?_
          refine TL.op (yq (y_move (ev_t rfl))) rfl rfl rfl ?_
          refine TL.nil ?_
          exact TN.hand (mf2, k11_2 - k15_3, (k54_2 + 1)) ⟨(by first | omega | (simp [-List.getD_eq_getElem?_getD] <;> omega)), (by first | omega | (simp [-List.getD_eq_getElem?_getD] <;> omega)), (by first | omega | (simp [-List.getD_eq_getElem?_getD] <;> omega)), (by omega), hL2⟩ (Nat.lt_succ_self _) ⟨rfl, rfl, rfl, rfl, rfl, trivial⟩ (fun w hw => hw)
      · rw [bif_neg h45] at hL2
        have q46 := (of_decide_eq_false h45)
        refine TC.exit ?_
        refine TN.thenE ?_
        refine TN.thenE ?_
        rw [← hL2, elim_next] at hF
        try dsimp only at hF
        refine TN.blockH ?_
        refine TN.seq ?_
        refine TC.seq ?_
        refine TC.region ?_
        refine TL.op (yq (y_move (ev_t rfl))) rfl rfl rfl ?_
        refine TL.op (yq (y_assign (ev_t rfl))) rfl rfl rfl ?_
        refine TL.op (yq (y_assign ev_c)) rfl rfl rfl ?_
        refine TL.nil ?_
        refine TN.seq ?_
        refine TC.ret ?_
        subst hF
        exact TN.ret2 rfl (ev_t rfl) (ev_t rfl) (fun w' hw => ⟨rfl, Hp.sublist hw (List.nil_sublist _)⟩)

set_option maxRecDepth 4000 in
set_option maxHeartbeats 1000000 in
theorem spec_l7Point_ok (w : World) (va : Value) (a : List Int) (ha : RI w va a) (vreqs : Value) (reqs : List Int) (hreqs : RI w vreqs reqs) (l : Int) (hp0 : 0 ≤ l) (hp1 : l < a.length + reqs.length) (hp2 : a.length ≤ 3) (hp3 : reqs.length ≤ 60) :
    Calls Try.prog 136 ([va, vreqs, (.int .i64 l)] : List Value).toArray w (Ret (.int .i64 (F_spec_l7Point a reqs l)) (Hp w [])) := by
  obtain ⟨rz, hF⟩ : ∃ rz, (F_spec_l7Point a reqs l) = rz := ⟨_, rfl⟩
  rw [hF]
  unfold F_spec_l7Point at hF
  have hlen_a := arg_len ha
  have hlen_reqs := arg_len hreqs
  refine calls_tc Try.func136 rfl rfl rfl ?_
  change TC _ _ _ _ (Hp w []) [(0, va), (1, vreqs), (2, (.int .i64 l))]
  refine TC.seq ?_
  refine TC.region ?_
  refine TL.op (yq (y_assign ev_c)) rfl rfl rfl ?_
  refine TL.nil ?_
  refine TN.seq ?_
  refine TC.seq ?_
  refine TC.seq ?_
  refine TC.region ?_
  refine TL.op (yq (y_move (ev_t rfl))) rfl rfl rfl ?_
  refine TL.op (yq (y_move (ev_t rfl))) rfl rfl rfl ?_
  refine TL.op (yq (y_len (ev_t rfl) Try.underlying25 (fun w hw => ((ri_arg ha) w hw).ln))) rfl rfl rfl ?_
  refine TL.op (yq (y_lss (ev_t rfl) (ev_t rfl))) rfl rfl rfl ?_
  refine TL.nil ?_
  refine TN.seq ?_
  refine TC.cond (b := decide (l < (a.length : Int))) (ev_t rfl) (fun h5 => ?_) (fun h5 => ?_)
  · rw [bif_pos h5] at hF
    have q6 := (of_decide_eq_true h5)
    refine TC.seq ?_
    refine TC.region ?_
    refine TL.op (yq (y_move (ev_t rfl))) rfl rfl rfl ?_
    refine TL.op (yq (y_move (ev_t rfl))) rfl rfl rfl ?_
    have hb7 : (l).toNat < a.length := (by first | omega | (simp only [List.length_set, List.length_append, List.length_cons, List.length_nil, List.length_replicate]; omega) | (rw [sortI_length]; simp only [List.length_cons, List.length_nil]; omega))
    refine TL.op (yq (y_idx (k := (l).toNat) (ev_t rfl) (ev_t rfl) (by first | omega | simp) slT_25 (ri_arg ha) hb7)) rfl rfl rfl ?_
    refine TL.op (yq (y_ldi (ev_t rfl) one_3 (ri_arg ha) hb7)) rfl rfl rfl ?_
    refine TL.op (yq (y_assign (ev_t rfl))) rfl rfl rfl ?_
    refine TL.nil ?_
    refine TN.seq ?_
    refine TC.ret ?_
    refine TN.thenR ?_
    subst hF
    exact TN.ret1 rfl (ev_t rfl) (fun w' hw => ⟨rfl, hw⟩)
  · rw [bif_neg h5] at hF
    have q6 := (of_decide_eq_false h5)
    refine TC.skip ?_
    refine TN.seq ?_
    refine TC.seq ?_
    refine TC.region ?_
    refine TL.op (yq (y_move (ev_t rfl))) rfl rfl rfl ?_
    refine TL.op (yq (y_move (ev_t rfl))) rfl rfl rfl ?_
    refine TL.op (yq (y_move (ev_t rfl))) rfl rfl rfl ?_
    refine TL.op (yq (y_len (ev_t rfl) Try.underlying25 (fun w hw => ((ri_arg ha) w hw).ln))) rfl rfl rfl ?_
    refine TL.op (yq (y_sub (ev_t rfl) (ev_t rfl) (by unfold In64; omega))) rfl rfl rfl ?_
    have hb8 : (l - (a.length : Int)).toNat < reqs.length := (by first | omega | (simp only [List.length_set, List.length_append, List.length_cons, List.length_nil, List.length_replicate]; omega) | (rw [sortI_length]; simp only [List.length_cons, List.length_nil]; omega))
    refine TL.op (yq (y_idx (k := (l - (a.length : Int)).toNat) (ev_t rfl) (ev_t rfl) (by first | omega | simp) slT_25 (ri_arg hreqs) hb8)) rfl rfl rfl ?_
    refine TL.op (yq (y_ldi (ev_t rfl) one_3 (ri_arg hreqs) hb8)) rfl rfl rfl ?_
    refine TL.op (yq (y_assign (ev_t rfl))) rfl rfl rfl ?_
    refine TL.nil ?_
    refine TN.seq ?_
    refine TC.ret ?_
    subst hF
    exact TN.ret1 rfl (ev_t rfl) (fun w' hw => ⟨rfl, hw⟩)

set_option maxRecDepth 4000 in
set_option maxHeartbeats 1000000 in
theorem spec_l7Gap_ok (w : World) (vm : Value) (um : List Value) (m : List (List Int)) (hm : RII w vm um m) (va : Value) (a : List Int) (ha : RI w va a) (vreqs : Value) (reqs : List Int) (hreqs : RI w vreqs reqs) (l : Int) (i : Int) (hp0 : Sv m a reqs) (hp1 : 0 ≤ l) (hp2 : l < a.length + reqs.length) (hp3 : 0 ≤ i) (hp4 : i < reqs.length) :
    Calls Try.prog 122 ([(.agg #[vm]), va, vreqs, (.int .i64 l), (.int .i64 i)] : List Value).toArray w (Ret (.int .i64 (F_spec_l7Gap m a reqs l i)) (Hp w [])) := by
  obtain ⟨rz, hF⟩ : ∃ rz, (F_spec_l7Gap m a reqs l i) = rz := ⟨_, rfl⟩
  rw [hF]
  unfold F_spec_l7Gap at hF
  have hTab := hp0.tab
  have hn3 := hp0.cf.n3
  have hr60 := hp0.r60
  have hpt : F_spec_l7Point a reqs l = (a ++ reqs).getD l.toNat 0 := by have := point_app a reqs l.toNat; rwa [Int.toNat_of_nonneg hp1] at this
  have hpe := app_el hp0.cf.el hp0.el l.toNat (by omega)
  have hre := hp0.el i.toNat (by omega)
  have hrw := hTab.rows (F_spec_l7Point a reqs l).toNat
  have hlen_m := argT_len hm
  have hlen_a := arg_len ha
  have hlen_reqs := arg_len hreqs
  refine calls_tc Try.func122 rfl rfl rfl ?_
  change TC _ _ _ _ (Hp w []) [(0, (.agg #[vm])), (1, va), (2, vreqs), (3, (.int .i64 l)), (4, (.int .i64 i))]
  refine TC.seq ?_
  refine TC.region ?_
  refine TL.box (ev_t rfl) rfl (fun g0_0 => ?_)
  refine TL.op (yq (y_assign ev_c)) rfl rfl rfl ?_
  refine TL.nil ?_
  refine TN.seq ?_
  refine TC.seq ?_
  refine TC.regionQ (by kernel_rfl) (by kernel_rfl) dr_hp ?_
  refine TQ.op (yq (y_fa (fa_29_0 g0_0) (ev_t rfl))) rfl rfl rfl ?_
  refine TQ.op (yq (y_ldb 0 (ev_t rfl) one_22 rfl rfl)) rfl rfl rfl ?_
  refine TQ.op (yq (y_move (ev_t rfl))) rfl rfl rfl ?_
  refine TQ.op (yq (y_move (ev_t rfl))) rfl rfl rfl ?_
  refine TQ.op (yq (y_move (ev_t rfl))) rfl rfl rfl ?_
  refine TQ.op (y_call (vs := [va, vreqs, (.int .i64 l)]) (v := (.int .i64 (F_spec_l7Point a reqs l))) en_136 ⟨(ev_t rfl), (ev_t rfl), (ev_t rfl), trivial⟩ (fun w hw => spec_l7Point_ok w va a ((ri_arg ha) w hw) vreqs reqs ((ri_arg hreqs) w hw) l (by first | assumption | omega | grind) (by first | assumption | omega | grind) (by first | assumption | omega | grind) (by first | assumption | omega | grind))) rfl rfl rfl ?_
  have hb5 : ((F_spec_l7Point a reqs l)).toNat < m.length := (by first | omega | (simp only [List.length_set, List.length_append, List.length_cons, List.length_nil, List.length_replicate]; omega) | (rw [sortI_length]; simp only [List.length_cons, List.length_nil]; omega))
  refine TQ.op (yq (y_idx (k := ((F_spec_l7Point a reqs l)).toNat) (ev_t rfl) (ev_t rfl) (by first | omega | simp) slT_22 (fun w hw => ((rii_arg hm) w hw).1) hb5)) rfl rfl rfl ?_
  have ha6 := hm.row (i := ((F_spec_l7Point a reqs l)).toNat) hb5
  refine TQ.op (yq (y_ldA (ev_t rfl) one_25 (rii_arg hm) hb5)) rfl rfl rfl ?_
  refine TQ.op (yq (y_move (ev_t rfl))) rfl rfl rfl ?_
  refine TQ.op (yq (y_move (ev_t rfl))) rfl rfl rfl ?_
  have hb7 : (i).toNat < reqs.length := (by first | omega | (simp only [List.length_set, List.length_append, List.length_cons, List.length_nil, List.length_replicate]; omega) | (rw [sortI_length]; simp only [List.length_cons, List.length_nil]; omega))
  refine TQ.op (yq (y_idx (k := (i).toNat) (ev_t rfl) (ev_t rfl) (by first | omega | simp) slT_25 (ri_arg hreqs) hb7)) rfl rfl rfl ?_
  refine TQ.op (yq (y_ldi (ev_t rfl) one_3 (ri_arg hreqs) hb7)) rfl rfl rfl ?_
  have hb8 : ((reqs.getD ((i).toNat) 0)).toNat < (m.getD (((F_spec_l7Point a reqs l)).toNat) []).length := (by first | omega | (simp only [List.length_set, List.length_append, List.length_cons, List.length_nil, List.length_replicate]; omega) | (rw [sortI_length]; simp only [List.length_cons, List.length_nil]; omega))
  refine TQ.op (yq (y_idx (k := ((reqs.getD ((i).toNat) 0)).toNat) (ev_t rfl) (ev_t rfl) (by first | omega | simp) slT_25 (ri_arg ha6) hb8)) rfl rfl rfl ?_
  refine TQ.op (yq (y_ldi (ev_t rfl) one_3 (ri_arg ha6) hb8)) rfl rfl rfl ?_
  refine TQ.op (yq (y_assign (ev_t rfl))) rfl rfl rfl ?_
  refine TQ.nil ?_
  refine TN.seq ?_
  refine TC.ret ?_
  subst hF
  exact TN.ret1 rfl (ev_t rfl) (fun w' hw => ⟨rfl, Hp.sublist hw (List.nil_sublist _)⟩)

set_option maxRecDepth 4000 in
set_option maxHeartbeats 1000000 in
theorem spec_l7Rent_ok (w : World) (vm : Value) (um : List Value) (m : List (List Int)) (hm : RII w vm um m) (va : Value) (a : List Int) (ha : RI w va a) (vreqs : Value) (reqs : List Int) (hreqs : RI w vreqs reqs) (vprices : Value) (prices : List Int) (hprices : RI w vprices prices) (l : Int) (hp0 : Sv m a reqs) (hp1 : 0 ≤ l) (hp2 : l < a.length + reqs.length) (hp3 : prices.length = reqs.length) (hp4 : ∀ i, 0 ≤ prices.getD i 0 ∧ prices.getD i 0 ≤ 99999) :
    Calls Try.prog 94 ([(.agg #[vm]), va, vreqs, vprices, (.int .i64 l)] : List Value).toArray w (Ret (.int .i64 (F_spec_l7Rent m a reqs prices l)) (Hp w [])) := by
  obtain ⟨rz, hF⟩ : ∃ rz, (F_spec_l7Rent m a reqs prices l) = rz := ⟨_, rfl⟩
  rw [hF]
  unfold F_spec_l7Rent at hF
  have hr60 := hp0.r60
  have hn3 := hp0.cf.n3
  have hmo := l1Most_eq 0 (l - (a.length : Int) + 1)
  have hlen_m := argT_len hm
  have hlen_a := arg_len ha
  have hlen_reqs := arg_len hreqs
  have hlen_prices := arg_len hprices
  refine calls_tc Try.func94 rfl rfl rfl ?_
  change TC _ _ _ _ (Hp w []) [(0, (.agg #[vm])), (1, va), (2, vreqs), (3, vprices), (4, (.int .i64 l))]
  refine TC.seq ?_
  refine TC.region ?_
  refine TL.box (ev_t rfl) rfl (fun g0_0 => ?_)
  refine TL.op (yq (y_assign ev_c)) rfl rfl rfl ?_
  refine TL.nil ?_
  refine TN.seq ?_
  refine TC.seq ?_
  refine TC.region ?_
  refine TL.op (yq (y_assign ev_c)) rfl rfl rfl ?_
  refine TL.nil ?_
  refine TN.seq ?_
  refine TC.seq ?_
  refine TC.seq ?_
  refine TC.region ?_
  refine TL.op (yq (y_move (ev_t rfl))) rfl rfl rfl ?_
  refine TL.op (yq (y_move (ev_t rfl))) rfl rfl rfl ?_
  refine TL.op (yq (y_len (ev_t rfl) Try.underlying25 (fun w hw => ((ri_arg ha) w hw).ln))) rfl rfl rfl ?_
  refine TL.op (yq (y_sub (ev_t rfl) (ev_t rfl) (by unfold In64; omega))) rfl rfl rfl ?_
  refine TL.op (yq (y_add (ev_t rfl) ev_c (by unfold In64; omega))) rfl rfl rfl ?_
  refine TL.op (y_call (vs := [(.int .i64 0), (.int .i64 ((l - (a.length : Int)) + 1))]) (v := (.int .i64 (F_spec_l1Most 0 ((l - (a.length : Int)) + 1)))) en_97 ⟨ev_c, (ev_t rfl), trivial⟩ (fun w hw => spec_l1Most_ok w 0 ((l - (a.length : Int)) + 1))) rfl rfl rfl ?_
  refine TL.op (yq (y_assign (ev_t rfl))) rfl rfl rfl ?_
  refine TL.nil ?_
  refine TN.seq ?_
  refine TC.block ?_
  obtain ⟨c10, hc11⟩ : ∃ c, F_spec_l7Rent_L1 m a reqs prices l ((((reqs.length : Int) - (F_spec_l1Most 0 ((l - (a.length : Int)) + 1))).toNat) + 1) (0, (F_spec_l1Most 0 ((l - (a.length : Int)) + 1))) = c := ⟨_, rfl⟩
  rw [hc11] at hF
  refine TC.loop (ι := Nat × Int × Int) (fun (fu1, rent1, i1) => [(1, va), (2, vreqs), (3, vprices), (4, (.int .i64 l)), (5, (.pointer (some ⟨g0_0, 0, none⟩))), (11, (.int .i64 rent1)), (12, (.int .i64 i1))]) (fun (fu1, rent1, i1) => Hp w [.blk g0_0 29 [vm]]) (fun (fu1, rent1, i1) => (0 ≤ rent1) ∧ (rent1 ≤ 99999) ∧ (0 ≤ i1) ∧ ((reqs.length : Int) - i1).toNat < fu1 ∧ F_spec_l7Rent_L1 m a reqs prices l fu1 (rent1, i1) = c10) (fun (fu1, rent1, i1) => fu1) ((((reqs.length : Int) - (F_spec_l1Most 0 ((l - (a.length : Int)) + 1))).toNat) + 1, 0, (F_spec_l1Most 0 ((l - (a.length : Int)) + 1))) ⟨(by first | omega | (simp [-List.getD_eq_getElem?_getD] <;> omega)), (by first | omega | (simp [-List.getD_eq_getElem?_getD] <;> omega)), (by first | omega | (simp [-List.getD_eq_getElem?_getD] <;> omega)), (by omega), hc11⟩ ⟨rfl, rfl, rfl, rfl, rfl, rfl, rfl, trivial⟩ (fun w hw => hw) ?_
  rintro ⟨fu1, rent1, i1⟩ hJ1
  obtain ⟨hi1_0, hi1_1, hi1_2, hmu1, hL1⟩ : (0 ≤ rent1) ∧ (rent1 ≤ 99999) ∧ (0 ≤ i1) ∧ ((reqs.length : Int) - i1).toNat < fu1 ∧ F_spec_l7Rent_L1 m a reqs prices l fu1 (rent1, i1) = c10 := hJ1
  change TC _ _ _ _ (Hp w [.blk g0_0 29 [vm]]) [(1, va), (2, vreqs), (3, vprices), (4, (.int .i64 l)), (5, (.pointer (some ⟨g0_0, 0, none⟩))), (11, (.int .i64 rent1)), (12, (.int .i64 i1))]
  obtain ⟨mf1, rfl⟩ : ∃ m, fu1 = m + 1 := ⟨fu1 - 1, by omega⟩
  rw [F_spec_l7Rent_L1_s] at hL1
  have hpi := hp4 i1.toNat
  have hge := gap_bd hp0 (l := l) (i := i1) hp1 (by omega)
  have hmm := l1Most_eq rent1 (prices.getD i1.toNat 0 - F_spec_l7Gap m a reqs l i1)
  refine TC.seq ?_
  refine TC.seq ?_
  refine TC.region ?_
  refine TL.op (yq (y_move (ev_t rfl))) rfl rfl rfl ?_
  refine TL.op (yq (y_move (ev_t rfl))) rfl rfl rfl ?_
  refine TL.op (yq (y_len (ev_t rfl) Try.underlying25 (fun w hw => ((ri_arg hreqs) w hw).ln))) rfl rfl rfl ?_
  refine TL.op (yq (y_lss (ev_t rfl) (ev_t rfl))) rfl rfl rfl ?_
  refine TL.nil ?_
  refine TN.seq ?_
  refine TC.cond (b := decide (i1 < (reqs.length : Int))) (ev_t rfl) (fun h12 => ?_) (fun h12 => ?_)
  · rw [bif_pos h12] at hL1
    have q13 := (of_decide_eq_true h12)
    refine TC.skip ?_
    refine TN.seq ?_
    refine TC.seq ?_
    refine TC.block ?_
    refine TC.regionQ (by kernel_rfl) (by kernel_rfl) dr_hp ?_
    refine TQ.op (yq (y_move (ev_t rfl))) rfl rfl rfl ?_
    refine TQ.op (yq (y_move (ev_t rfl))) rfl rfl rfl ?_
    refine TQ.op (yq (y_move (ev_t rfl))) rfl rfl rfl ?_
    have hb14 : (i1).toNat < prices.length := (by first | omega | (simp only [List.length_set, List.length_append, List.length_cons, List.length_nil, List.length_replicate]; omega) | (rw [sortI_length]; simp only [List.length_cons, List.length_nil]; omega))
    refine TQ.op (yq (y_idx (k := (i1).toNat) (ev_t rfl) (ev_t rfl) (by first | omega | simp) slT_25 (ri_arg hprices) hb14)) rfl rfl rfl ?_
    refine TQ.op (yq (y_ldi (ev_t rfl) one_3 (ri_arg hprices) hb14)) rfl rfl rfl ?_
    refine TQ.op (yq (y_ldagg (cs := [vm]) 0 (ev_t rfl) agg_29 rfl)) rfl rfl rfl ?_
    refine TQ.op (yq (y_move (ev_t rfl))) rfl rfl rfl ?_
    refine TQ.op (yq (y_move (ev_t rfl))) rfl rfl rfl ?_
    refine TQ.op (yq (y_move (ev_t rfl))) rfl rfl rfl ?_
    refine TQ.op (yq (y_move (ev_t rfl))) rfl rfl rfl ?_
    refine TQ.op (y_call (vs := [(.agg #[vm]), va, vreqs, (.int .i64 l), (.int .i64 i1)]) (v := (.int .i64 (F_spec_l7Gap m a reqs l i1))) en_122 ⟨(ev_t rfl), (ev_t rfl), (ev_t rfl), (ev_t rfl), (ev_t rfl), trivial⟩ (fun w hw => spec_l7Gap_ok w vm um m ((rii_arg hm) w hw) va a ((ri_arg ha) w hw) vreqs reqs ((ri_arg hreqs) w hw) l i1 (by first | assumption | omega | grind) (by first | assumption | omega | grind) (by first | assumption | omega | grind) (by first | assumption | omega | grind) (by first | assumption | omega | grind))) rfl rfl rfl ?_
    refine TQ.op (yq (y_sub (ev_t rfl) (ev_t rfl) (by unfold In64; omega))) rfl rfl rfl ?_
    refine TQ.op (y_call (vs := [(.int .i64 rent1), (.int .i64 ((prices.getD ((i1).toNat) 0) - (F_spec_l7Gap m a reqs l i1)))]) (v := (.int .i64 (F_spec_l1Most rent1 ((prices.getD ((i1).toNat) 0) - (F_spec_l7Gap m a reqs l i1))))) en_97 ⟨(ev_t rfl), (ev_t rfl), trivial⟩ (fun w hw => spec_l1Most_ok w rent1 ((prices.getD ((i1).toNat) 0) - (F_spec_l7Gap m a reqs l i1)))) rfl rfl rfl ?_
    refine TQ.op (yq (y_assign (ev_t rfl))) rfl rfl rfl ?_
    refine TQ.nil ?_
    refine TN.blockN ?_
    refine TN.seq ?_
    refine TC.region ?_
    refine TL.op (yq (y_move (ev_t rfl))) rfl rfl rfl ?_
    refine TL.op (yq (y_add (ev_t rfl) ev_c (by unfold In64; omega))) rfl rfl rfl ?_
    refine TL.op (yq (y_assign (ev_t rfl))) rfl rfl rfl ?_
    refine TL.nil ?_
    exact TN.hand (mf1, (F_spec_l1Most rent1 ((prices.getD ((i1).toNat) 0) - (F_spec_l7Gap m a reqs l i1))), i1 + 1) ⟨(by first | omega | (simp [-List.getD_eq_getElem?_getD] <;> omega)), (by first | omega | (simp [-List.getD_eq_getElem?_getD] <;> omega)), (by first | omega | (simp [-List.getD_eq_getElem?_getD] <;> omega)), (by omega), hL1⟩ (Nat.lt_succ_self _) ⟨rfl, rfl, rfl, rfl, rfl, rfl, rfl, trivial⟩ (fun w hw => hw)
  · rw [bif_neg h12] at hL1
    have q13 := (of_decide_eq_false h12)
    refine TC.exit ?_
    refine TN.thenE ?_
    refine TN.thenE ?_
    rw [← hL1, elim_next] at hF
    try dsimp only at hF
    refine TN.blockH ?_
    refine TN.seq ?_
    refine TC.seq ?_
    refine TC.region ?_
    refine TL.op (yq (y_move (ev_t rfl))) rfl rfl rfl ?_
    refine TL.op (yq (y_assign (ev_t rfl))) rfl rfl rfl ?_
    refine TL.nil ?_
    refine TN.seq ?_
    refine TC.ret ?_
    subst hF
    exact TN.ret1 rfl (ev_t rfl) (fun w' hw => ⟨rfl, Hp.sublist hw (List.nil_sublist _)⟩)

set_option maxRecDepth 4000 in
set_option maxHeartbeats 1000000 in
theorem spec_l7Prices_ok (w : World) (vreqs : Value) (reqs : List Int) (hreqs : RI w vreqs reqs) (vprices : Value) (prices : List Int) (hprices : RI w vprices prices)  :
    Calls Try.prog 93 ([vreqs, vprices] : List Value).toArray w (Ret (.bool (F_spec_l7Prices reqs prices)) (Hp w [])) := by
  obtain ⟨rz, hF⟩ : ∃ rz, (F_spec_l7Prices reqs prices) = rz := ⟨_, rfl⟩
  rw [hF]
  unfold F_spec_l7Prices at hF
  have hlen_reqs := arg_len hreqs
  have hlen_prices := arg_len hprices
  refine calls_tc Try.func93 rfl rfl rfl ?_
  change TC _ _ _ _ (Hp w []) [(0, vreqs), (1, vprices)]
  refine TC.seq ?_
  refine TC.region ?_
  refine TL.op (yq (y_assign ev_c)) rfl rfl rfl ?_
  refine TL.nil ?_
  refine TN.seq ?_
  refine TC.seq ?_
  refine TC.seq ?_
  refine TC.region ?_
  refine TL.op (yq (y_assign ev_c)) rfl rfl rfl ?_
  refine TL.nil ?_
  refine TN.seq ?_
  refine TC.block ?_
  obtain ⟨c11, hc12⟩ : ∃ c, F_spec_l7Prices_L1 prices ((prices.length - 0) + 1) 0 = c := ⟨_, rfl⟩
  rw [hc12] at hF
  refine TC.loop (ι := Nat × Nat) (fun (fu1, i1) => [(0, vreqs), (1, vprices), (5, (.int .i64 (i1 : Int)))]) (fun (fu1, i1) => Hp w []) (fun (fu1, i1) => (i1 ≤ prices.length) ∧ prices.length - i1 < fu1 ∧ F_spec_l7Prices_L1 prices fu1 i1 = c11) (fun (fu1, i1) => fu1) ((prices.length - 0) + 1, 0) ⟨(by first | omega | (simp [-List.getD_eq_getElem?_getD] <;> omega)), (by omega), hc12⟩ ⟨rfl, rfl, rfl, trivial⟩ (fun w hw => hw) ?_
  rintro ⟨fu1, i1⟩ hJ1
  obtain ⟨hi1_0, hmu1, hL1⟩ : (i1 ≤ prices.length) ∧ prices.length - i1 < fu1 ∧ F_spec_l7Prices_L1 prices fu1 i1 = c11 := hJ1
  change TC _ _ _ _ (Hp w []) [(0, vreqs), (1, vprices), (5, (.int .i64 (i1 : Int)))]
  obtain ⟨mf1, rfl⟩ : ∃ m, fu1 = m + 1 := ⟨fu1 - 1, by omega⟩
  rw [F_spec_l7Prices_L1_s] at hL1
  refine TC.seq ?_
  refine TC.seq ?_
  refine TC.region ?_
  refine TL.op (yq (y_move (ev_t rfl))) rfl rfl rfl ?_
  refine TL.op (yq (y_move (ev_t rfl))) rfl rfl rfl ?_
  refine TL.op (yq (y_len (ev_t rfl) Try.underlying25 (fun w hw => ((ri_arg hprices) w hw).ln))) rfl rfl rfl ?_
  refine TL.op (yq (y_lss (ev_t rfl) (ev_t rfl))) rfl rfl rfl ?_
  refine TL.nil ?_
  refine TN.seq ?_
  refine TC.cond (b := decide ((i1 : Int) < (prices.length : Int))) (ev_t rfl) (fun h13 => ?_) (fun h13 => ?_)
  · rw [bif_pos h13] at hL1
    have q14 := (of_decide_eq_true h13)
    refine TC.skip ?_
    refine TN.seq ?_
    refine TC.seq ?_
    refine TC.block ?_
    refine TC.seq ?_
    refine TC.region ?_
    refine TL.op (yq (y_move (ev_t rfl))) rfl rfl rfl ?_
    refine TL.op (yq (y_move (ev_t rfl))) rfl rfl rfl ?_
    have hb15 : i1 < prices.length := (by first | omega | (simp only [List.length_set, List.length_append, List.length_cons, List.length_nil, List.length_replicate]; omega) | (rw [sortI_length]; simp only [List.length_cons, List.length_nil]; omega))
    refine TL.op (yq (y_idx (k := i1) (ev_t rfl) (ev_t rfl) (by first | omega | simp) slT_25 (ri_arg hprices) hb15)) rfl rfl rfl ?_
    refine TL.op (yq (y_ldi (ev_t rfl) one_3 (ri_arg hprices) hb15)) rfl rfl rfl ?_
    refine TL.op (y_call (vs := [(.int .i64 (prices.getD i1 0)), (.int .i64 0), (.int .i64 99999)]) (v := (.bool ((decide (0 ≤ (prices.getD i1 0))) && (decide ((prices.getD i1 0) ≤ 99999))))) en_96 ⟨(ev_t rfl), ev_c, ev_c, trivial⟩ (fun w hw => spec_l1In_ok w (prices.getD i1 0) 0 99999)) rfl rfl rfl ?_
    refine TL.op (yq (y_not (ev_t rfl))) rfl rfl rfl ?_
    refine TL.nil ?_
    refine TN.seq ?_
    refine TC.cond (b := !((decide (0 ≤ (prices.getD i1 0))) && (decide ((prices.getD i1 0) ≤ 99999)))) (ev_t rfl) (fun h16 => ?_) (fun h16 => ?_)
    · rw [bif_pos h16] at hL1
      have q17 := ((and_f (not_t h16)).imp (fun h => (of_decide_eq_false h)) (fun h => (of_decide_eq_false h)))
      refine TC.seq ?_
      refine TC.region ?_
      refine TL.op (yq (y_assign ev_c)) rfl rfl rfl ?_
      refine TL.nil ?_
      refine TN.seq ?_
      refine TC.ret ?_
      refine TN.blockR ?_
      refine TN.thenR ?_
      refine TN.thenR ?_
      rw [← hL1, elim_ret] at hF
      refine TN.blockR ?_
      refine TN.thenR ?_
      subst hF
      exact TN.ret1 rfl (ev_t rfl) (fun w' hw => ⟨rfl, hw⟩)
    · rw [bif_neg h16] at hL1
      have q17 := (and_imp (and_t (not_f h16)) (fun h => (of_decide_eq_true h)) (fun h => (of_decide_eq_true h)))
      refine TC.skip ?_
      refine TN.blockN ?_
      refine TN.seq ?_
      refine TC.region ?_
      refine TL.op (yq (y_move (ev_t rfl))) rfl rfl rfl ?_
      refine TL.op (yq (y_add (ev_t rfl) ev_c (by unfold In64; omega))) rfl rfl rfl ?_
      refine TL.op (yq (y_assign (ev_t rfl))) rfl rfl rfl ?_
      refine TL.nil ?_
      exact TN.hand (mf1, (i1 + 1)) ⟨(by first | omega | (simp [-List.getD_eq_getElem?_getD] <;> omega)), (by omega), hL1⟩ (Nat.lt_succ_self _) ⟨rfl, rfl, rfl, trivial⟩ (fun w hw => hw)
  · rw [bif_neg h13] at hL1
    have q14 := (of_decide_eq_false h13)
    refine TC.exit ?_
    refine TN.thenE ?_
    refine TN.thenE ?_
    rw [← hL1, elim_next] at hF
    try dsimp only at hF
    refine TN.blockH ?_
    refine TN.seq ?_
    refine TC.seq ?_
    refine TC.region ?_
    refine TL.op (yq (y_move (ev_t rfl))) rfl rfl rfl ?_
    refine TL.op (yq (y_len (ev_t rfl) Try.underlying25 (fun w hw => ((ri_arg hprices) w hw).ln))) rfl rfl rfl ?_
    refine TL.op (yq (y_move (ev_t rfl))) rfl rfl rfl ?_
    refine TL.op (yq (y_len (ev_t rfl) Try.underlying25 (fun w hw => ((ri_arg hreqs) w hw).ln))) rfl rfl rfl ?_
    refine TL.op (yq (y_eql (ev_t rfl) (ev_t rfl))) rfl rfl rfl ?_
    refine TL.op (yq (y_assign (ev_t rfl))) rfl rfl rfl ?_
    refine TL.nil ?_
    refine TN.seq ?_
    refine TC.ret ?_
    subst hF
    exact TN.ret1 rfl (ev_t rfl) (fun w' hw => ⟨rfl, hw⟩)

end Go.Proofs.Ytilmadapmcnlgaa
