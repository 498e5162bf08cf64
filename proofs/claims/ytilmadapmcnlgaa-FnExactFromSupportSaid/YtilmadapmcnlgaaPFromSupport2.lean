/-
  Walks of the functions that a law reaches: each computes its plain function. No condition but the bounds that are typed.
-/
import Derived.Test.YtilmadapmcnlgaaPFromSupport1
namespace Go.Proofs.Ytilmadapmcnlgaa
open Go Go.RowKit

set_option maxRecDepth 4000 in
set_option maxHeartbeats 1000000 in
theorem impl_Metric_matched_ok (w : World) (vm : Value) (um : List Value) (m : List (List Int)) (hm : RII w vm um m) (va : Value) (a : List Int) (ha : RI w va a) (vb : Value) (b : List Int) (hb : RI w vb b) (hp0 : Tab m) (hp1 : Cf m.length a) (hp2 : Cf m.length b) (hp3 : a.length = b.length) :
    Calls Try.prog 124 ([(.agg #[vm]), va, vb] : List Value).toArray w (fun e w' => ∃ i : Value, e = .returned (.tuple #[i, (.int .i64 ((F_impl_Metric_matched m a b).2))]) ∧ Hp w [rowI 3 i ((F_impl_Metric_matched m a b).1)] w') := by
  obtain ⟨rz, hF⟩ : ∃ rz, (F_impl_Metric_matched m a b) = rz := ⟨_, rfl⟩
  rw [hF]
  unfold F_impl_Metric_matched at hF
  have hn3 := hp1.n3
  have hor := orders_row a.length hp1.n1 hp1.n3
  have hlen_m := argT_len hm
  have hlen_a := arg_len ha
  have hlen_b := arg_len hb
  refine calls_tc Try.func124 rfl rfl rfl ?_
  change TC _ _ _ _ (Hp w []) [(0, (.agg #[vm])), (1, va), (2, vb)]
  refine TC.seq ?_
  refine TC.region ?_
  refine TL.box (ev_t rfl) rfl (fun g0_0 => ?_)
  refine TL.op (yq (y_assign ev_c)) rfl rfl rfl ?_
  refine TL.op (yq (y_assign ev_c)) rfl rfl rfl ?_
  refine TL.nil ?_
  refine TN.seq ?_
  refine TC.seq ?_
  refine TC.region ?_
  refine TL.op (yq (y_assign ev_c)) rfl rfl rfl ?_
  refine TL.nil ?_
  refine TN.seq ?_
  refine TC.seq ?_
  refine TC.region ?_
  refine TL.op (yq (y_assign ev_c)) rfl rfl rfl ?_
  refine TL.nil ?_
  refine TN.seq ?_
  refine TC.seq ?_
  refine TC.seq ?_
  refine TC.region ?_
  refine TL.op (yq (y_move (ev_t rfl))) rfl rfl rfl ?_
  refine TL.op (yq (y_len (ev_t rfl) Try.underlying25 (fun w hw => ((ri_arg ha) w hw).ln))) rfl rfl rfl ?_
  refine TL.callr (ι := Value × List Value) (vs := [(.int .i64 (a.length : Int))]) (fun i => i.1) (fun i => [tabI 25 3 i.1 i.2 (F_impl_orders (a.length : Int))]) en_138 ⟨(ev_t rfl), trivial⟩ rfl (fun w hw => impl_orders_ok w (a.length : Int) (by first | assumption | omega | grind)) (fun r3_2 => ?_)
  refine TL.op (yq (y_len (ev_t rfl) Try.underlying22 (fun w hw => ((fun w hw => ((rii_tab 0 rfl) w hw).1) w hw).ln))) rfl rfl rfl ?_
  refine TL.op (yq (y_move ev_c)) rfl rfl rfl ?_
  refine TL.nil ?_
  refine TN.seq ?_
  refine TC.block ?_
  obtain ⟨c56, hc57⟩ : ∃ c, F_impl_Metric_matched_L1 m a b ((((F_impl_orders (a.length : Int)).length) - 0) + 1) (([]), 1073741824, 0) = c := ⟨_, rfl⟩
  rw [hc57] at hF
  refine TC.loop (ι := Nat × List Int × Int × Nat × Value) (fun (fu1, best1, least1, k19_1, vbest1) => [(1, va), (2, vb), (3, (.pointer (some ⟨g0_0, 0, none⟩))), (8, vbest1), (9, (.int .i64 least1)), (17, r3_2.1), (18, (.int .i64 ((F_impl_orders (a.length : Int)).length : Int))), (19, (.int .i64 (k19_1 : Int)))]) (fun (fu1, best1, least1, k19_1, vbest1) => Hp w [tabI 25 3 r3_2.1 r3_2.2 (F_impl_orders (a.length : Int)), .blk g0_0 29 [vm]]) (fun (fu1, best1, least1, k19_1, vbest1) => (k19_1 ≤ ((F_impl_orders (a.length : Int)).length)) ∧ (∀ w', Hp w [tabI 25 3 r3_2.1 r3_2.2 (F_impl_orders (a.length : Int))] w' → Hp w [rowI 3 vbest1 best1] w') ∧ ((F_impl_orders (a.length : Int)).length) - k19_1 < fu1 ∧ F_impl_Metric_matched_L1 m a b fu1 (best1, least1, k19_1) = c56) (fun (fu1, best1, least1, k19_1, vbest1) => fu1) ((((F_impl_orders (a.length : Int)).length) - 0) + 1, [], 1073741824, 0, (.slice none 0 0)) ⟨(by first | omega | (simp [-List.getD_eq_getElem?_getD] <;> omega)), (fun w hw => (Hp.sublist hw (List.nil_sublist _)).nil _ _), (by omega), hc57⟩ ⟨rfl, rfl, rfl, rfl, rfl, rfl, rfl, rfl, trivial⟩ (fun w hw => hw) ?_
  rintro ⟨fu1, best1, least1, k19_1, vbest1⟩ hJ1
  obtain ⟨hi1_0, hrbest1, hmu1, hL1⟩ : (k19_1 ≤ ((F_impl_orders (a.length : Int)).length)) ∧ (∀ w', Hp w [tabI 25 3 r3_2.1 r3_2.2 (F_impl_orders (a.length : Int))] w' → Hp w [rowI 3 vbest1 best1] w') ∧ ((F_impl_orders (a.length : Int)).length) - k19_1 < fu1 ∧ F_impl_Metric_matched_L1 m a b fu1 (best1, least1, k19_1) = c56 := hJ1
  change TC _ _ _ _ (Hp w [tabI 25 3 r3_2.1 r3_2.2 (F_impl_orders (a.length : Int)), .blk g0_0 29 [vm]]) [(1, va), (2, vb), (3, (.pointer (some ⟨g0_0, 0, none⟩))), (8, vbest1), (9, (.int .i64 least1)), (17, r3_2.1), (18, (.int .i64 ((F_impl_orders (a.length : Int)).length : Int))), (19, (.int .i64 (k19_1 : Int)))]
  obtain ⟨mf1, rfl⟩ : ∃ m, fu1 = m + 1 := ⟨fu1 - 1, by omega⟩
  rw [F_impl_Metric_matched_L1_s] at hL1
  have hoj := hor.2.2 k19_1
  refine TC.seq ?_
  refine TC.region ?_
  refine TL.op (yq (y_lss (ev_t rfl) (ev_t rfl))) rfl rfl rfl ?_
  refine TL.nil ?_
  refine TN.seq ?_
  refine TC.seq ?_
  refine TC.cond (b := decide ((k19_1 : Int) < ((F_impl_orders (a.length : Int)).length : Int))) (ev_t rfl) (fun h58 => ?_) (fun h58 => ?_)
  · rw [bif_pos h58] at hL1
    have q59 := (of_decide_eq_true h58)
    refine TC.skip ?_
    refine TN.seq ?_
    refine TC.seq ?_
    refine TC.block ?_
    refine TC.seq ?_
    refine TC.region ?_
    have hb60 : k19_1 < (F_impl_orders (a.length : Int)).length := (by first | omega | (simp only [List.length_set, List.length_append, List.length_cons, List.length_nil, List.length_replicate]; omega) | (rw [sortI_length]; simp only [List.length_cons, List.length_nil]; omega))
    refine TL.op (yq (y_idx (k := k19_1) (ev_t rfl) (ev_t rfl) (by first | omega | simp) slT_22 (fun w hw => ((rii_tab 0 rfl) w hw).1) hb60)) rfl rfl rfl ?_
    refine TL.op (yq (y_ldT 0 (ev_t rfl) one_25 rfl hb60)) rfl rfl rfl ?_
    refine TL.op (yq (y_assign (ev_t rfl))) rfl rfl rfl ?_
    refine TL.nil ?_
    refine TN.seq ?_
    refine TC.seq ?_
    refine TC.region ?_
    refine TL.op (yq (y_assign ev_c)) rfl rfl rfl ?_
    refine TL.nil ?_
    refine TN.seq ?_
    refine TC.seq ?_
    refine TC.seq ?_
    refine TC.region ?_
    refine TL.op (yq (y_move (ev_t rfl))) rfl rfl rfl ?_
    refine TL.op (yq (y_len (ev_t rfl) Try.underlying25 (fun w hw => ((ri_tab 0 k19_1 rfl hb60) w hw).ln))) rfl rfl rfl ?_
    refine TL.op (yq (y_move ev_c)) rfl rfl rfl ?_
    refine TL.nil ?_
    refine TN.seq ?_
    refine TC.block ?_
    obtain ⟨c61, hc62⟩ : ∃ c, F_impl_Metric_matched_L2 m a b k19_1 (((((F_impl_orders (a.length : Int)).getD k19_1 []).length) - 0) + 1) (0, 0) = c := ⟨_, rfl⟩
    rw [hc62] at hL1
    refine TC.loop (ι := Nat × Int × Nat) (fun (fu2, cost2, k25_2) => [(1, va), (2, vb), (3, (.pointer (some ⟨g0_0, 0, none⟩))), (8, vbest1), (9, (.int .i64 least1)), (11, (r3_2.2.getD k19_1 undef)), (12, (.int .i64 cost2)), (17, r3_2.1), (18, (.int .i64 ((F_impl_orders (a.length : Int)).length : Int))), (19, (.int .i64 (k19_1 : Int))), (23, (r3_2.2.getD k19_1 undef)), (24, (.int .i64 (((F_impl_orders (a.length : Int)).getD k19_1 []).length : Int))), (25, (.int .i64 (k25_2 : Int)))]) (fun (fu2, cost2, k25_2) => Hp w [tabI 25 3 r3_2.1 r3_2.2 (F_impl_orders (a.length : Int)), .blk g0_0 29 [vm]]) (fun (fu2, cost2, k25_2) => (k25_2 ≤ (((F_impl_orders (a.length : Int)).getD k19_1 []).length)) ∧ (-99 * (k25_2 : Int) ≤ cost2) ∧ (cost2 ≤ 99 * (k25_2 : Int)) ∧ (((F_impl_orders (a.length : Int)).getD k19_1 []).length) - k25_2 < fu2 ∧ F_impl_Metric_matched_L2 m a b k19_1 fu2 (cost2, k25_2) = c61) (fun (fu2, cost2, k25_2) => fu2) (((((F_impl_orders (a.length : Int)).getD k19_1 []).length) - 0) + 1, 0, 0) ⟨(by first | omega | (simp [-List.getD_eq_getElem?_getD] <;> omega)), (by first | omega | (simp [-List.getD_eq_getElem?_getD] <;> omega)), (by first | omega | (simp [-List.getD_eq_getElem?_getD] <;> omega)), (by omega), hc62⟩ ⟨rfl, rfl, rfl, rfl, rfl, rfl, rfl, rfl, rfl, rfl, rfl, rfl, rfl, trivial⟩ (fun w hw => hw) ?_
    rintro ⟨fu2, cost2, k25_2⟩ hJ2
    obtain ⟨hi2_0, hi2_1, hi2_2, hmu2, hL2⟩ : (k25_2 ≤ (((F_impl_orders (a.length : Int)).getD k19_1 []).length)) ∧ (-99 * (k25_2 : Int) ≤ cost2) ∧ (cost2 ≤ 99 * (k25_2 : Int)) ∧ (((F_impl_orders (a.length : Int)).getD k19_1 []).length) - k25_2 < fu2 ∧ F_impl_Metric_matched_L2 m a b k19_1 fu2 (cost2, k25_2) = c61 := hJ2
    change TC _ _ _ _ (Hp w [tabI 25 3 r3_2.1 r3_2.2 (F_impl_orders (a.length : Int)), .blk g0_0 29 [vm]]) [(1, va), (2, vb), (3, (.pointer (some ⟨g0_0, 0, none⟩))), (8, vbest1), (9, (.int .i64 least1)), (11, (r3_2.2.getD k19_1 undef)), (12, (.int .i64 cost2)), (17, r3_2.1), (18, (.int .i64 ((F_impl_orders (a.length : Int)).length : Int))), (19, (.int .i64 (k19_1 : Int))), (23, (r3_2.2.getD k19_1 undef)), (24, (.int .i64 (((F_impl_orders (a.length : Int)).getD k19_1 []).length : Int))), (25, (.int .i64 (k25_2 : Int)))]
    obtain ⟨mf2, rfl⟩ : ∃ m, fu2 = m + 1 := ⟨fu2 - 1, by omega⟩
    rw [F_impl_Metric_matched_L2_s] at hL2
    have hoe := hoj (by omega)
    have hoe2 := hoe.2 k25_2
    have ha1 := hp1.el k25_2
    have hb1 := hp2.el ((((F_impl_orders (a.length : Int)).getD k19_1 []).getD k25_2 0).toNat)
    have hrw := hp0.rows ((a.getD k25_2 0).toNat)
    have hme := hp0.el ((a.getD k25_2 0).toNat) ((b.getD ((((F_impl_orders (a.length : Int)).getD k19_1 []).getD k25_2 0).toNat) 0).toNat)
    refine TC.seq ?_
    refine TC.region ?_
    refine TL.op (yq (y_lss (ev_t rfl) (ev_t rfl))) rfl rfl rfl ?_
    refine TL.nil ?_
    refine TN.seq ?_
    refine TC.seq ?_
    refine TC.cond (b := decide ((k25_2 : Int) < (((F_impl_orders (a.length : Int)).getD k19_1 []).length : Int))) (ev_t rfl) (fun h63 => ?_) (fun h63 => ?_)
    · rw [bif_pos h63] at hL2
      have q64 := (of_decide_eq_true h63)
      refine TC.skip ?_
      refine TN.seq ?_
      refine TC.seq ?_
      refine TC.block ?_
      refine TC.seq ?_
      refine TC.region ?_
      refine TL.op (yq (y_move (ev_t rfl))) rfl rfl rfl ?_
      have hb65 : k25_2 < ((F_impl_orders (a.length : Int)).getD k19_1 []).length := (by first | omega | (simp only [List.length_set, List.length_append, List.length_cons, List.length_nil, List.length_replicate]; omega) | (rw [sortI_length]; simp only [List.length_cons, List.length_nil]; omega))
      refine TL.op (yq (y_idx (k := k25_2) (ev_t rfl) (ev_t rfl) (by first | omega | simp) slT_25 (ri_tab 0 k19_1 rfl hb60) hb65)) rfl rfl rfl ?_
      refine TL.op (yq (y_ldi (ev_t rfl) one_3 (ri_tab 0 k19_1 rfl hb60) hb65)) rfl rfl rfl ?_
      refine TL.op (yq (y_assign (ev_t rfl))) rfl rfl rfl ?_
      refine TL.op (yq (y_assign (ev_t rfl))) rfl rfl rfl ?_
      refine TL.nil ?_
      refine TN.seq ?_
      refine TC.regionQ (by kernel_rfl) (by kernel_rfl) dr_hp ?_
      refine TQ.op (yq (y_move (ev_t rfl))) rfl rfl rfl ?_
      refine TQ.op (yq (y_fa (fa_29_0 g0_0) (ev_t rfl))) rfl rfl rfl ?_
      refine TQ.op (yq (y_ldb 1 (ev_t rfl) one_22 rfl rfl)) rfl rfl rfl ?_
      refine TQ.op (yq (y_move (ev_t rfl))) rfl rfl rfl ?_
      refine TQ.op (yq (y_move (ev_t rfl))) rfl rfl rfl ?_
      have hb66 : k25_2 < a.length := (by first | omega | (simp only [List.length_set, List.length_append, List.length_cons, List.length_nil, List.length_replicate]; omega) | (rw [sortI_length]; simp only [List.length_cons, List.length_nil]; omega))
      refine TQ.op (yq (y_idx (k := k25_2) (ev_t rfl) (ev_t rfl) (by first | omega | simp) slT_25 (ri_arg ha) hb66)) rfl rfl rfl ?_
      refine TQ.op (yq (y_ldi (ev_t rfl) one_3 (ri_arg ha) hb66)) rfl rfl rfl ?_
      have hb67 : ((a.getD k25_2 0)).toNat < m.length := (by first | omega | (simp only [List.length_set, List.length_append, List.length_cons, List.length_nil, List.length_replicate]; omega) | (rw [sortI_length]; simp only [List.length_cons, List.length_nil]; omega))
      refine TQ.op (yq (y_idx (k := ((a.getD k25_2 0)).toNat) (ev_t rfl) (ev_t rfl) (by first | omega | simp) slT_22 (fun w hw => ((rii_arg hm) w hw).1) hb67)) rfl rfl rfl ?_
      have ha68 := hm.row (i := ((a.getD k25_2 0)).toNat) hb67
      refine TQ.op (yq (y_ldA (ev_t rfl) one_25 (rii_arg hm) hb67)) rfl rfl rfl ?_
      refine TQ.op (yq (y_move (ev_t rfl))) rfl rfl rfl ?_
      refine TQ.op (yq (y_move (ev_t rfl))) rfl rfl rfl ?_
      have hb69 : ((((F_impl_orders (a.length : Int)).getD k19_1 []).getD k25_2 0)).toNat < b.length := (by first | omega | (simp only [List.length_set, List.length_append, List.length_cons, List.length_nil, List.length_replicate]; omega) | (rw [sortI_length]; simp only [List.length_cons, List.length_nil]; omega))
      refine TQ.op (yq (y_idx (k := ((((F_impl_orders (a.length : Int)).getD k19_1 []).getD k25_2 0)).toNat) (ev_t rfl) (ev_t rfl) (by first | omega | simp) slT_25 (ri_arg hb) hb69)) rfl rfl rfl ?_
      refine TQ.op (yq (y_ldi (ev_t rfl) one_3 (ri_arg hb) hb69)) rfl rfl rfl ?_
      have hb70 : ((b.getD (((((F_impl_orders (a.length : Int)).getD k19_1 []).getD k25_2 0)).toNat) 0)).toNat < (m.getD (((a.getD k25_2 0)).toNat) []).length := (by first | omega | (simp only [List.length_set, List.length_append, List.length_cons, List.length_nil, List.length_replicate]; omega) | (rw [sortI_length]; simp only [List.length_cons, List.length_nil]; omega))
      refine TQ.op (yq (y_idx (k := ((b.getD (((((F_impl_orders (a.length : Int)).getD k19_1 []).getD k25_2 0)).toNat) 0)).toNat) (ev_t rfl) (ev_t rfl) (by first | omega | simp) slT_25 (ri_arg ha68) hb70)) rfl rfl rfl ?_
      refine TQ.op (yq (y_ldi (ev_t rfl) one_3 (ri_arg ha68) hb70)) rfl rfl rfl ?_
      refine TQ.op (yq (y_add (ev_t rfl) (ev_t rfl) (by unfold In64; omega))) rfl rfl rfl ?_
      refine TQ.op (yq (y_assign (ev_t rfl))) rfl rfl rfl ?_
      refine TQ.nil ?_
      refine TN.blockN ?_
      refine TN.seq ?_
      refine TC.region ?_
      refine TL.op (yq (y_add (ev_t rfl) ev_c (by unfold In64; omega))) rfl rfl rfl ?_
      refine TL.op (yq (y_move (ev_t rfl))) rfl rfl rfl ?_
      refine TL.nil ?_
      exact TN.hand (mf2, cost2 + ((m.getD (((a.getD k25_2 0)).toNat) []).getD (((b.getD (((((F_impl_orders (a.length : Int)).getD k19_1 []).getD k25_2 0)).toNat) 0)).toNat) 0), (k25_2 + 1)) ⟨(by first | omega | (simp [-List.getD_eq_getElem?_getD] <;> omega)), (by first | omega | (simp [-List.getD_eq_getElem?_getD] <;> omega)), (by first | omega | (simp [-List.getD_eq_getElem?_getD] <;> omega)), (by omega), hL2⟩ (Nat.lt_succ_self _) ⟨rfl, rfl, rfl, rfl, rfl, rfl, rfl, rfl, rfl, rfl, rfl, rfl, rfl, trivial⟩ (fun w hw => hw)
    · rw [bif_neg h63] at hL2
      have q64 := (of_decide_eq_false h63)
      refine TC.exit ?_
      refine TN.thenE ?_
      refine TN.thenE ?_
      rw [← hL2, elim_next] at hL1
      try dsimp only at hL1
      refine TN.blockH ?_
      refine TN.seq ?_
      refine TC.seq ?_
      refine TC.region ?_
      refine TL.op (yq (y_move (ev_t rfl))) rfl rfl rfl ?_
      refine TL.op (yq (y_move (ev_t rfl))) rfl rfl rfl ?_
      refine TL.op (yq (y_lss (ev_t rfl) (ev_t rfl))) rfl rfl rfl ?_
      refine TL.nil ?_
      refine TN.seq ?_
      refine TC.cond (b := decide (cost2 < least1)) (ev_t rfl) (fun h71 => ?_) (fun h71 => ?_)
      · rw [bif_pos h71] at hL1
        have q72 := (of_decide_eq_true h71)
        refine TC.region ?_
        refine TL.op (yq (y_move (ev_t rfl))) rfl rfl rfl ?_
        refine TL.op (yq (y_move (ev_t rfl))) rfl rfl rfl ?_
        refine TL.op (yq (y_assign (ev_t rfl))) rfl rfl rfl ?_
        refine TL.op (yq (y_assign (ev_t rfl))) rfl rfl rfl ?_
        refine TL.nil ?_
        refine TN.blockN ?_
        refine TN.seq ?_
        refine TC.region ?_
        refine TL.op (yq (y_add (ev_t rfl) ev_c (by unfold In64; omega))) rfl rfl rfl ?_
        refine TL.op (yq (y_move (ev_t rfl))) rfl rfl rfl ?_
        refine TL.nil ?_
        exact TN.hand (mf1, ((F_impl_orders (a.length : Int)).getD k19_1 []), cost2, (k19_1 + 1), (r3_2.2.getD k19_1 undef)) ⟨(by first | omega | (simp [-List.getD_eq_getElem?_getD] <;> omega)), (fun w hw => ext_row 0 rfl hb60 hw), (by omega), hL1⟩ (Nat.lt_succ_self _) ⟨rfl, rfl, rfl, rfl, rfl, rfl, rfl, rfl, trivial⟩ (fun w hw => hw)
      · rw [bif_neg h71] at hL1
        have q72 := (of_decide_eq_false h71)
        refine TC.skip ?_
        refine TN.blockN ?_
        refine TN.seq ?_
        refine TC.region ?_
        refine TL.op (yq (y_add (ev_t rfl) ev_c (by unfold In64; omega))) rfl rfl rfl ?_
        refine TL.op (yq (y_move (ev_t rfl))) rfl rfl rfl ?_
        refine TL.nil ?_
        exact TN.hand (mf1, best1, least1, (k19_1 + 1), vbest1) ⟨(by first | omega | (simp [-List.getD_eq_getElem?_getD] <;> omega)), hrbest1, (by omega), hL1⟩ (Nat.lt_succ_self _) ⟨rfl, rfl, rfl, rfl, rfl, rfl, rfl, rfl, trivial⟩ (fun w hw => hw)
  · rw [bif_neg h58] at hL1
    have q59 := (of_decide_eq_false h58)
    refine TC.exit ?_
    refine TN.thenE ?_
    refine TN.thenE ?_
    rw [← hL1, elim_next] at hF
    try dsimp only at hF
    refine TN.blockH ?_
    refine TN.seq ?_
    refine TC.seq ?_
    refine TC.region ?_
    refine TL.op (yq (y_move (ev_t rfl))) rfl rfl rfl ?_
    refine TL.op (yq (y_move (ev_t rfl))) rfl rfl rfl ?_
    refine TL.op (yq (y_assign (ev_t rfl))) rfl rfl rfl ?_
    refine TL.op (yq (y_assign (ev_t rfl))) rfl rfl rfl ?_
    refine TL.nil ?_
    refine TN.seq ?_
    refine TC.ret ?_
    subst hF
    refine TN.cls (fun w hw => hrbest1 w (Hp.sublist hw (.cons_cons _ (.cons _ .slnil)))) ?_
    exact TN.ret2 rfl (ev_t rfl) (ev_t rfl) (fun w' hw => ⟨vbest1, rfl, hw⟩)

set_option maxRecDepth 4000 in
set_option maxHeartbeats 1000000 in
theorem impl_Metric_moveCost_ok (w : World) (vm : Value) (um : List Value) (m : List (List Int)) (hm : RII w vm um m) (va : Value) (a : List Int) (ha : RI w va a) (vb : Value) (b : List Int) (hb : RI w vb b) (hp0 : Tab m) (hp1 : Cf m.length a) (hp2 : Cf m.length b) (hp3 : a.length = b.length) :
    Calls Try.prog 100 ([(.agg #[vm]), va, vb] : List Value).toArray w (Ret (.int .i64 (F_impl_Metric_moveCost m a b)) (Hp w [])) := by
  obtain ⟨rz, hF⟩ : ∃ rz, (F_impl_Metric_moveCost m a b) = rz := ⟨_, rfl⟩
  rw [hF]
  unfold F_impl_Metric_moveCost at hF
  have hlen_m := argT_len hm
  have hlen_a := arg_len ha
  have hlen_b := arg_len hb
  refine calls_tc Try.func100 rfl rfl rfl ?_
  change TC _ _ _ _ (Hp w []) [(0, (.agg #[vm])), (1, va), (2, vb)]
  refine TC.seq ?_
  refine TC.region ?_
  refine TL.box (ev_t rfl) rfl (fun g0_0 => ?_)
  refine TL.op (yq (y_assign ev_c)) rfl rfl rfl ?_
  refine TL.nil ?_
  refine TN.seq ?_
  refine TC.seq ?_
  refine TC.region ?_
  refine TL.op (yq (y_ldagg (cs := [vm]) 0 (ev_t rfl) agg_29 rfl)) rfl rfl rfl ?_
  refine TL.op (yq (y_move (ev_t rfl))) rfl rfl rfl ?_
  refine TL.op (yq (y_move (ev_t rfl))) rfl rfl rfl ?_
  refine TL.callr (ι := Value) (vs := [(.agg #[vm]), va, vb]) (fun i => (.tuple #[i, (.int .i64 ((F_impl_Metric_matched m a b).2))])) (fun i => [rowI 3 i ((F_impl_Metric_matched m a b).1)]) en_124 ⟨(ev_t rfl), (ev_t rfl), (ev_t rfl), trivial⟩ rfl (fun w hw => impl_Metric_matched_ok w vm um m ((rii_arg hm) w hw) va a ((ri_arg ha) w hw) vb b ((ri_arg hb) w hw) (by first | assumption | omega | grind) (by first | assumption | omega | grind) (by first | assumption | omega | grind) (by first | assumption | omega | grind)) (fun r1_3 => ?_)
  refine TL.op (yq (y_move (ev_t rfl))) rfl rfl rfl ?_
  refine TL.op (yq (y_extract (ev_t rfl) rfl)) rfl rfl rfl ?_
  refine TL.op (yq (y_extract (ev_t rfl) rfl)) rfl rfl rfl ?_
  refine TL.op (yq (y_assign (ev_t rfl))) rfl rfl rfl ?_
  refine TL.op (yq (y_assign (ev_t rfl))) rfl rfl rfl ?_
  refine TL.nil ?_
  refine TN.seq ?_
  refine TC.seq ?_
  refine TC.region ?_
  refine TL.op (yq (y_move (ev_t rfl))) rfl rfl rfl ?_
  refine TL.op (yq (y_assign (ev_t rfl))) rfl rfl rfl ?_
  refine TL.nil ?_
  refine TN.seq ?_
  refine TC.ret ?_
  subst hF
  exact TN.ret1 rfl (ev_t rfl) (fun w' hw => ⟨rfl, Hp.sublist hw (List.nil_sublist _)⟩)

set_option maxRecDepth 4000 in
set_option maxHeartbeats 1000000 in
theorem spec_l6Match_ok (w : World) (vm : Value) (um : List Value) (m : List (List Int)) (hm : RII w vm um m) (va : Value) (a : List Int) (ha : RI w va a) (vb : Value) (b : List Int) (hb : RI w vb b) (hp0 : Tab m) (hp1 : Cf m.length a) (hp2 : Cf m.length b) (hp3 : a.length = b.length) :
    Calls Try.prog 113 ([(.agg #[vm]), va, vb] : List Value).toArray w (fun e w' => ∃ i : Value, e = .returned (.tuple #[i, (.int .i64 ((F_spec_l6Match m a b).2))]) ∧ Hp w [rowI 3 i ((F_spec_l6Match m a b).1)] w') := by
  obtain ⟨rz, hF⟩ : ∃ rz, (F_spec_l6Match m a b) = rz := ⟨_, rfl⟩
  rw [hF]
  unfold F_spec_l6Match at hF
  have hn3 := hp1.n3
  have hor := perms_row a.length hp1.n1 hp1.n3
  have hlen_m := argT_len hm
  have hlen_a := arg_len ha
  have hlen_b := arg_len hb
  refine calls_tc Try.func113 rfl rfl rfl ?_
  change TC _ _ _ _ (Hp w []) [(0, (.agg #[vm])), (1, va), (2, vb)]
  refine TC.seq ?_
  refine TC.region ?_
  refine TL.box (ev_t rfl) rfl (fun g0_0 => ?_)
  refine TL.op (yq (y_assign ev_c)) rfl rfl rfl ?_
  refine TL.op (yq (y_assign ev_c)) rfl rfl rfl ?_
  refine TL.nil ?_
  refine TN.seq ?_
  refine TC.seq ?_
  refine TC.region ?_
  refine TL.op (yq (y_move (ev_t rfl))) rfl rfl rfl ?_
  refine TL.op (yq (y_len (ev_t rfl) Try.underlying25 (fun w hw => ((ri_arg ha) w hw).ln))) rfl rfl rfl ?_
  refine TL.callr (ι := Value × List Value) (vs := [(.int .i64 (a.length : Int))]) (fun i => i.1) (fun i => [tabI 25 3 i.1 i.2 (F_spec_l6Perms (a.length : Int))]) en_131 ⟨(ev_t rfl), trivial⟩ rfl (fun w hw => spec_l6Perms_ok w (a.length : Int) (by first | assumption | omega | grind)) (fun r1_2 => ?_)
  refine TL.buildI (zs := []) (qs := []) slT_25 rfl trivial rfl (by decide) rfl (fun v1_3 => ?_)
  refine TL.op (yq (y_assign (ev_t rfl))) rfl rfl rfl ?_
  refine TL.op (yq (y_assign (ev_t rfl))) rfl rfl rfl ?_
  refine TL.op (yq (y_assign ev_c)) rfl rfl rfl ?_
  refine TL.nil ?_
  refine TN.seq ?_
  refine TC.seq ?_
  refine TC.seq ?_
  refine TC.region ?_
  refine TL.op (yq (y_assign ev_c)) rfl rfl rfl ?_
  refine TL.nil ?_
  refine TN.seq ?_
  refine TC.block ?_
  obtain ⟨c61, hc62⟩ : ∃ c, F_spec_l6Match_L1 m a b ((((F_spec_l6Perms (a.length : Int)).length) - 0) + 1) (([] : List Int), (-1), 0) = c := ⟨_, rfl⟩
  rw [hc62] at hF
  refine TC.loop (ι := Nat × List Int × Int × Nat × Value) (fun (fu1, k9_1, k10_1, k11_1, vk9_1) => [(1, va), (2, vb), (3, (.pointer (some ⟨g0_0, 0, none⟩))), (8, r1_2.1), (9, vk9_1), (10, (.int .i64 k10_1)), (11, (.int .i64 (k11_1 : Int)))]) (fun (fu1, k9_1, k10_1, k11_1, vk9_1) => Hp w [rowI 3 v1_3 ([] : List Int), tabI 25 3 r1_2.1 r1_2.2 (F_spec_l6Perms (a.length : Int)), .blk g0_0 29 [vm]]) (fun (fu1, k9_1, k10_1, k11_1, vk9_1) => (k11_1 ≤ ((F_spec_l6Perms (a.length : Int)).length)) ∧ (∀ w', Hp w [rowI 3 v1_3 ([] : List Int), tabI 25 3 r1_2.1 r1_2.2 (F_spec_l6Perms (a.length : Int))] w' → Hp w [rowI 3 vk9_1 k9_1] w') ∧ ((F_spec_l6Perms (a.length : Int)).length) - k11_1 < fu1 ∧ F_spec_l6Match_L1 m a b fu1 (k9_1, k10_1, k11_1) = c61) (fun (fu1, k9_1, k10_1, k11_1, vk9_1) => fu1) ((((F_spec_l6Perms (a.length : Int)).length) - 0) + 1, ([] : List Int), -1, 0, v1_3) ⟨(by first | omega | (simp [-List.getD_eq_getElem?_getD] <;> omega)), (fun w hw => Hp.sublist hw (.cons_cons _ (.cons _ .slnil))), (by omega), hc62⟩ ⟨rfl, rfl, rfl, rfl, rfl, rfl, rfl, trivial⟩ (fun w hw => hw) ?_
  rintro ⟨fu1, k9_1, k10_1, k11_1, vk9_1⟩ hJ1
  obtain ⟨hi1_0, hrk9_1, hmu1, hL1⟩ : (k11_1 ≤ ((F_spec_l6Perms (a.length : Int)).length)) ∧ (∀ w', Hp w [rowI 3 v1_3 ([] : List Int), tabI 25 3 r1_2.1 r1_2.2 (F_spec_l6Perms (a.length : Int))] w' → Hp w [rowI 3 vk9_1 k9_1] w') ∧ ((F_spec_l6Perms (a.length : Int)).length) - k11_1 < fu1 ∧ F_spec_l6Match_L1 m a b fu1 (k9_1, k10_1, k11_1) = c61 := hJ1
  change TC _ _ _ _ (Hp w [rowI 3 v1_3 ([] : List Int), tabI 25 3 r1_2.1 r1_2.2 (F_spec_l6Perms (a.length : Int)), .blk g0_0 29 [vm]]) [(1, va), (2, vb), (3, (.pointer (some ⟨g0_0, 0, none⟩))), (8, r1_2.1), (9, vk9_1), (10, (.int .i64 k10_1)), (11, (.int .i64 (k11_1 : Int)))]
  obtain ⟨mf1, rfl⟩ : ∃ m, fu1 = m + 1 := ⟨fu1 - 1, by omega⟩
  rw [F_spec_l6Match_L1_s] at hL1
  have hoj := hor.2.2 k11_1
  refine TC.seq ?_
  refine TC.seq ?_
  refine TC.region ?_
  refine TL.op (yq (y_move (ev_t rfl))) rfl rfl rfl ?_
  refine TL.op (yq (y_move (ev_t rfl))) rfl rfl rfl ?_
  refine TL.op (yq (y_len (ev_t rfl) Try.underlying22 (fun w hw => ((fun w hw => ((rii_tab 1 rfl) w hw).1) w hw).ln))) rfl rfl rfl ?_
  refine TL.op (yq (y_lss (ev_t rfl) (ev_t rfl))) rfl rfl rfl ?_
  refine TL.nil ?_
  refine TN.seq ?_
  refine TC.cond (b := decide ((k11_1 : Int) < ((F_spec_l6Perms (a.length : Int)).length : Int))) (ev_t rfl) (fun h63 => ?_) (fun h63 => ?_)
  · rw [bif_pos h63] at hL1
    have q64 := (of_decide_eq_true h63)
    refine TC.skip ?_
    refine TN.seq ?_
    refine TC.seq ?_
    refine TC.block ?_
    refine TC.seq ?_
    refine TC.region ?_
    refine TL.op (yq (y_assign ev_c)) rfl rfl rfl ?_
    refine TL.nil ?_
    refine TN.seq ?_
    refine TC.seq ?_
    refine TC.seq ?_
    refine TC.region ?_
    refine TL.op (yq (y_assign ev_c)) rfl rfl rfl ?_
    refine TL.nil ?_
    refine TN.seq ?_
    refine TC.block ?_
    obtain ⟨c65, hc66⟩ : ∃ c, F_spec_l6Match_L2 m a b k11_1 ((a.length - 0) + 1) (0, 0) = c := ⟨_, rfl⟩
    rw [hc66] at hL1
    refine TC.loop (ι := Nat × Int × Nat) (fun (fu2, k12_2, k13_2) => [(1, va), (2, vb), (3, (.pointer (some ⟨g0_0, 0, none⟩))), (8, r1_2.1), (9, vk9_1), (10, (.int .i64 k10_1)), (11, (.int .i64 (k11_1 : Int))), (12, (.int .i64 k12_2)), (13, (.int .i64 (k13_2 : Int)))]) (fun (fu2, k12_2, k13_2) => Hp w [rowI 3 v1_3 ([] : List Int), tabI 25 3 r1_2.1 r1_2.2 (F_spec_l6Perms (a.length : Int)), .blk g0_0 29 [vm]]) (fun (fu2, k12_2, k13_2) => (k13_2 ≤ a.length) ∧ (-99 * (k13_2 : Int) ≤ k12_2) ∧ (k12_2 ≤ 99 * (k13_2 : Int)) ∧ a.length - k13_2 < fu2 ∧ F_spec_l6Match_L2 m a b k11_1 fu2 (k12_2, k13_2) = c65) (fun (fu2, k12_2, k13_2) => fu2) ((a.length - 0) + 1, 0, 0) ⟨(by first | omega | (simp [-List.getD_eq_getElem?_getD] <;> omega)), (by first | omega | (simp [-List.getD_eq_getElem?_getD] <;> omega)), (by first | omega | (simp [-List.getD_eq_getElem?_getD] <;> omega)), (by omega), hc66⟩ ⟨rfl, rfl, rfl, rfl, rfl, rfl, rfl, rfl, rfl, trivial⟩ (fun w hw => hw) ?_
    rintro ⟨fu2, k12_2, k13_2⟩ hJ2
    obtain ⟨hi2_0, hi2_1, hi2_2, hmu2, hL2⟩ : (k13_2 ≤ a.length) ∧ (-99 * (k13_2 : Int) ≤ k12_2) ∧ (k12_2 ≤ 99 * (k13_2 : Int)) ∧ a.length - k13_2 < fu2 ∧ F_spec_l6Match_L2 m a b k11_1 fu2 (k12_2, k13_2) = c65 := hJ2
    change TC _ _ _ _ (Hp w [rowI 3 v1_3 ([] : List Int), tabI 25 3 r1_2.1 r1_2.2 (F_spec_l6Perms (a.length : Int)), .blk g0_0 29 [vm]]) [(1, va), (2, vb), (3, (.pointer (some ⟨g0_0, 0, none⟩))), (8, r1_2.1), (9, vk9_1), (10, (.int .i64 k10_1)), (11, (.int .i64 (k11_1 : Int))), (12, (.int .i64 k12_2)), (13, (.int .i64 (k13_2 : Int)))]
    obtain ⟨mf2, rfl⟩ : ∃ m, fu2 = m + 1 := ⟨fu2 - 1, by omega⟩
    rw [F_spec_l6Match_L2_s] at hL2
    have hoe := hoj (by omega)
    have hoe2 := hoe.2 k13_2
    have ha1 := hp1.el k13_2
    have hb1 := hp2.el ((((F_spec_l6Perms (a.length : Int)).getD k11_1 []).getD k13_2 0).toNat)
    have hrw := hp0.rows ((a.getD k13_2 0).toNat)
    have hme := hp0.el ((a.getD k13_2 0).toNat) ((b.getD ((((F_spec_l6Perms (a.length : Int)).getD k11_1 []).getD k13_2 0).toNat) 0).toNat)
    refine TC.seq ?_
    refine TC.seq ?_
    refine TC.region ?_
    refine TL.op (yq (y_move (ev_t rfl))) rfl rfl rfl ?_
    refine TL.op (yq (y_move (ev_t rfl))) rfl rfl rfl ?_
    refine TL.op (yq (y_len (ev_t rfl) Try.underlying25 (fun w hw => ((ri_arg ha) w hw).ln))) rfl rfl rfl ?_
    refine TL.op (yq (y_lss (ev_t rfl) (ev_t rfl))) rfl rfl rfl ?_
    refine TL.nil ?_
    refine TN.seq ?_
    refine TC.cond (b := decide ((k13_2 : Int) < (a.length : Int))) (ev_t rfl) (fun h67 => ?_) (fun h67 => ?_)
    · rw [bif_pos h67] at hL2
      have q68 := (of_decide_eq_true h67)
      refine TC.skip ?_
      refine TN.seq ?_
      refine TC.seq ?_
      refine TC.block ?_
      refine TC.regionQ (by kernel_rfl) (by kernel_rfl) dr_hp ?_
      refine TQ.op (yq (y_move (ev_t rfl))) rfl rfl rfl ?_
      refine TQ.op (yq (y_fa (fa_29_0 g0_0) (ev_t rfl))) rfl rfl rfl ?_
      refine TQ.op (yq (y_ldb 2 (ev_t rfl) one_22 rfl rfl)) rfl rfl rfl ?_
      refine TQ.op (yq (y_move (ev_t rfl))) rfl rfl rfl ?_
      refine TQ.op (yq (y_move (ev_t rfl))) rfl rfl rfl ?_
      have hb69 : k13_2 < a.length := (by first | omega | (simp only [List.length_set, List.length_append, List.length_cons, List.length_nil, List.length_replicate]; omega) | (rw [sortI_length]; simp only [List.length_cons, List.length_nil]; omega))
      refine TQ.op (yq (y_idx (k := k13_2) (ev_t rfl) (ev_t rfl) (by first | omega | simp) slT_25 (ri_arg ha) hb69)) rfl rfl rfl ?_
      refine TQ.op (yq (y_ldi (ev_t rfl) one_3 (ri_arg ha) hb69)) rfl rfl rfl ?_
      have hb70 : ((a.getD k13_2 0)).toNat < m.length := (by first | omega | (simp only [List.length_set, List.length_append, List.length_cons, List.length_nil, List.length_replicate]; omega) | (rw [sortI_length]; simp only [List.length_cons, List.length_nil]; omega))
      refine TQ.op (yq (y_idx (k := ((a.getD k13_2 0)).toNat) (ev_t rfl) (ev_t rfl) (by first | omega | simp) slT_22 (fun w hw => ((rii_arg hm) w hw).1) hb70)) rfl rfl rfl ?_
      have ha71 := hm.row (i := ((a.getD k13_2 0)).toNat) hb70
      refine TQ.op (yq (y_ldA (ev_t rfl) one_25 (rii_arg hm) hb70)) rfl rfl rfl ?_
      refine TQ.op (yq (y_move (ev_t rfl))) rfl rfl rfl ?_
      refine TQ.op (yq (y_move (ev_t rfl))) rfl rfl rfl ?_
      refine TQ.op (yq (y_move (ev_t rfl))) rfl rfl rfl ?_
      have hb72 : k11_1 < (F_spec_l6Perms (a.length : Int)).length := (by first | omega | (simp only [List.length_set, List.length_append, List.length_cons, List.length_nil, List.length_replicate]; omega) | (rw [sortI_length]; simp only [List.length_cons, List.length_nil]; omega))
      refine TQ.op (yq (y_idx (k := k11_1) (ev_t rfl) (ev_t rfl) (by first | omega | simp) slT_22 (fun w hw => ((rii_tab 1 rfl) w hw).1) hb72)) rfl rfl rfl ?_
      refine TQ.op (yq (y_ldT 1 (ev_t rfl) one_25 rfl hb72)) rfl rfl rfl ?_
      refine TQ.op (yq (y_move (ev_t rfl))) rfl rfl rfl ?_
      have hb73 : k13_2 < ((F_spec_l6Perms (a.length : Int)).getD k11_1 []).length := (by first | omega | (simp only [List.length_set, List.length_append, List.length_cons, List.length_nil, List.length_replicate]; omega) | (rw [sortI_length]; simp only [List.length_cons, List.length_nil]; omega))
      refine TQ.op (yq (y_idx (k := k13_2) (ev_t rfl) (ev_t rfl) (by first | omega | simp) slT_25 (ri_tab 1 k11_1 rfl hb72) hb73)) rfl rfl rfl ?_
      refine TQ.op (yq (y_ldi (ev_t rfl) one_3 (ri_tab 1 k11_1 rfl hb72) hb73)) rfl rfl rfl ?_
      have hb74 : ((((F_spec_l6Perms (a.length : Int)).getD k11_1 []).getD k13_2 0)).toNat < b.length := (by first | omega | (simp only [List.length_set, List.length_append, List.length_cons, List.length_nil, List.length_replicate]; omega) | (rw [sortI_length]; simp only [List.length_cons, List.length_nil]; omega))
      refine TQ.op (yq (y_idx (k := ((((F_spec_l6Perms (a.length : Int)).getD k11_1 []).getD k13_2 0)).toNat) (ev_t rfl) (ev_t rfl) (by first | omega | simp) slT_25 (ri_arg hb) hb74)) rfl rfl rfl ?_
      refine TQ.op (yq (y_ldi (ev_t rfl) one_3 (ri_arg hb) hb74)) rfl rfl rfl ?_
      have hb75 : ((b.getD (((((F_spec_l6Perms (a.length : Int)).getD k11_1 []).getD k13_2 0)).toNat) 0)).toNat < (m.getD (((a.getD k13_2 0)).toNat) []).length := (by first | omega | (simp only [List.length_set, List.length_append, List.length_cons, List.length_nil, List.length_replicate]; omega) | (rw [sortI_length]; simp only [List.length_cons, List.length_nil]; omega))
      refine TQ.op (yq (y_idx (k := ((b.getD (((((F_spec_l6Perms (a.length : Int)).getD k11_1 []).getD k13_2 0)).toNat) 0)).toNat) (ev_t rfl) (ev_t rfl) (by first | omega | simp) slT_25 (ri_arg ha71) hb75)) rfl rfl rfl ?_
      refine TQ.op (yq (y_ldi (ev_t rfl) one_3 (ri_arg ha71) hb75)) rfl rfl rfl ?_
      refine TQ.op (yq (y_add (ev_t rfl) (ev_t rfl) (by unfold In64; omega))) rfl rfl rfl ?_
      refine TQ.op (yq (y_assign (ev_t rfl))) rfl rfl rfl ?_
      refine TQ.nil ?_
      refine TN.blockN ?_
      refine TN.seq ?_
      refine TC.region ?_
      refine TL.op (yq (y_move (ev_t rfl))) rfl rfl rfl ?_
      refine TL.op (yq (y_add (ev_t rfl) ev_c (by unfold In64; omega))) rfl rfl rfl ?_
      refine TL.op (yq (y_assign (ev_t rfl))) rfl rfl rfl ?_
      refine TL.nil ?_
      exact TN.hand (mf2, k12_2 + ((m.getD (((a.getD k13_2 0)).toNat) []).getD (((b.getD (((((F_spec_l6Perms (a.length : Int)).getD k11_1 []).getD k13_2 0)).toNat) 0)).toNat) 0), (k13_2 + 1)) ⟨(by first | omega | (simp [-List.getD_eq_getElem?_getD] <;> omega)), (by first | omega | (simp [-List.getD_eq_getElem?_getD] <;> omega)), (by first | omega | (simp [-List.getD_eq_getElem?_getD] <;> omega)), (by omega), hL2⟩ (Nat.lt_succ_self _) ⟨rfl, rfl, rfl, rfl, rfl, rfl, rfl, rfl, rfl, trivial⟩ (fun w hw => hw)
    · rw [bif_neg h67] at hL2
      have q68 := (of_decide_eq_false h67)
      refine TC.exit ?_
      refine TN.thenE ?_
      refine TN.thenE ?_
      rw [← hL2, elim_next] at hL1
      try dsimp only at hL1
      refine TN.blockH ?_
      refine TN.seq ?_
      refine TC.seq ?_
      refine TC.region ?_
      refine TL.op (yq (y_move (ev_t rfl))) rfl rfl rfl ?_
      refine TL.op (yq (y_lss (ev_t rfl) ev_c)) rfl rfl rfl ?_
      refine TL.op (yq (y_move (ev_t rfl))) rfl rfl rfl ?_
      refine TL.opw (w_f rfl rfl rfl) (fun hg => yq (y_move (ev_t rfl))) rfl rfl ?_
      refine TL.opw (w_f rfl rfl rfl) (fun hg => yq (y_move (ev_t rfl))) rfl rfl ?_
      refine TL.opw (w_f rfl rfl rfl) (fun hg => yq (y_lss (ev_g rfl hg) (ev_g rfl hg))) rfl rfl ?_
      refine TL.op (yq (y_or (ev_t rfl) (fun hq => (ev_g rfl hq)))) rfl rfl rfl ?_
      refine TL.nil ?_
      refine TN.seq ?_
      refine TC.cond (b := ((decide (k10_1 < 0)) || (decide (k12_2 < k10_1)))) (ev_t rfl) (fun h76 => ?_) (fun h76 => ?_)
      · rw [bif_pos h76] at hL1
        have q77 := ((or_t h76).imp (fun h => (of_decide_eq_true h)) (fun h => (of_decide_eq_true h)))
        refine TC.seq ?_
        refine TC.region ?_
        refine TL.op (yq (y_move (ev_t rfl))) rfl rfl rfl ?_
        refine TL.op (yq (y_move (ev_t rfl))) rfl rfl rfl ?_
        have hb78 : k11_1 < (F_spec_l6Perms (a.length : Int)).length := (by first | omega | (simp only [List.length_set, List.length_append, List.length_cons, List.length_nil, List.length_replicate]; omega) | (rw [sortI_length]; simp only [List.length_cons, List.length_nil]; omega))
        refine TL.op (yq (y_idx (k := k11_1) (ev_t rfl) (ev_t rfl) (by first | omega | simp) slT_22 (fun w hw => ((rii_tab 1 rfl) w hw).1) hb78)) rfl rfl rfl ?_
        refine TL.op (yq (y_ldT 1 (ev_t rfl) one_25 rfl hb78)) rfl rfl rfl ?_
        refine TL.op (yq (y_assign (ev_t rfl))) rfl rfl rfl ?_
        refine TL.nil ?_
        refine TN.seq ?_
        refine TC.region ?_
        refine TL.op (yq (y_move (ev_t rfl))) rfl rfl rfl ?_
        refine TL.op (yq (y_assign (ev_t rfl))) rfl rfl rfl ?_
        refine TL.nil ?_
        refine TN.blockN ?_
        refine TN.seq ?_
        refine TC.region ?_
        refine TL.op (yq (y_move (ev_t rfl))) rfl rfl rfl ?_
        refine TL.op (yq (y_add (ev_t rfl) ev_c (by unfold In64; omega))) rfl rfl rfl ?_
        refine TL.op (yq (y_assign (ev_t rfl))) rfl rfl rfl ?_
        refine TL.nil ?_
        exact TN.hand (mf1, ((F_spec_l6Perms (a.length : Int)).getD k11_1 []), k12_2, (k11_1 + 1), (r1_2.2.getD k11_1 undef)) ⟨(by first | omega | (simp [-List.getD_eq_getElem?_getD] <;> omega)), (fun w hw => ext_row 1 rfl hb78 hw), (by omega), hL1⟩ (Nat.lt_succ_self _) ⟨rfl, rfl, rfl, rfl, rfl, rfl, rfl, trivial⟩ (fun w hw => hw)
      · rw [bif_neg h76] at hL1
        have q77 := (and_imp (or_f h76) (fun h => (of_decide_eq_false h)) (fun h => (of_decide_eq_false h)))
        refine TC.skip ?_
        refine TN.blockN ?_
        refine TN.seq ?_
        refine TC.region ?_
        refine TL.op (yq (y_move (ev_t rfl))) rfl rfl rfl ?_
        refine TL.op (yq (y_add (ev_t rfl) ev_c (by unfold In64; omega))) rfl rfl rfl ?_
        refine TL.op (yq (y_assign (ev_t rfl))) rfl rfl rfl ?_
        refine TL.nil ?_
        exact TN.hand (mf1, k9_1, k10_1, (k11_1 + 1), vk9_1) ⟨(by first | omega | (simp [-List.getD_eq_getElem?_getD] <;> omega)), hrk9_1, (by omega), hL1⟩ (Nat.lt_succ_self _) ⟨rfl, rfl, rfl, rfl, rfl, rfl, rfl, trivial⟩ (fun w hw => hw)
  · rw [bif_neg h63] at hL1
    have q64 := (of_decide_eq_false h63)
    refine TC.exit ?_
    refine TN.thenE ?_
    refine TN.thenE ?_
    rw [← hL1, elim_next] at hF
    try dsimp only at hF
    refine TN.blockH ?_
    refine TN.seq ?_
    refine TC.seq ?_
    refine TC.region ?_
    refine TL.op (yq (y_move (ev_t rfl))) rfl rfl rfl ?_
    refine TL.op (yq (y_move (ev_t rfl))) rfl rfl rfl ?_
    refine TL.op (yq (y_assign (ev_t rfl))) rfl rfl rfl ?_
    refine TL.op (yq (y_assign (ev_t rfl))) rfl rfl rfl ?_
    refine TL.nil ?_
    refine TN.seq ?_
    refine TC.ret ?_
    subst hF
    refine TN.cls (fun w hw => hrk9_1 w (Hp.sublist hw (.cons_cons _ (.cons_cons _ (.cons _ .slnil))))) ?_
    exact TN.ret2 rfl (ev_t rfl) (ev_t rfl) (fun w' hw => ⟨vk9_1, rfl, hw⟩)

set_option maxRecDepth 4000 in
set_option maxHeartbeats 1000000 in
theorem spec_l6Move_ok (w : World) (vm : Value) (um : List Value) (m : List (List Int)) (hm : RII w vm um m) (va : Value) (a : List Int) (ha : RI w va a) (vb : Value) (b : List Int) (hb : RI w vb b) (hp0 : Tab m) (hp1 : Cf m.length a) (hp2 : Cf m.length b) (hp3 : a.length = b.length) :
    Calls Try.prog 76 ([(.agg #[vm]), va, vb] : List Value).toArray w (Ret (.int .i64 (F_spec_l6Move m a b)) (Hp w [])) := by
  obtain ⟨rz, hF⟩ : ∃ rz, (F_spec_l6Move m a b) = rz := ⟨_, rfl⟩
  rw [hF]
  unfold F_spec_l6Move at hF
  have hlen_m := argT_len hm
  have hlen_a := arg_len ha
  have hlen_b := arg_len hb
  refine calls_tc Try.func76 rfl rfl rfl ?_
  change TC _ _ _ _ (Hp w []) [(0, (.agg #[vm])), (1, va), (2, vb)]
  refine TC.seq ?_
  refine TC.region ?_
  refine TL.box (ev_t rfl) rfl (fun g0_0 => ?_)
  refine TL.op (yq (y_assign ev_c)) rfl rfl rfl ?_
  refine TL.nil ?_
  refine TN.seq ?_
  refine TC.seq ?_
  refine TC.region ?_
  refine TL.op (yq (y_ldagg (cs := [vm]) 0 (ev_t rfl) agg_29 rfl)) rfl rfl rfl ?_
  refine TL.op (yq (y_move (ev_t rfl))) rfl rfl rfl ?_
  refine TL.op (yq (y_move (ev_t rfl))) rfl rfl rfl ?_
  refine TL.callr (ι := Value) (vs := [(.agg #[vm]), va, vb]) (fun i => (.tuple #[i, (.int .i64 ((F_spec_l6Match m a b).2))])) (fun i => [rowI 3 i ((F_spec_l6Match m a b).1)]) en_113 ⟨(ev_t rfl), (ev_t rfl), (ev_t rfl), trivial⟩ rfl (fun w hw => spec_l6Match_ok w vm um m ((rii_arg hm) w hw) va a ((ri_arg ha) w hw) vb b ((ri_arg hb) w hw) (by first | assumption | omega | grind) (by first | assumption | omega | grind) (by first | assumption | omega | grind) (by first | assumption | omega | grind)) (fun r1_3 => ?_)
  refine TL.op (yq (y_move (ev_t rfl))) rfl rfl rfl ?_
  refine TL.op (yq (y_extract (ev_t rfl) rfl)) rfl rfl rfl ?_
  refine TL.op (yq (y_extract (ev_t rfl) rfl)) rfl rfl rfl ?_
  refine TL.op (yq (y_assign (ev_t rfl))) rfl rfl rfl ?_
  refine TL.op (yq (y_assign (ev_t rfl))) rfl rfl rfl ?_
  refine TL.nil ?_
  refine TN.seq ?_
  refine TC.seq ?_
  refine TC.region ?_
  refine TL.op (yq (y_move (ev_t rfl))) rfl rfl rfl ?_
  refine TL.op (yq (y_assign (ev_t rfl))) rfl rfl rfl ?_
  refine TL.nil ?_
  refine TN.seq ?_
  refine TC.ret ?_
  subst hF
  exact TN.ret1 rfl (ev_t rfl) (fun w' hw => ⟨rfl, Hp.sublist hw (List.nil_sublist _)⟩)

set_option maxRecDepth 4000 in
set_option maxHeartbeats 1000000 in
theorem slices_Repeat_Sint_int_ok (w : World) (vx : Value) (x : List Int) (hx : RI w vx x) (count : Int) (hp0 : x.length = 1) (hp1 : 0 ≤ count) (hp2 : count ≤ 1000000) :
    Calls Try.prog 82 ([vx, (.int .i64 count)] : List Value).toArray w (fun e w' => ∃ i : Value, e = .returned i ∧ Hp w [rowI 3 i (F_slices_Repeat_Sint_int x count)] w') := by
  obtain ⟨rz, hF⟩ : ∃ rz, (F_slices_Repeat_Sint_int x count) = rz := ⟨_, rfl⟩
  rw [hF]
  unfold F_slices_Repeat_Sint_int at hF
  have hmu := mulU_one hp0 hp1 hp2
  have hmu1 := hmu.1
  have hmu2 := hmu.2
  have hlen_x := arg_len hx
  refine calls_tc Try.func82 rfl rfl rfl ?_
  change TC _ _ _ _ (Hp w []) [(0, vx), (1, (.int .i64 count))]
  refine TC.seq ?_
  refine TC.region ?_
  refine TL.op (yq (y_assign ev_c)) rfl rfl rfl ?_
  refine TL.nil ?_
  refine TN.seq ?_
  obtain ⟨c57, hcj1⟩ : ∃ c, ((bif decide (count < 0) then default else (Ctl.next ())) : Ctl (Unit) (List Int)) = c := ⟨_, rfl⟩
  rw [hcj1] at hF
  refine TC.cut (fun a' w' => Slots 48 [(0, vx), (1, (.int .i64 count))] a' ∧ Hp w [] w' ∧ (Ctl.next () : Ctl (Unit) (List Int)) = c57) ?_ ?_
  · refine TC.seq ?_
    refine TC.region ?_
    refine TL.op (yq (y_move (ev_t rfl))) rfl rfl rfl ?_
    refine TL.op (yq (y_lss (ev_t rfl) ev_c)) rfl rfl rfl ?_
    refine TL.nil ?_
    refine TN.seq ?_
    refine TC.cond (b := decide (count < 0)) (ev_t rfl) (fun h58 => ?_) (fun h58 => ?_)
    · rw [bif_pos h58] at hcj1
      have q59 := (of_decide_eq_true h58)
      exfalso; omega
    · rw [bif_neg h58] at hcj1
      have q59 := (of_decide_eq_false h58)
      refine TC.skip ?_
      exact fun a' w' hs hw => ⟨hs.sub ⟨rfl, rfl, trivial⟩, hw, hcj1⟩
  · rintro a' w' ⟨hs', hw', hdj1⟩
    rw [← hdj1, elim_next] at hF
    try dsimp only at hF
    refine (?_ : TC _ _ _ 48 (Hp w []) [(0, vx), (1, (.int .i64 count))]) a' w' hs' hw'
    clear hs' hw' hcj1
    refine TC.seq ?_
    refine TC.region ?_
    refine TL.op (yq (y_move (ev_t rfl))) rfl rfl rfl ?_
    refine TL.op (yq (y_len (ev_t rfl) Try.underlying25 (fun w hw => ((ri_arg hx) w hw).ln))) rfl rfl rfl ?_
    refine TL.op (yq (y_conv_u64 (ev_t rfl) Try.underlying3 Try.underlying106 (by first | omega | (simp only [List.length_set, List.length_append, List.length_cons, List.length_nil, List.length_replicate]; omega) | (rw [sortI_length]; simp only [List.length_cons, List.length_nil]; omega)))) rfl rfl rfl ?_
    refine TL.op (yq (y_move (ev_t rfl))) rfl rfl rfl ?_
    refine TL.op (yq (y_conv_u64 (ev_t rfl) Try.underlying3 Try.underlying106 (by first | omega | (simp only [List.length_set, List.length_append, List.length_cons, List.length_nil, List.length_replicate]; omega) | (rw [sortI_length]; simp only [List.length_cons, List.length_nil]; omega)))) rfl rfl rfl ?_
    refine TL.op (y_call (vs := [(.int .u64 (x.length : Int)), (.int .u64 count)]) (v := (.tuple #[(.int .u64 ((mulU (x.length : Int) count).1)), (.int .u64 ((mulU (x.length : Int) count).2))])) en_117 ⟨(ev_t rfl), (ev_t rfl), trivial⟩ (fun w hw => bits_Mul_ok w (x.length : Int) count (by omega) (by omega) (by omega) (by omega))) rfl rfl rfl ?_
    refine TL.op (yq (y_move (ev_t rfl))) rfl rfl rfl ?_
    refine TL.op (yq (y_extract (ev_t rfl) rfl)) rfl rfl rfl ?_
    refine TL.op (yq (y_extract (ev_t rfl) rfl)) rfl rfl rfl ?_
    refine TL.op (yq (y_assign (ev_t rfl))) rfl rfl rfl ?_
    refine TL.op (yq (y_assign (ev_t rfl))) rfl rfl rfl ?_
    refine TL.nil ?_
    refine TN.seq ?_
    obtain ⟨c62, hcj4⟩ : ∃ c, ((bif ((decide (0 < (mulU (x.length : Int) count).1)) || (decide (9223372036854775807 < (mulU (x.length : Int) count).2))) then default else (Ctl.next ())) : Ctl (Unit) (List Int)) = c := ⟨_, rfl⟩
    rw [hcj4] at hF
    refine TC.cut (fun a' w' => Slots 48 [(0, vx), (6, (.int .u64 ((mulU (x.length : Int) count).2)))] a' ∧ Hp w [] w' ∧ (Ctl.next () : Ctl (Unit) (List Int)) = c62) ?_ ?_
    · refine TC.seq ?_
      refine TC.region ?_
      refine TL.op (yq (y_move (ev_t rfl))) rfl rfl rfl ?_
      refine TL.op (yq (y_gtr (ev_t rfl) ev_c)) rfl rfl rfl ?_
      refine TL.op (yq (y_move (ev_t rfl))) rfl rfl rfl ?_
      refine TL.opw (w_f rfl rfl rfl) (fun hg => yq (y_move (ev_t rfl))) rfl rfl ?_
      refine TL.opw (w_f rfl rfl rfl) (fun hg => yq (y_gtr (ev_g rfl hg) ev_c)) rfl rfl ?_
      refine TL.op (yq (y_or (ev_t rfl) (fun hq => (ev_g rfl hq)))) rfl rfl rfl ?_
      refine TL.nil ?_
      refine TN.seq ?_
      refine TC.cond (b := ((decide (0 < (mulU (x.length : Int) count).1)) || (decide (9223372036854775807 < (mulU (x.length : Int) count).2)))) (ev_t rfl) (fun h63 => ?_) (fun h63 => ?_)
      · rw [bif_pos h63] at hcj4
        have q64 := ((or_t h63).imp (fun h => (of_decide_eq_true h)) (fun h => (of_decide_eq_true h)))
        exfalso; omega
      · rw [bif_neg h63] at hcj4
        have q64 := (and_imp (or_f h63) (fun h => (of_decide_eq_false h)) (fun h => (of_decide_eq_false h)))
        refine TC.skip ?_
        exact fun a' w' hs hw => ⟨hs.sub ⟨rfl, rfl, trivial⟩, hw, hcj4⟩
    · rintro a' w' ⟨hs', hw', hdj4⟩
      rw [← hdj4, elim_next] at hF
      try dsimp only at hF
      refine (?_ : TC _ _ _ 48 (Hp w []) [(0, vx), (6, (.int .u64 ((mulU (x.length : Int) count).2)))]) a' w' hs' hw'
      clear hs' hw' hcj4
      refine TC.seq ?_
      refine TC.region ?_
      refine TL.op (yq (y_move (ev_t rfl))) rfl rfl rfl ?_
      refine TL.op (yq (y_conv_i64 (ev_t rfl) Try.underlying106 Try.underlying3 (by first | omega | (simp only [List.length_set, List.length_append, List.length_cons, List.length_nil, List.length_replicate]; omega) | (rw [sortI_length]; simp only [List.length_cons, List.length_nil]; omega)))) rfl rfl rfl ?_
      refine TL.makeSlice (n := ((mulU (x.length : Int) count).2).toNat) (ev_t rfl) (ev_t rfl) (by omega) slT_25 rfl (by omega) (by unfold maxLen; omega) rfl (fun v6_2 => ?_)
      refine TL.cls (fun w hw => hw.zeros) ?_
      refine TL.op (yq (y_assign (ev_t rfl))) rfl rfl rfl ?_
      refine TL.nil ?_
      refine TN.seq ?_
      refine TC.seq ?_
      refine TC.region ?_
      refine TL.op (yq (y_move (ev_t rfl))) rfl rfl rfl ?_
      refine TL.op (yq (y_move (ev_t rfl))) rfl rfl rfl ?_
      refine TL.copyW 0 (qs := x) (ev_t rfl) (ev_t rfl) rfl slT_25 (ri_arg hx) rfl ?_
      refine TL.op (yq (y_assign (ev_t rfl))) rfl rfl rfl ?_
      refine TL.nil ?_
      refine TN.seq ?_
      refine TC.seq ?_
      refine TC.block ?_
      have hd0 : (x.take (List.replicate (((mulU (x.length : Int) count).2).toNat) (0 : Int)).length ++ (List.replicate (((mulU (x.length : Int) count).2).toNat) (0 : Int)).drop (min x.length (List.replicate (((mulU (x.length : Int) count).2).toNat) (0 : Int)).length)).length = count.toNat := by simp; omega
      have hd3 : (List.replicate (((mulU (x.length : Int) count).2).toNat) (0 : Int)).length = count.toNat := by simp; omega
      obtain ⟨c65, hc66⟩ : ∃ c, F_slices_Repeat_Sint_int_L1  (((x.take (List.replicate (((mulU (x.length : Int) count).2).toNat) (0 : Int)).length ++ (List.replicate (((mulU (x.length : Int) count).2).toNat) (0 : Int)).drop (min x.length (List.replicate (((mulU (x.length : Int) count).2).toNat) (0 : Int)).length)).length - (min x.length (List.replicate (((mulU (x.length : Int) count).2).toNat) (0 : Int)).length)) + 1) ((min x.length (List.replicate (((mulU (x.length : Int) count).2).toNat) (0 : Int)).length), (x.take (List.replicate (((mulU (x.length : Int) count).2).toNat) (0 : Int)).length ++ (List.replicate (((mulU (x.length : Int) count).2).toNat) (0 : Int)).drop (min x.length (List.replicate (((mulU (x.length : Int) count).2).toNat) (0 : Int)).length))) = c := ⟨_, rfl⟩
      rw [hc66] at hF
      refine TC.loop (ι := Nat × Nat × List Int) (fun (fu1, n1, newslice1) => [(7, v6_2), (8, (.int .i64 (n1 : Int)))]) (fun (fu1, n1, newslice1) => Hp w [rowI 3 v6_2 newslice1]) (fun (fu1, n1, newslice1) => (n1 ≤ newslice1.length) ∧ (0 < n1 ∨ newslice1.length = 0) ∧ (newslice1.length ≤ 1000000) ∧ newslice1.length - n1 < fu1 ∧ F_slices_Repeat_Sint_int_L1  fu1 (n1, newslice1) = c65) (fun (fu1, n1, newslice1) => fu1) (((x.take (List.replicate (((mulU (x.length : Int) count).2).toNat) (0 : Int)).length ++ (List.replicate (((mulU (x.length : Int) count).2).toNat) (0 : Int)).drop (min x.length (List.replicate (((mulU (x.length : Int) count).2).toNat) (0 : Int)).length)).length - (min x.length (List.replicate (((mulU (x.length : Int) count).2).toNat) (0 : Int)).length)) + 1, (min x.length (List.replicate (((mulU (x.length : Int) count).2).toNat) (0 : Int)).length), (x.take (List.replicate (((mulU (x.length : Int) count).2).toNat) (0 : Int)).length ++ (List.replicate (((mulU (x.length : Int) count).2).toNat) (0 : Int)).drop (min x.length (List.replicate (((mulU (x.length : Int) count).2).toNat) (0 : Int)).length))) ⟨(by first | omega | (simp [-List.getD_eq_getElem?_getD] <;> omega)), (by first | omega | (simp [-List.getD_eq_getElem?_getD] <;> omega)), (by first | omega | (simp [-List.getD_eq_getElem?_getD] <;> omega)), (by omega), hc66⟩ ⟨rfl, rfl, trivial⟩ (fun w hw => hw) ?_
      rintro ⟨fu1, n1, newslice1⟩ hJ1
      obtain ⟨hi1_0, hi1_1, hi1_2, hmu1, hL1⟩ : (n1 ≤ newslice1.length) ∧ (0 < n1 ∨ newslice1.length = 0) ∧ (newslice1.length ≤ 1000000) ∧ newslice1.length - n1 < fu1 ∧ F_slices_Repeat_Sint_int_L1  fu1 (n1, newslice1) = c65 := hJ1
      change TC _ _ _ _ (Hp w [rowI 3 v6_2 newslice1]) [(7, v6_2), (8, (.int .i64 (n1 : Int)))]
      obtain ⟨mf1, rfl⟩ : ∃ m, fu1 = m + 1 := ⟨fu1 - 1, by omega⟩
      rw [F_slices_Repeat_Sint_int_L1_s] at hL1
      have hd1 : ((newslice1.take n1).drop 0).length = n1 := by simp; omega
      have hd2 : (newslice1.take n1 ++ ((newslice1.take n1).drop 0).take (newslice1.length - n1) ++ newslice1.drop (n1 + (min ((newslice1.take n1).drop 0).length (newslice1.length - n1)))).length = newslice1.length := by simp; omega
      refine TC.seq ?_
      refine TC.seq ?_
      refine TC.region ?_
      refine TL.op (yq (y_move (ev_t rfl))) rfl rfl rfl ?_
      refine TL.op (yq (y_move (ev_t rfl))) rfl rfl rfl ?_
      refine TL.op (yq (y_len (ev_t rfl) Try.underlying25 (fun w hw => ((ri_row 0 rfl) w hw).ln))) rfl rfl rfl ?_
      refine TL.op (yq (y_lss (ev_t rfl) (ev_t rfl))) rfl rfl rfl ?_
      refine TL.nil ?_
      refine TN.seq ?_
      refine TC.cond (b := decide ((n1 : Int) < (newslice1.length : Int))) (ev_t rfl) (fun h67 => ?_) (fun h67 => ?_)
      · rw [bif_pos h67] at hL1
        have q68 := (of_decide_eq_true h67)
        refine TC.skip ?_
        refine TN.seq ?_
        refine TC.block ?_
        refine TC.mid (fun a' w' => Slots 48 [(7, v6_2), (8, (.int .i64 ((n1 : Int) + ((min ((newslice1.take n1).drop 0).length (newslice1.length - n1)) : Nat))))] a' ∧ Hp w [rowI 3 v6_2 (newslice1.take n1 ++ ((newslice1.take n1).drop 0).take (newslice1.length - n1) ++ newslice1.drop (n1 + (min ((newslice1.take n1).drop 0).length (newslice1.length - n1))))] w') ?_ ?_
        · refine TC.regionH 10 (Hp w []) rfl (by kernel_rfl) dr_hp (fun w hw => Hp.sublist hw (List.nil_sublist _)) ?_
          refine TH.take 0 rfl (by kernel_rfl) (y_move (ev_t rfl)) rfl rfl rfl ?_
          refine TH.take 1 rfl (by kernel_rfl) (y_move (ev_t rfl)) rfl rfl rfl ?_
          refine TH.take 2 rfl (by kernel_rfl) (y_move (ev_t rfl)) rfl rfl rfl ?_
          refine TH.take 4 rfl (by kernel_rfl) (y_move (ev_t rfl)) rfl rfl rfl ?_
          refine TH.take 5 rfl (by kernel_rfl) (y_move (ev_t rfl)) rfl rfl rfl ?_
          refine TH.loud2 3 6 rfl rfl (by kernel_rfl) ?_ ?_
          · have hs73 : n1 ≤ newslice1.length := (by first | omega | (simp only [List.length_set, List.length_append, List.length_cons, List.length_nil, List.length_replicate]; omega) | (rw [sortI_length]; simp only [List.length_cons, List.length_nil]; omega))
            have hs74 : newslice1.length ≤ newslice1.length := (by first | omega | (simp only [List.length_set, List.length_append, List.length_cons, List.length_nil, List.length_replicate]; omega) | (rw [sortI_length]; simp only [List.length_cons, List.length_nil]; omega))
            refine TL.op (yq (y_slice_lo (ev_t rfl) (ev_t rfl) (lo := n1) (by omega) slT_25 (ri_row 0 rfl) hs73)) rfl rfl rfl ?_
            refine TL.nil ?_
            refine TH.back (fun w hw => Hp.sublist hw (List.nil_sublist _)) ?_
            refine TH.loud 6 rfl (by kernel_rfl) ?_
            have hs75 : 0 ≤ n1 := (by first | omega | (simp only [List.length_set, List.length_append, List.length_cons, List.length_nil, List.length_replicate]; omega) | (rw [sortI_length]; simp only [List.length_cons, List.length_nil]; omega))
            have hs76 : n1 ≤ newslice1.length := (by first | omega | (simp only [List.length_set, List.length_append, List.length_cons, List.length_nil, List.length_replicate]; omega) | (rw [sortI_length]; simp only [List.length_cons, List.length_nil]; omega))
            refine TL.op (yq (y_slice_hi (ev_t rfl) (ev_t rfl) (hi := n1) (by omega) slT_25 (ri_row 0 rfl) hs76)) rfl rfl rfl ?_
            refine TL.nil ?_
            refine TH.back (fun w hw => Hp.sublist hw (List.nil_sublist _)) ?_
            refine TH.loud 7 rfl (by kernel_rfl) ?_
            refine TL.copyI 0 (lo := n1) (hi := newslice1.length) (qs := ((newslice1.take n1).drop 0)) (ev_t rfl) (ev_t rfl) rfl slT_25 (fun w hw => ri_resl ((ri_row 0 rfl) w hw) hs75 hs76) hs73 hs74 rfl ?_
            refine TL.nil ?_
            refine TH.back (fun w hw => Hp.sublist hw (List.nil_sublist _)) ?_
            refine TH.take 8 rfl (by kernel_rfl) (y_add (ev_t rfl) (ev_t rfl) (by unfold In64; omega)) rfl rfl rfl ?_
            refine TH.take 9 rfl (by kernel_rfl) (y_assign (ev_t rfl)) rfl rfl rfl ?_
            refine TH.done (by kernel_rfl) ?_
            exact fun a' w' hs hw => ⟨hs.sub ⟨rfl, rfl, trivial⟩, hw⟩
          · have hs77 : 0 ≤ n1 := (by first | omega | (simp only [List.length_set, List.length_append, List.length_cons, List.length_nil, List.length_replicate]; omega) | (rw [sortI_length]; simp only [List.length_cons, List.length_nil]; omega))
            have hs78 : n1 ≤ newslice1.length := (by first | omega | (simp only [List.length_set, List.length_append, List.length_cons, List.length_nil, List.length_replicate]; omega) | (rw [sortI_length]; simp only [List.length_cons, List.length_nil]; omega))
            refine TL.op (yq (y_slice_hi (ev_t rfl) (ev_t rfl) (hi := n1) (by omega) slT_25 (ri_row 0 rfl) hs78)) rfl rfl rfl ?_
            refine TL.nil ?_
            refine TH.back (fun w hw => Hp.sublist hw (List.nil_sublist _)) ?_
            refine TH.loud 3 rfl (by kernel_rfl) ?_
            have hs79 : n1 ≤ newslice1.length := (by first | omega | (simp only [List.length_set, List.length_append, List.length_cons, List.length_nil, List.length_replicate]; omega) | (rw [sortI_length]; simp only [List.length_cons, List.length_nil]; omega))
            have hs80 : newslice1.length ≤ newslice1.length := (by first | omega | (simp only [List.length_set, List.length_append, List.length_cons, List.length_nil, List.length_replicate]; omega) | (rw [sortI_length]; simp only [List.length_cons, List.length_nil]; omega))
            refine TL.op (yq (y_slice_lo (ev_t rfl) (ev_t rfl) (lo := n1) (by omega) slT_25 (ri_row 0 rfl) hs79)) rfl rfl rfl ?_
            refine TL.nil ?_
            refine TH.back (fun w hw => Hp.sublist hw (List.nil_sublist _)) ?_
            refine TH.loud 7 rfl (by kernel_rfl) ?_
            refine TL.copyI 0 (lo := n1) (hi := newslice1.length) (qs := ((newslice1.take n1).drop 0)) (ev_t rfl) (ev_t rfl) rfl slT_25 (fun w hw => ri_resl ((ri_row 0 rfl) w hw) hs77 hs78) hs79 hs80 rfl ?_
            refine TL.nil ?_
            refine TH.back (fun w hw => Hp.sublist hw (List.nil_sublist _)) ?_
            refine TH.take 8 rfl (by kernel_rfl) (y_add (ev_t rfl) (ev_t rfl) (by unfold In64; omega)) rfl rfl rfl ?_
            refine TH.take 9 rfl (by kernel_rfl) (y_assign (ev_t rfl)) rfl rfl rfl ?_
            refine TH.done (by kernel_rfl) ?_
            exact fun a' w' hs hw => ⟨hs.sub ⟨rfl, rfl, trivial⟩, hw⟩
        · rintro a' w' ⟨hs', hw'⟩
          refine (?_ : TN _ .normal 48 (Hp w [rowI 3 v6_2 (newslice1.take n1 ++ ((newslice1.take n1).drop 0).take (newslice1.length - n1) ++ newslice1.drop (n1 + (min ((newslice1.take n1).drop 0).length (newslice1.length - n1))))]) [(7, v6_2), (8, (.int .i64 ((n1 : Int) + ((min ((newslice1.take n1).drop 0).length (newslice1.length - n1)) : Nat))))]) a' w' hs' hw'
          clear hs' hw'
          refine TN.blockN ?_
          exact TN.hand (mf1, (n1 + (min ((newslice1.take n1).drop 0).length (newslice1.length - n1))), (newslice1.take n1 ++ ((newslice1.take n1).drop 0).take (newslice1.length - n1) ++ newslice1.drop (n1 + (min ((newslice1.take n1).drop 0).length (newslice1.length - n1))))) ⟨(by first | omega | (simp [-List.getD_eq_getElem?_getD] <;> omega)), (by first | omega | (simp [-List.getD_eq_getElem?_getD] <;> omega)), (by first | omega | (simp [-List.getD_eq_getElem?_getD] <;> omega)), (by omega), hL1⟩ (Nat.lt_succ_self _) ⟨rfl, rfl, trivial⟩ (fun w hw => hw)
      · rw [bif_neg h67] at hL1
        have q68 := (of_decide_eq_false h67)
        refine TC.exit ?_
        refine TN.thenE ?_
        refine TN.thenE ?_
        rw [← hL1, elim_next] at hF
        try dsimp only at hF
        refine TN.blockH ?_
        refine TN.seq ?_
        refine TC.seq ?_
        refine TC.region ?_
        refine TL.op (yq (y_move (ev_t rfl))) rfl rfl rfl ?_
        refine TL.op (yq (y_assign (ev_t rfl))) rfl rfl rfl ?_
        refine TL.nil ?_
        refine TN.seq ?_
        refine TC.ret ?_
        subst hF
        exact TN.ret1 rfl (ev_t rfl) (fun w' hw => ⟨v6_2, rfl, hw⟩)

set_option maxRecDepth 4000 in
set_option maxHeartbeats 1000000 in
theorem cmp_Compare_int_ok (w : World) (x : Int) (y : Int)  :
    Calls Try.prog 127 ([(.int .i64 x), (.int .i64 y)] : List Value).toArray w (Ret (.int .i64 (F_cmp_Compare_int x y)) (Hp w [])) := by
  obtain ⟨rz, hF⟩ : ∃ rz, (F_cmp_Compare_int x y) = rz := ⟨_, rfl⟩
  rw [hF]
  unfold F_cmp_Compare_int at hF
  refine calls_tc Try.func127 rfl rfl rfl ?_
  change TC _ _ _ _ (Hp w []) [(0, (.int .i64 x)), (1, (.int .i64 y))]
  refine TC.seq ?_
  refine TC.region ?_
  refine TL.op (yq (y_assign ev_c)) rfl rfl rfl ?_
  refine TL.nil ?_
  refine TN.seq ?_
  refine TC.seq ?_
  refine TC.region ?_
  refine TL.op (yq (y_move (ev_t rfl))) rfl rfl rfl ?_
  refine TL.op (y_call (vs := [(.int .i64 x)]) (v := (.bool (!decide (x = x)))) en_140 ⟨(ev_t rfl), trivial⟩ (fun w hw => cmp_isNaN_int_ok w x)) rfl rfl rfl ?_
  refine TL.op (yq (y_assign (ev_t rfl))) rfl rfl rfl ?_
  refine TL.nil ?_
  refine TN.seq ?_
  refine TC.seq ?_
  refine TC.region ?_
  refine TL.op (yq (y_move (ev_t rfl))) rfl rfl rfl ?_
  refine TL.op (y_call (vs := [(.int .i64 y)]) (v := (.bool (!decide (y = y)))) en_140 ⟨(ev_t rfl), trivial⟩ (fun w hw => cmp_isNaN_int_ok w y)) rfl rfl rfl ?_
  refine TL.op (yq (y_assign (ev_t rfl))) rfl rfl rfl ?_
  refine TL.nil ?_
  refine TN.seq ?_
  refine TC.seq ?_
  refine TC.seq ?_
  refine TC.region ?_
  refine TL.op (yq (y_move (ev_t rfl))) rfl rfl rfl ?_
  refine TL.nil ?_
  refine TN.seq ?_
  refine TC.cond (b := !decide (x = x)) (ev_t rfl) (fun h11 => ?_) (fun h11 => ?_)
  · rw [bif_pos h11] at hF
    have q12 := (of_decide_eq_false (not_t h11))
    refine TC.seq ?_
    refine TC.seq ?_
    refine TC.region ?_
    refine TL.op (yq (y_move (ev_t rfl))) rfl rfl rfl ?_
    refine TL.nil ?_
    refine TN.seq ?_
    refine TC.cond (b := !decide (y = y)) (ev_t rfl) (fun h13 => ?_) (fun h13 => ?_)
    · rw [bif_pos h13] at hF
      have q14 := (of_decide_eq_false (not_t h13))
      refine TC.seq ?_
      refine TC.region ?_
      refine TL.op (yq (y_assign ev_c)) rfl rfl rfl ?_
      refine TL.nil ?_
      refine TN.seq ?_
      refine TC.ret ?_
      refine TN.thenR ?_
      refine TN.thenR ?_
      subst hF
      exact TN.ret1 rfl (ev_t rfl) (fun w' hw => ⟨rfl, hw⟩)
    · rw [bif_neg h13] at hF
      have q14 := (of_decide_eq_true (not_f h13))
      refine TC.skip ?_
      refine TN.seq ?_
      refine TC.seq ?_
      refine TC.region ?_
      refine TL.op (yq (y_assign ev_c)) rfl rfl rfl ?_
      refine TL.nil ?_
      refine TN.seq ?_
      refine TC.ret ?_
      refine TN.thenR ?_
      subst hF
      exact TN.ret1 rfl (ev_t rfl) (fun w' hw => ⟨rfl, hw⟩)
  · rw [bif_neg h11] at hF
    have q12 := (of_decide_eq_true (not_f h11))
    refine TC.skip ?_
    refine TN.seq ?_
    refine TC.seq ?_
    refine TC.seq ?_
    refine TC.region ?_
    refine TL.op (yq (y_move (ev_t rfl))) rfl rfl rfl ?_
    refine TL.nil ?_
    refine TN.seq ?_
    refine TC.cond (b := !decide (y = y)) (ev_t rfl) (fun h15 => ?_) (fun h15 => ?_)
    · rw [bif_pos h15] at hF
      have q16 := (of_decide_eq_false (not_t h15))
      refine TC.seq ?_
      refine TC.region ?_
      refine TL.op (yq (y_assign ev_c)) rfl rfl rfl ?_
      refine TL.nil ?_
      refine TN.seq ?_
      refine TC.ret ?_
      refine TN.thenR ?_
      subst hF
      exact TN.ret1 rfl (ev_t rfl) (fun w' hw => ⟨rfl, hw⟩)
    · rw [bif_neg h15] at hF
      have q16 := (of_decide_eq_true (not_f h15))
      refine TC.skip ?_
      refine TN.seq ?_
      refine TC.seq ?_
      refine TC.seq ?_
      refine TC.region ?_
      refine TL.op (yq (y_move (ev_t rfl))) rfl rfl rfl ?_
      refine TL.op (yq (y_move (ev_t rfl))) rfl rfl rfl ?_
      refine TL.op (yq (y_lss (ev_t rfl) (ev_t rfl))) rfl rfl rfl ?_
      refine TL.nil ?_
      refine TN.seq ?_
      refine TC.cond (b := decide (x < y)) (ev_t rfl) (fun h17 => ?_) (fun h17 => ?_)
      · rw [bif_pos h17] at hF
        have q18 := (of_decide_eq_true h17)
        refine TC.seq ?_
        refine TC.region ?_
        refine TL.op (yq (y_assign ev_c)) rfl rfl rfl ?_
        refine TL.nil ?_
        refine TN.seq ?_
        refine TC.ret ?_
        refine TN.thenR ?_
        subst hF
        exact TN.ret1 rfl (ev_t rfl) (fun w' hw => ⟨rfl, hw⟩)
      · rw [bif_neg h17] at hF
        have q18 := (of_decide_eq_false h17)
        refine TC.skip ?_
        refine TN.seq ?_
        refine TC.seq ?_
        refine TC.seq ?_
        refine TC.region ?_
        refine TL.op (yq (y_move (ev_t rfl))) rfl rfl rfl ?_
        refine TL.op (yq (y_move (ev_t rfl))) rfl rfl rfl ?_
        refine TL.op (yq (y_gtr (ev_t rfl) (ev_t rfl))) rfl rfl rfl ?_
        refine TL.nil ?_
        refine TN.seq ?_
        refine TC.cond (b := decide (y < x)) (ev_t rfl) (fun h19 => ?_) (fun h19 => ?_)
        · rw [bif_pos h19] at hF
          have q20 := (of_decide_eq_true h19)
          refine TC.seq ?_
          refine TC.region ?_
          refine TL.op (yq (y_assign ev_c)) rfl rfl rfl ?_
          refine TL.nil ?_
          refine TN.seq ?_
          refine TC.ret ?_
          refine TN.thenR ?_
          subst hF
          exact TN.ret1 rfl (ev_t rfl) (fun w' hw => ⟨rfl, hw⟩)
        · rw [bif_neg h19] at hF
          have q20 := (of_decide_eq_false h19)
          refine TC.skip ?_
          refine TN.seq ?_
          refine TC.seq ?_
          refine TC.region ?_
          refine TL.op (yq (y_assign ev_c)) rfl rfl rfl ?_
          refine TL.nil ?_
          refine TN.seq ?_
          refine TC.ret ?_
          subst hF
          exact TN.ret1 rfl (ev_t rfl) (fun w' hw => ⟨rfl, hw⟩)

set_option maxRecDepth 4000 in
set_option maxHeartbeats 1000000 in
theorem slices_Compare_Sint_int_ok (w : World) (vs1 : Value) (s1 : List Int) (hs1 : RI w vs1 s1) (vs2 : Value) (s2 : List Int) (hs2 : RI w vs2 s2)  :
    Calls Try.prog 109 ([vs1, vs2] : List Value).toArray w (Ret (.int .i64 (F_slices_Compare_Sint_int s1 s2)) (Hp w [])) := by
  obtain ⟨rz, hF⟩ : ∃ rz, (F_slices_Compare_Sint_int s1 s2) = rz := ⟨_, rfl⟩
  rw [hF]
  unfold F_slices_Compare_Sint_int at hF
  have hlen_s1 := arg_len hs1
  have hlen_s2 := arg_len hs2
  refine calls_tc Try.func109 rfl rfl rfl ?_
  change TC _ _ _ _ (Hp w []) [(0, vs1), (1, vs2)]
  refine TC.seq ?_
  refine TC.region ?_
  refine TL.op (yq (y_assign ev_c)) rfl rfl rfl ?_
  refine TL.nil ?_
  refine TN.seq ?_
  refine TC.seq ?_
  refine TC.seq ?_
  refine TC.region ?_
  refine TL.op (yq (y_move (ev_t rfl))) rfl rfl rfl ?_
  refine TL.op (yq (y_len (ev_t rfl) Try.underlying25 (fun w hw => ((ri_arg hs1) w hw).ln))) rfl rfl rfl ?_
  refine TL.op (yq (y_move ev_c)) rfl rfl rfl ?_
  refine TL.nil ?_
  refine TN.seq ?_
  refine TC.block ?_
  obtain ⟨c19, hc20⟩ : ∃ c, F_slices_Compare_Sint_int_L1 s1 s2 ((s1.length - 0) + 1) 0 = c := ⟨_, rfl⟩
  rw [hc20] at hF
  refine TC.loop (ι := Nat × Nat) (fun (fu1, k11_1) => [(0, vs1), (1, vs2), (9, vs1), (10, (.int .i64 (s1.length : Int))), (11, (.int .i64 (k11_1 : Int)))]) (fun (fu1, k11_1) => Hp w []) (fun (fu1, k11_1) => (k11_1 ≤ s1.length) ∧ s1.length - k11_1 < fu1 ∧ F_slices_Compare_Sint_int_L1 s1 s2 fu1 k11_1 = c19) (fun (fu1, k11_1) => fu1) ((s1.length - 0) + 1, 0) ⟨(by first | omega | (simp [-List.getD_eq_getElem?_getD] <;> omega)), (by omega), hc20⟩ ⟨rfl, rfl, rfl, rfl, rfl, trivial⟩ (fun w hw => hw) ?_
  rintro ⟨fu1, k11_1⟩ hJ1
  obtain ⟨hi1_0, hmu1, hL1⟩ : (k11_1 ≤ s1.length) ∧ s1.length - k11_1 < fu1 ∧ F_slices_Compare_Sint_int_L1 s1 s2 fu1 k11_1 = c19 := hJ1
  change TC _ _ _ _ (Hp w []) [(0, vs1), (1, vs2), (9, vs1), (10, (.int .i64 (s1.length : Int))), (11, (.int .i64 (k11_1 : Int)))]
  obtain ⟨mf1, rfl⟩ : ∃ m, fu1 = m + 1 := ⟨fu1 - 1, by omega⟩
  rw [F_slices_Compare_Sint_int_L1_s] at hL1
  refine TC.seq ?_
  refine TC.region ?_
  refine TL.op (yq (y_lss (ev_t rfl) (ev_t rfl))) rfl rfl rfl ?_
  refine TL.nil ?_
  refine TN.seq ?_
  refine TC.seq ?_
  refine TC.cond (b := decide ((k11_1 : Int) < (s1.length : Int))) (ev_t rfl) (fun h21 => ?_) (fun h21 => ?_)
  · rw [bif_pos h21] at hL1
    have q22 := (of_decide_eq_true h21)
    refine TC.skip ?_
    refine TN.seq ?_
    refine TC.seq ?_
    refine TC.block ?_
    refine TC.seq ?_
    refine TC.region ?_
    refine TL.op (yq (y_move (ev_t rfl))) rfl rfl rfl ?_
    have hb23 : k11_1 < s1.length := (by first | omega | (simp only [List.length_set, List.length_append, List.length_cons, List.length_nil, List.length_replicate]; omega) | (rw [sortI_length]; simp only [List.length_cons, List.length_nil]; omega))
    refine TL.op (yq (y_idx (k := k11_1) (ev_t rfl) (ev_t rfl) (by first | omega | simp) slT_25 (ri_arg hs1) hb23)) rfl rfl rfl ?_
    refine TL.op (yq (y_ldi (ev_t rfl) one_3 (ri_arg hs1) hb23)) rfl rfl rfl ?_
    refine TL.op (yq (y_assign (ev_t rfl))) rfl rfl rfl ?_
    refine TL.op (yq (y_assign (ev_t rfl))) rfl rfl rfl ?_
    refine TL.nil ?_
    refine TN.seq ?_
    refine TC.seq ?_
    refine TC.seq ?_
    refine TC.region ?_
    refine TL.op (yq (y_move (ev_t rfl))) rfl rfl rfl ?_
    refine TL.op (yq (y_move (ev_t rfl))) rfl rfl rfl ?_
    refine TL.op (yq (y_len (ev_t rfl) Try.underlying25 (fun w hw => ((ri_arg hs2) w hw).ln))) rfl rfl rfl ?_
    refine TL.op (yq (y_geq (ev_t rfl) (ev_t rfl))) rfl rfl rfl ?_
    refine TL.nil ?_
    refine TN.seq ?_
    refine TC.cond (b := decide ((s2.length : Int) ≤ (k11_1 : Int))) (ev_t rfl) (fun h24 => ?_) (fun h24 => ?_)
    · rw [bif_pos h24] at hL1
      have q25 := (of_decide_eq_true h24)
      refine TC.seq ?_
      refine TC.region ?_
      refine TL.op (yq (y_assign ev_c)) rfl rfl rfl ?_
      refine TL.nil ?_
      refine TN.seq ?_
      refine TC.ret ?_
      refine TN.thenR ?_
      refine TN.blockR ?_
      refine TN.thenR ?_
      refine TN.thenR ?_
      rw [← hL1, elim_ret] at hF
      refine TN.blockR ?_
      refine TN.thenR ?_
      subst hF
      exact TN.ret1 rfl (ev_t rfl) (fun w' hw => ⟨rfl, hw⟩)
    · rw [bif_neg h24] at hL1
      have q25 := (of_decide_eq_false h24)
      refine TC.skip ?_
      refine TN.seq ?_
      refine TC.seq ?_
      refine TC.region ?_
      refine TL.op (yq (y_move (ev_t rfl))) rfl rfl rfl ?_
      refine TL.op (yq (y_move (ev_t rfl))) rfl rfl rfl ?_
      have hb26 : k11_1 < s2.length := (by first | omega | (simp only [List.length_set, List.length_append, List.length_cons, List.length_nil, List.length_replicate]; omega) | (rw [sortI_length]; simp only [List.length_cons, List.length_nil]; omega))
      refine TL.op (yq (y_idx (k := k11_1) (ev_t rfl) (ev_t rfl) (by first | omega | simp) slT_25 (ri_arg hs2) hb26)) rfl rfl rfl ?_
      refine TL.op (yq (y_ldi (ev_t rfl) one_3 (ri_arg hs2) hb26)) rfl rfl rfl ?_
      refine TL.op (yq (y_assign (ev_t rfl))) rfl rfl rfl ?_
      refine TL.nil ?_
      refine TN.seq ?_
      refine TC.seq ?_
      refine TC.region ?_
      refine TL.op (yq (y_move (ev_t rfl))) rfl rfl rfl ?_
      refine TL.op (yq (y_move (ev_t rfl))) rfl rfl rfl ?_
      refine TL.op (y_call (vs := [(.int .i64 (s1.getD k11_1 0)), (.int .i64 (s2.getD k11_1 0))]) (v := (.int .i64 (F_cmp_Compare_int (s1.getD k11_1 0) (s2.getD k11_1 0)))) en_127 ⟨(ev_t rfl), (ev_t rfl), trivial⟩ (fun w hw => cmp_Compare_int_ok w (s1.getD k11_1 0) (s2.getD k11_1 0))) rfl rfl rfl ?_
      refine TL.op (yq (y_assign (ev_t rfl))) rfl rfl rfl ?_
      refine TL.nil ?_
      refine TN.seq ?_
      refine TC.seq ?_
      refine TC.region ?_
      refine TL.op (yq (y_move (ev_t rfl))) rfl rfl rfl ?_
      refine TL.op (yq (y_neq (ev_t rfl) ev_c)) rfl rfl rfl ?_
      refine TL.nil ?_
      refine TN.seq ?_
      refine TC.cond (b := !decide ((F_cmp_Compare_int (s1.getD k11_1 0) (s2.getD k11_1 0)) = 0)) (ev_t rfl) (fun h27 => ?_) (fun h27 => ?_)
      · rw [bif_pos h27] at hL1
        have q28 := (of_decide_eq_false (not_t h27))
        refine TC.seq ?_
        refine TC.region ?_
        refine TL.op (yq (y_move (ev_t rfl))) rfl rfl rfl ?_
        refine TL.op (yq (y_assign (ev_t rfl))) rfl rfl rfl ?_
        refine TL.nil ?_
        refine TN.seq ?_
        refine TC.ret ?_
        refine TN.blockR ?_
        refine TN.thenR ?_
        refine TN.thenR ?_
        rw [← hL1, elim_ret] at hF
        refine TN.blockR ?_
        refine TN.thenR ?_
        subst hF
        exact TN.ret1 rfl (ev_t rfl) (fun w' hw => ⟨rfl, hw⟩)
      · rw [bif_neg h27] at hL1
        have q28 := (of_decide_eq_true (not_f h27))
        refine TC.skip ?_
        refine TN.blockN ?_
        refine TN.seq ?_
        refine TC.region ?_
        refine TL.op (yq (y_add (ev_t rfl) ev_c (by unfold In64; omega))) rfl rfl rfl ?_
        refine TL.op (yq (y_move (ev_t rfl))) rfl rfl rfl ?_
        refine TL.nil ?_
        exact TN.hand (mf1, (k11_1 + 1)) ⟨(by first | omega | (simp [-List.getD_eq_getElem?_getD] <;> omega)), (by omega), hL1⟩ (Nat.lt_succ_self _) ⟨rfl, rfl, rfl, rfl, rfl, trivial⟩ (fun w hw => hw)
  · rw [bif_neg h21] at hL1
    have q22 := (of_decide_eq_false h21)
    refine TC.exit ?_
    refine TN.thenE ?_
    refine TN.thenE ?_
    rw [← hL1, elim_next] at hF
    try dsimp only at hF
    refine TN.blockH ?_
    refine TN.seq ?_
    refine TC.seq ?_
    refine TC.seq ?_
    refine TC.region ?_
    refine TL.op (yq (y_move (ev_t rfl))) rfl rfl rfl ?_
    refine TL.op (yq (y_len (ev_t rfl) Try.underlying25 (fun w hw => ((ri_arg hs1) w hw).ln))) rfl rfl rfl ?_
    refine TL.op (yq (y_move (ev_t rfl))) rfl rfl rfl ?_
    refine TL.op (yq (y_len (ev_t rfl) Try.underlying25 (fun w hw => ((ri_arg hs2) w hw).ln))) rfl rfl rfl ?_
    refine TL.op (yq (y_lss (ev_t rfl) (ev_t rfl))) rfl rfl rfl ?_
    refine TL.nil ?_
    refine TN.seq ?_
    refine TC.cond (b := decide ((s1.length : Int) < (s2.length : Int))) (ev_t rfl) (fun h29 => ?_) (fun h29 => ?_)
    · rw [bif_pos h29] at hF
      have q30 := (of_decide_eq_true h29)
      refine TC.seq ?_
      refine TC.region ?_
      refine TL.op (yq (y_assign ev_c)) rfl rfl rfl ?_
      refine TL.nil ?_
      refine TN.seq ?_
      refine TC.ret ?_
      refine TN.thenR ?_
      subst hF
      exact TN.ret1 rfl (ev_t rfl) (fun w' hw => ⟨rfl, hw⟩)
    · rw [bif_neg h29] at hF
      have q30 := (of_decide_eq_false h29)
      refine TC.skip ?_
      refine TN.seq ?_
      refine TC.seq ?_
      refine TC.region ?_
      refine TL.op (yq (y_assign ev_c)) rfl rfl rfl ?_
      refine TL.nil ?_
      refine TN.seq ?_
      refine TC.ret ?_
      subst hF
      exact TN.ret1 rfl (ev_t rfl) (fun w' hw => ⟨rfl, hw⟩)

set_option maxRecDepth 4000 in
set_option maxHeartbeats 1000000 in
theorem impl_works_index_1_ok (w : World) (vb : Value) (b : List Int) (hb : RI w vb b) (vc : Value) (c : List Int) (hc : RI w vc c)  :
    Calls Try.prog 108 ([vb, vc] : List Value).toArray w (Ret (.int .i64 (F_impl_works_index_1 b c)) (Hp w [])) := by
  obtain ⟨rz, hF⟩ : ∃ rz, (F_impl_works_index_1 b c) = rz := ⟨_, rfl⟩
  rw [hF]
  unfold F_impl_works_index_1 at hF
  have hlen_b := arg_len hb
  have hlen_c := arg_len hc
  refine calls_tc Try.func108 rfl rfl rfl ?_
  change TC _ _ _ _ (Hp w []) [(0, vb), (1, vc)]
  refine TC.seq ?_
  refine TC.region ?_
  refine TL.op (yq (y_assign ev_c)) rfl rfl rfl ?_
  refine TL.nil ?_
  refine TN.seq ?_
  refine TC.seq ?_
  refine TC.region ?_
  refine TL.op (yq (y_move (ev_t rfl))) rfl rfl rfl ?_
  refine TL.op (yq (y_move (ev_t rfl))) rfl rfl rfl ?_
  refine TL.op (y_call (vs := [vb, vc]) (v := (.int .i64 (F_slices_Compare_Sint_int b c))) en_109 ⟨(ev_t rfl), (ev_t rfl), trivial⟩ (fun w hw => slices_Compare_Sint_int_ok w vb b ((ri_arg hb) w hw) vc c ((ri_arg hc) w hw))) rfl rfl rfl ?_
  refine TL.op (yq (y_assign (ev_t rfl))) rfl rfl rfl ?_
  refine TL.nil ?_
  refine TN.seq ?_
  refine TC.ret ?_
  subst hF
  exact TN.ret1 rfl (ev_t rfl) (fun w' hw => ⟨rfl, hw⟩)

set_option maxRecDepth 4000 in
set_option maxHeartbeats 1000000 in
theorem slices_BinarySearchFunc_SSint_Sint_Sint_ok (w : World) (vx : Value) (ux : List Value) (x : List (List Int)) (hx : RII w vx ux x) (vtgt : Value) (tgt : List Int) (htgt : RI w vtgt tgt) (kf : Nat) (cf : List Value) (f : List Int → List Int → Int) (ef : En Try.prog kf) (hf : ∀ (w' : World) (_ : Below w.heap.size w w') (vx0 : Value) (x0 : List Int) (_ : RI w' vx0 x0) (vx1 : Value) (x1 : List Int) (_ : RI w' vx1 x1), Calls Try.prog kf ([vx0, vx1] ++ cf : List Value).toArray w' (Ret (.int .i64 (f x0 x1)) (Hp w' []))) (hp0 : x.length ≤ 1000000) :
    Calls Try.prog 107 ([vx, vtgt, (.func (.func kf) #[] cf.toArray)] : List Value).toArray w (Ret (.tuple #[(.int .i64 ((F_slices_BinarySearchFunc_SSint_Sint_Sint x tgt f).1)), (.bool ((F_slices_BinarySearchFunc_SSint_Sint_Sint x tgt f).2))]) (Hp w [])) := by
  obtain ⟨rz, hF⟩ : ∃ rz, (F_slices_BinarySearchFunc_SSint_Sint_Sint x tgt f) = rz := ⟨_, rfl⟩
  rw [hF]
  unfold F_slices_BinarySearchFunc_SSint_Sint_Sint at hF
  have hlen_x := argT_len hx
  have hlen_tgt := arg_len htgt
  refine calls_tc Try.func107 rfl rfl rfl ?_
  change TC _ _ _ _ (Hp w []) [(0, vx), (1, vtgt), (2, (.func (.func kf) #[] cf.toArray))]
  refine TC.seq ?_
  refine TC.region ?_
  refine TL.op (yq (y_assign ev_c)) rfl rfl rfl ?_
  refine TL.op (yq (y_assign ev_c)) rfl rfl rfl ?_
  refine TL.nil ?_
  refine TN.seq ?_
  refine TC.seq ?_
  refine TC.region ?_
  refine TL.op (yq (y_move (ev_t rfl))) rfl rfl rfl ?_
  refine TL.op (yq (y_len (ev_t rfl) Try.underlying22 (fun w hw => ((fun w hw => ((rii_arg hx) w hw).1) w hw).ln))) rfl rfl rfl ?_
  refine TL.op (yq (y_assign (ev_t rfl))) rfl rfl rfl ?_
  refine TL.nil ?_
  refine TN.seq ?_
  refine TC.seq ?_
  refine TC.region ?_
  refine TL.op (yq (y_move (ev_t rfl))) rfl rfl rfl ?_
  refine TL.op (yq (y_assign ev_c)) rfl rfl rfl ?_
  refine TL.op (yq (y_assign (ev_t rfl))) rfl rfl rfl ?_
  refine TL.nil ?_
  refine TN.seq ?_
  refine TC.seq ?_
  refine TC.block ?_
  obtain ⟨c13, hc14⟩ : ∃ c, F_slices_BinarySearchFunc_SSint_Sint_Sint_L1 x tgt f ((x.length - 0) + 1) (0, x.length) = c := ⟨_, rfl⟩
  rw [hc14] at hF
  refine TC.loop (ι := Nat × Nat × Nat) (fun (fu1, i1, j1) => [(0, vx), (1, vtgt), (2, (.func (.func kf) #[] cf.toArray)), (8, (.int .i64 (x.length : Int))), (9, (.int .i64 (i1 : Int))), (10, (.int .i64 (j1 : Int)))]) (fun (fu1, i1, j1) => Hp w []) (fun (fu1, i1, j1) => (i1 ≤ j1) ∧ (j1 ≤ x.length) ∧ j1 - i1 < fu1 ∧ F_slices_BinarySearchFunc_SSint_Sint_Sint_L1 x tgt f fu1 (i1, j1) = c13) (fun (fu1, i1, j1) => fu1) ((x.length - 0) + 1, 0, x.length) ⟨(by first | omega | (simp [-List.getD_eq_getElem?_getD] <;> omega)), (by first | omega | (simp [-List.getD_eq_getElem?_getD] <;> omega)), (by omega), hc14⟩ ⟨rfl, rfl, rfl, rfl, rfl, rfl, trivial⟩ (fun w hw => hw) ?_
  rintro ⟨fu1, i1, j1⟩ hJ1
  obtain ⟨hi1_0, hi1_1, hmu1, hL1⟩ : (i1 ≤ j1) ∧ (j1 ≤ x.length) ∧ j1 - i1 < fu1 ∧ F_slices_BinarySearchFunc_SSint_Sint_Sint_L1 x tgt f fu1 (i1, j1) = c13 := hJ1
  change TC _ _ _ _ (Hp w []) [(0, vx), (1, vtgt), (2, (.func (.func kf) #[] cf.toArray)), (8, (.int .i64 (x.length : Int))), (9, (.int .i64 (i1 : Int))), (10, (.int .i64 (j1 : Int)))]
  obtain ⟨mf1, rfl⟩ : ∃ m, fu1 = m + 1 := ⟨fu1 - 1, by omega⟩
  rw [F_slices_BinarySearchFunc_SSint_Sint_Sint_L1_s] at hL1
  refine TC.seq ?_
  refine TC.seq ?_
  refine TC.region ?_
  refine TL.op (yq (y_move (ev_t rfl))) rfl rfl rfl ?_
  refine TL.op (yq (y_move (ev_t rfl))) rfl rfl rfl ?_
  refine TL.op (yq (y_lss (ev_t rfl) (ev_t rfl))) rfl rfl rfl ?_
  refine TL.nil ?_
  refine TN.seq ?_
  refine TC.cond (b := decide ((i1 : Int) < (j1 : Int))) (ev_t rfl) (fun h15 => ?_) (fun h15 => ?_)
  · rw [bif_pos h15] at hL1
    have q16 := (of_decide_eq_true h15)
    refine TC.skip ?_
    refine TN.seq ?_
    refine TC.block ?_
    refine TC.seq ?_
    refine TC.region ?_
    refine TL.op (yq (y_move (ev_t rfl))) rfl rfl rfl ?_
    refine TL.op (yq (y_move (ev_t rfl))) rfl rfl rfl ?_
    refine TL.op (yq (y_add (ev_t rfl) (ev_t rfl) (by unfold In64; omega))) rfl rfl rfl ?_
    refine TL.op (yq (y_conv_u64 (ev_t rfl) Try.underlying3 Try.underlying106 (by first | omega | (simp only [List.length_set, List.length_append, List.length_cons, List.length_nil, List.length_replicate]; omega) | (rw [sortI_length]; simp only [List.length_cons, List.length_nil]; omega)))) rfl rfl rfl ?_
    refine TL.op (yq (y_shr1 (ev_t rfl) ev_c (by first | omega | (simp only [List.length_set, List.length_append, List.length_cons, List.length_nil, List.length_replicate]; omega) | (rw [sortI_length]; simp only [List.length_cons, List.length_nil]; omega)))) rfl rfl rfl ?_
    refine TL.op (yq (y_conv_i64 (ev_t rfl) Try.underlying106 Try.underlying3 (by first | omega | (simp only [List.length_set, List.length_append, List.length_cons, List.length_nil, List.length_replicate]; omega) | (rw [sortI_length]; simp only [List.length_cons, List.length_nil]; omega)))) rfl rfl rfl ?_
    refine TL.op (yq (y_assign (ev_t rfl))) rfl rfl rfl ?_
    refine TL.nil ?_
    refine TN.seq ?_
    refine TC.seq ?_
    refine TC.region ?_
    refine TL.op (yq (y_move (ev_t rfl))) rfl rfl rfl ?_
    refine TL.op (yq (y_move (ev_t rfl))) rfl rfl rfl ?_
    refine TL.op (yq (y_move (ev_t rfl))) rfl rfl rfl ?_
    have hb17 : ((i1 + j1) / 2) < x.length := (by first | omega | (simp only [List.length_set, List.length_append, List.length_cons, List.length_nil, List.length_replicate]; omega) | (rw [sortI_length]; simp only [List.length_cons, List.length_nil]; omega))
    refine TL.op (yq (y_idx (k := ((i1 + j1) / 2)) (ev_t rfl) (ev_t rfl) (by first | omega | simp) slT_22 (fun w hw => ((rii_arg hx) w hw).1) hb17)) rfl rfl rfl ?_
    have ha18 := hx.row (i := ((i1 + j1) / 2)) hb17
    refine TL.op (yq (y_ldA (ev_t rfl) one_25 (rii_arg hx) hb17)) rfl rfl rfl ?_
    refine TL.op (yq (y_move (ev_t rfl))) rfl rfl rfl ?_
    refine TL.op (y_callv (vs := [(ux.getD ((i1 + j1) / 2) undef), vtgt]) (v := (.int .i64 (f (x.getD ((i1 + j1) / 2) []) tgt))) ef (ev_t rfl) ⟨(ev_t rfl), (ev_t rfl), trivial⟩ (fun w hw => hf w hw.1 (ux.getD ((i1 + j1) / 2) undef) (x.getD ((i1 + j1) / 2) []) ((ri_arg ha18) w hw) vtgt tgt ((ri_arg htgt) w hw))) rfl rfl rfl ?_
    refine TL.op (yq (y_lss (ev_t rfl) ev_c)) rfl rfl rfl ?_
    refine TL.nil ?_
    refine TN.seq ?_
    refine TC.cond (b := decide ((f (x.getD ((i1 + j1) / 2) []) tgt) < 0)) (ev_t rfl) (fun h19 => ?_) (fun h19 => ?_)
    · rw [bif_pos h19] at hL1
      have q20 := (of_decide_eq_true h19)
      refine TC.region ?_
      refine TL.op (yq (y_move (ev_t rfl))) rfl rfl rfl ?_
      refine TL.op (yq (y_add (ev_t rfl) ev_c (by unfold In64; omega))) rfl rfl rfl ?_
      refine TL.op (yq (y_assign (ev_t rfl))) rfl rfl rfl ?_
      refine TL.nil ?_
      refine TN.blockN ?_
      exact TN.hand (mf1, (((i1 + j1) / 2) + 1), j1) ⟨(by first | omega | (simp [-List.getD_eq_getElem?_getD] <;> omega)), (by first | omega | (simp [-List.getD_eq_getElem?_getD] <;> omega)), (by omega), hL1⟩ (Nat.lt_succ_self _) ⟨rfl, rfl, rfl, rfl, rfl, rfl, trivial⟩ (fun w hw => hw)
    · rw [bif_neg h19] at hL1
      have q20 := (of_decide_eq_false h19)
      refine TC.region ?_
      refine TL.op (yq (y_move (ev_t rfl))) rfl rfl rfl ?_
      refine TL.op (yq (y_assign (ev_t rfl))) rfl rfl rfl ?_
      refine TL.nil ?_
      refine TN.blockN ?_
      exact TN.hand (mf1, i1, ((i1 + j1) / 2)) ⟨(by first | omega | (simp [-List.getD_eq_getElem?_getD] <;> omega)), (by first | omega | (simp [-List.getD_eq_getElem?_getD] <;> omega)), (by omega), hL1⟩ (Nat.lt_succ_self _) ⟨rfl, rfl, rfl, rfl, rfl, rfl, trivial⟩ (fun w hw => hw)
  · rw [bif_neg h15] at hL1
    have q16 := (of_decide_eq_false h15)
    refine TC.exit ?_
    refine TN.thenE ?_
    refine TN.thenE ?_
    rw [← hL1, elim_next] at hF
    try dsimp only at hF
    refine TN.blockH ?_
    refine TN.seq ?_
    refine TC.seq ?_
    refine TC.region ?_
    refine TL.op (yq (y_move (ev_t rfl))) rfl rfl rfl ?_
    refine TL.op (yq (y_move (ev_t rfl))) rfl rfl rfl ?_
    refine TL.op (yq (y_move (ev_t rfl))) rfl rfl rfl ?_
    refine TL.op (yq (y_lss (ev_t rfl) (ev_t rfl))) rfl rfl rfl ?_
    refine TL.op (yq (y_move (ev_t rfl))) rfl rfl rfl ?_
    refine TL.opw (w_t rfl rfl rfl) (fun hg => yq (y_move (ev_t rfl))) rfl rfl ?_
    refine TL.opw (w_t rfl rfl rfl) (fun hg => yq (y_move (ev_t rfl))) rfl rfl ?_
    refine TL.opw (w_t rfl rfl rfl) (fun hg => yq (y_move (ev_t rfl))) rfl rfl ?_
    refine TL.opw (w_t rfl rfl rfl) (fun hg => yq (y_idx (k := i1) (ev_g rfl hg) (ev_g rfl hg) (by first | omega | simp) slT_22 (fun w hw => ((rii_arg hx) w hw).1) (show i1 < x.length by have hgf := (of_decide_eq_true hg); omega))) rfl rfl ?_
    refine TL.opw (w_t rfl rfl rfl) (fun hg => yq (y_ldA (ev_g rfl hg) one_25 (rii_arg hx) (show i1 < x.length by have hgf := (of_decide_eq_true hg); omega))) rfl rfl ?_
    refine TL.opw (w_t rfl rfl rfl) (fun hg => yq (y_move (ev_t rfl))) rfl rfl ?_
    refine TL.opw (w_t rfl rfl rfl) (fun hg => y_callv (vs := [(ux.getD i1 undef), vtgt]) (v := (.int .i64 (f (x.getD i1 []) tgt))) ef (ev_g rfl hg) ⟨(ev_g rfl hg), (ev_g rfl hg), trivial⟩ (fun w hw => hf w hw.1 (ux.getD i1 undef) (x.getD i1 []) ((ri_arg (hx.row (i := i1) (show i1 < x.length by have hgf := (of_decide_eq_true hg); omega))) w hw) vtgt tgt ((ri_arg htgt) w hw))) rfl rfl ?_
    refine TL.opw (w_t rfl rfl rfl) (fun hg => yq (y_eql (ev_g rfl hg) ev_c)) rfl rfl ?_
    refine TL.op (yq (y_and (ev_t rfl) (fun hq => (ev_g rfl hq)))) rfl rfl rfl ?_
    refine TL.op (yq (y_assign (ev_t rfl))) rfl rfl rfl ?_
    refine TL.op (yq (y_assign (ev_t rfl))) rfl rfl rfl ?_
    refine TL.nil ?_
    refine TN.seq ?_
    refine TC.ret ?_
    subst hF
    exact TN.ret2 rfl (ev_t rfl) (ev_t rfl) (fun w' hw => ⟨rfl, hw⟩)

set_option maxRecDepth 4000 in
set_option maxHeartbeats 1000000 in
theorem impl_worksOf_ok (w : World) (vm : Value) (um : List Value) (m : List (List Int)) (hm : RII w vm um m) (k : Int) (hp0 : Ks m k) :
    Calls Try.prog 56 ([(.agg #[vm]), (.int .i64 k)] : List Value).toArray w (fun e w' => ∃ i : Nat × Value × Value × List Value × Value × List Value, e = .returned (.pointer (some ⟨i.1, 0, none⟩)) ∧ Hp w [.blk i.1 70 [i.2.1, i.2.2.1, i.2.2.2.2.1], tabI 25 3 i.2.2.1 i.2.2.2.1 ((F_impl_worksOf m k).1), tabI 25 3 i.2.2.2.2.1 i.2.2.2.2.2 ((F_impl_worksOf m k).2)] w') := by
  obtain ⟨rz, hF⟩ : ∃ rz, (F_impl_worksOf m k) = rz := ⟨_, rfl⟩
  rw [hF]
  unfold F_impl_worksOf at hF
  have hn6 := hp0.tab.n6
  have hcs := hp0.cfgs
  have hc56 := hp0.c56
  have hTab := hp0.tab
  have hk1 := hp0.k1
  have hk3 := hp0.k3
  have hlen_m := argT_len hm
  refine calls_tc Try.func56 rfl rfl rfl ?_
  change TC _ _ _ _ (Hp w []) [(0, (.agg #[vm])), (1, (.int .i64 k))]
  refine TC.seq ?_
  refine TC.region ?_
  refine TL.box (ev_t rfl) rfl (fun g0_0 => ?_)
  refine TL.op (yq (y_assign ev_c)) rfl rfl rfl ?_
  refine TL.nil ?_
  refine TN.seq ?_
  refine TC.seq ?_
  refine TC.regionH 9 (Hp w [.blk g0_0 29 [vm]]) rfl (by kernel_rfl) dr_hp (fun w hw => hw) ?_
  refine TH.take 0 rfl (by kernel_rfl) (y_ldagg (cs := [vm]) 0 (ev_t rfl) agg_29 rfl) rfl rfl rfl ?_
  refine TH.take 1 rfl (by kernel_rfl) (y_fa (fa_29_0 g0_0) (ev_t rfl)) rfl rfl rfl ?_
  refine TH.take 2 rfl (by kernel_rfl) (y_ldb 0 (ev_t rfl) one_22 rfl rfl) rfl rfl rfl ?_
  refine TH.take 3 rfl (by kernel_rfl) (y_len (ev_t rfl) Try.underlying22 (fun w hw => ((fun w hw => ((rii_arg hm) w hw).1) w hw).ln)) rfl rfl rfl ?_
  refine TH.take 4 rfl (by kernel_rfl) (y_move (ev_t rfl)) rfl rfl rfl ?_
  refine TH.loud 5 rfl (by kernel_rfl) ?_
  refine TL.callr (ι := Value × List Value) (vs := [(.int .i64 (m.length : Int)), (.int .i64 k), (.int .i64 0)]) (fun i => i.1) (fun i => [tabI 25 3 i.1 i.2 (F_impl_configsOf (m.length : Int) k 0)]) en_99 ⟨(ev_t rfl), (ev_t rfl), ev_c, trivial⟩ rfl (fun w hw => impl_configsOf_ok w (m.length : Int) k 0 (by first | assumption | omega | grind) (by first | assumption | omega | grind) (by first | assumption | omega | grind) (by first | assumption | omega | grind)) (fun r1_5 => ?_)
  refine TL.nil ?_
  refine TH.back (fun w hw => Hp.sublist hw (.cons _ (.cons_cons _ .slnil))) ?_
  refine TH.loud 6 rfl (by kernel_rfl) ?_
  refine TL.op (yq (y_bldW (ev_t rfl) (ev_t rfl) bd_70_w (fun w hw => ((fun w hw => ((rii_arg hm) w hw).1) w hw).ln) (fun w hw => ((fun w hw => ((rii_tab 0 rfl) w hw).1) w hw).ln))) rfl rfl rfl ?_
  refine TL.nil ?_
  refine TH.back (fun w hw => Hp.sublist hw (.cons _ (.cons_cons _ .slnil))) ?_
  refine TH.loud 7 rfl (by kernel_rfl) ?_
  refine TL.boxW (ev_t rfl) (fun w hw => ((fun w hw => ((rii_arg hm) w hw).1) w hw).ln) (fun w hw => ((fun w hw => ((rii_tab 0 rfl) w hw).1) w hw).ln) rfl (fun g1_7 => ?_)
  refine TL.nil ?_
  refine TH.back (fun w hw => Hp.sublist hw (.cons _ (.cons _ (.cons_cons _ .slnil)))) ?_
  refine TH.take 8 rfl (by kernel_rfl) (y_assign (ev_t rfl)) rfl rfl rfl ?_
  refine TH.done (by kernel_rfl) ?_
  refine TN.seq ?_
  refine TC.seq ?_
  refine TC.seq ?_
  refine TC.region ?_
  refine TL.op (yq (y_move (ev_t rfl))) rfl rfl rfl ?_
  refine TL.op (yq (y_nilp (ev_t rfl))) rfl rfl rfl ?_
  refine TL.op (yq (y_fa (fa_70_1 g1_7) (ev_t rfl))) rfl rfl rfl ?_
  refine TL.op (yq (y_ldb 0 (ev_t rfl) one_22 rfl rfl)) rfl rfl rfl ?_
  refine TL.op (yq (y_len (ev_t rfl) Try.underlying22 (fun w hw => ((fun w hw => ((rii_tab 1 rfl) w hw).1) w hw).ln))) rfl rfl rfl ?_
  refine TL.op (yq (y_move ev_c)) rfl rfl rfl ?_
  refine TL.nil ?_
  refine TN.seq ?_
  refine TC.block ?_
  refine TC.cls (fun w hw => hw.nilTab 25 3) ?_
  obtain ⟨c28, hc29⟩ : ∃ c, F_impl_worksOf_L1 m k ((((F_impl_configsOf (m.length : Int) k 0).length) - 0) + 1) (0, ([])) = c := ⟨_, rfl⟩
  rw [hc29] at hF
  refine TC.loop (ι := Nat × Nat × List (List Int) × Value × List Value) (fun (fu1, k24_1, zg1_7_2_1, vzg1_7_2_1, uzg1_7_2_1) => [(2, (.pointer (some ⟨g0_0, 0, none⟩))), (5, (.pointer (some ⟨g1_7, 0, none⟩))), (22, r1_5.1), (23, (.int .i64 ((F_impl_configsOf (m.length : Int) k 0).length : Int))), (24, (.int .i64 (k24_1 : Int)))]) (fun (fu1, k24_1, zg1_7_2_1, vzg1_7_2_1, uzg1_7_2_1) => Hp w [tabI 25 3 vzg1_7_2_1 uzg1_7_2_1 zg1_7_2_1, .blk g1_7 70 [vm, r1_5.1, vzg1_7_2_1], tabI 25 3 r1_5.1 r1_5.2 (F_impl_configsOf (m.length : Int) k 0), .blk g0_0 29 [vm]]) (fun (fu1, k24_1, zg1_7_2_1, vzg1_7_2_1, uzg1_7_2_1) => (k24_1 ≤ ((F_impl_configsOf (m.length : Int) k 0).length)) ∧ (zg1_7_2_1.length = k24_1) ∧ ((F_impl_configsOf (m.length : Int) k 0).length) - k24_1 < fu1 ∧ F_impl_worksOf_L1 m k fu1 (k24_1, zg1_7_2_1) = c28) (fun (fu1, k24_1, zg1_7_2_1, vzg1_7_2_1, uzg1_7_2_1) => fu1) ((((F_impl_configsOf (m.length : Int) k 0).length) - 0) + 1, 0, [], (.slice none 0 0), []) ⟨(by first | omega | (simp [-List.getD_eq_getElem?_getD] <;> omega)), (by first | omega | (simp [-List.getD_eq_getElem?_getD] <;> omega)), (by omega), hc29⟩ ⟨rfl, rfl, rfl, rfl, rfl, trivial⟩ (fun w hw => hw) ?_
  rintro ⟨fu1, k24_1, zg1_7_2_1, vzg1_7_2_1, uzg1_7_2_1⟩ hJ1
  obtain ⟨hi1_0, hi1_1, hmu1, hL1⟩ : (k24_1 ≤ ((F_impl_configsOf (m.length : Int) k 0).length)) ∧ (zg1_7_2_1.length = k24_1) ∧ ((F_impl_configsOf (m.length : Int) k 0).length) - k24_1 < fu1 ∧ F_impl_worksOf_L1 m k fu1 (k24_1, zg1_7_2_1) = c28 := hJ1
  change TC _ _ _ _ (Hp w [tabI 25 3 vzg1_7_2_1 uzg1_7_2_1 zg1_7_2_1, .blk g1_7 70 [vm, r1_5.1, vzg1_7_2_1], tabI 25 3 r1_5.1 r1_5.2 (F_impl_configsOf (m.length : Int) k 0), .blk g0_0 29 [vm]]) [(2, (.pointer (some ⟨g0_0, 0, none⟩))), (5, (.pointer (some ⟨g1_7, 0, none⟩))), (22, r1_5.1), (23, (.int .i64 ((F_impl_configsOf (m.length : Int) k 0).length : Int))), (24, (.int .i64 (k24_1 : Int)))]
  obtain ⟨mf1, rfl⟩ : ∃ m, fu1 = m + 1 := ⟨fu1 - 1, by omega⟩
  rw [F_impl_worksOf_L1_s] at hL1
  have hca := (hcs k24_1)
  refine TC.seq ?_
  refine TC.region ?_
  refine TL.op (yq (y_lss (ev_t rfl) (ev_t rfl))) rfl rfl rfl ?_
  refine TL.nil ?_
  refine TN.seq ?_
  refine TC.seq ?_
  refine TC.cond (b := decide ((k24_1 : Int) < ((F_impl_configsOf (m.length : Int) k 0).length : Int))) (ev_t rfl) (fun h30 => ?_) (fun h30 => ?_)
  · rw [bif_pos h30] at hL1
    have q31 := (of_decide_eq_true h30)
    refine TC.skip ?_
    refine TN.seq ?_
    refine TC.seq ?_
    refine TC.block ?_
    refine TC.seq ?_
    refine TC.region ?_
    have hb32 : k24_1 < (F_impl_configsOf (m.length : Int) k 0).length := (by first | omega | (simp only [List.length_set, List.length_append, List.length_cons, List.length_nil, List.length_replicate]; omega) | (rw [sortI_length]; simp only [List.length_cons, List.length_nil]; omega))
    refine TL.op (yq (y_idx (k := k24_1) (ev_t rfl) (ev_t rfl) (by first | omega | simp) slT_22 (fun w hw => ((rii_tab 2 rfl) w hw).1) hb32)) rfl rfl rfl ?_
    refine TL.op (yq (y_ldT 2 (ev_t rfl) one_25 rfl hb32)) rfl rfl rfl ?_
    refine TL.op (yq (y_assign (ev_t rfl))) rfl rfl rfl ?_
    refine TL.nil ?_
    refine TN.seq ?_
    refine TC.seq ?_
    refine TC.region ?_
    refine TL.buildI (zs := []) (qs := []) slT_25 rfl trivial rfl (by decide) rfl (fun v5_0 => ?_)
    refine TL.op (yq (y_assign (ev_t rfl))) rfl rfl rfl ?_
    refine TL.nil ?_
    refine TN.seq ?_
    refine TC.seq ?_
    refine TC.seq ?_
    refine TC.region ?_
    refine TL.op (yq (y_move (ev_t rfl))) rfl rfl rfl ?_
    refine TL.op (yq (y_nilp (ev_t rfl))) rfl rfl rfl ?_
    refine TL.op (yq (y_fa (fa_70_1 g1_7) (ev_t rfl))) rfl rfl rfl ?_
    refine TL.op (yq (y_ldb 2 (ev_t rfl) one_22 rfl rfl)) rfl rfl rfl ?_
    refine TL.op (yq (y_len (ev_t rfl) Try.underlying22 (fun w hw => ((fun w hw => ((rii_tab 3 rfl) w hw).1) w hw).ln))) rfl rfl rfl ?_
    refine TL.op (yq (y_move ev_c)) rfl rfl rfl ?_
    refine TL.nil ?_
    refine TN.seq ?_
    refine TC.block ?_
    obtain ⟨c33, hc34⟩ : ∃ c, F_impl_worksOf_L2 m k k24_1 ((((F_impl_configsOf (m.length : Int) k 0).length) - 0) + 1) (([] : List Int), 0) = c := ⟨_, rfl⟩
    rw [hc34] at hL1
    refine TC.loop (ι := Nat × List Int × Nat × Value) (fun (fu2, row2, k34_2, vrow2) => [(2, (.pointer (some ⟨g0_0, 0, none⟩))), (5, (.pointer (some ⟨g1_7, 0, none⟩))), (7, (r1_5.2.getD k24_1 undef)), (8, vrow2), (22, r1_5.1), (23, (.int .i64 ((F_impl_configsOf (m.length : Int) k 0).length : Int))), (24, (.int .i64 (k24_1 : Int))), (32, r1_5.1), (33, (.int .i64 ((F_impl_configsOf (m.length : Int) k 0).length : Int))), (34, (.int .i64 (k34_2 : Int)))]) (fun (fu2, row2, k34_2, vrow2) => Hp w [rowI 3 vrow2 row2, tabI 25 3 vzg1_7_2_1 uzg1_7_2_1 zg1_7_2_1, .blk g1_7 70 [vm, r1_5.1, vzg1_7_2_1], tabI 25 3 r1_5.1 r1_5.2 (F_impl_configsOf (m.length : Int) k 0), .blk g0_0 29 [vm]]) (fun (fu2, row2, k34_2, vrow2) => (k34_2 ≤ ((F_impl_configsOf (m.length : Int) k 0).length)) ∧ (row2.length = k34_2) ∧ ((F_impl_configsOf (m.length : Int) k 0).length) - k34_2 < fu2 ∧ F_impl_worksOf_L2 m k k24_1 fu2 (row2, k34_2) = c33) (fun (fu2, row2, k34_2, vrow2) => fu2) ((((F_impl_configsOf (m.length : Int) k 0).length) - 0) + 1, ([] : List Int), 0, v5_0) ⟨(by first | omega | (simp [-List.getD_eq_getElem?_getD] <;> omega)), (by first | omega | (simp [-List.getD_eq_getElem?_getD] <;> omega)), (by omega), hc34⟩ ⟨rfl, rfl, rfl, rfl, rfl, rfl, rfl, rfl, rfl, rfl, trivial⟩ (fun w hw => hw) ?_
    rintro ⟨fu2, row2, k34_2, vrow2⟩ hJ2
    obtain ⟨hi2_0, hi2_1, hmu2, hL2⟩ : (k34_2 ≤ ((F_impl_configsOf (m.length : Int) k 0).length)) ∧ (row2.length = k34_2) ∧ ((F_impl_configsOf (m.length : Int) k 0).length) - k34_2 < fu2 ∧ F_impl_worksOf_L2 m k k24_1 fu2 (row2, k34_2) = c33 := hJ2
    change TC _ _ _ _ (Hp w [rowI 3 vrow2 row2, tabI 25 3 vzg1_7_2_1 uzg1_7_2_1 zg1_7_2_1, .blk g1_7 70 [vm, r1_5.1, vzg1_7_2_1], tabI 25 3 r1_5.1 r1_5.2 (F_impl_configsOf (m.length : Int) k 0), .blk g0_0 29 [vm]]) [(2, (.pointer (some ⟨g0_0, 0, none⟩))), (5, (.pointer (some ⟨g1_7, 0, none⟩))), (7, (r1_5.2.getD k24_1 undef)), (8, vrow2), (22, r1_5.1), (23, (.int .i64 ((F_impl_configsOf (m.length : Int) k 0).length : Int))), (24, (.int .i64 (k24_1 : Int))), (32, r1_5.1), (33, (.int .i64 ((F_impl_configsOf (m.length : Int) k 0).length : Int))), (34, (.int .i64 (k34_2 : Int)))]
    obtain ⟨mf2, rfl⟩ : ∃ m, fu2 = m + 1 := ⟨fu2 - 1, by omega⟩
    rw [F_impl_worksOf_L2_s] at hL2
    have hca1 := (hcs k24_1 (by omega)).1
    have hcb1 := fun h => (hcs k34_2 h).1
    have hcl := fun h => hp0.eqlen k24_1 k34_2 (by omega) h
    refine TC.seq ?_
    refine TC.region ?_
    refine TL.op (yq (y_lss (ev_t rfl) (ev_t rfl))) rfl rfl rfl ?_
    refine TL.nil ?_
    refine TN.seq ?_
    refine TC.seq ?_
    refine TC.cond (b := decide ((k34_2 : Int) < ((F_impl_configsOf (m.length : Int) k 0).length : Int))) (ev_t rfl) (fun h35 => ?_) (fun h35 => ?_)
    · rw [bif_pos h35] at hL2
      have q36 := (of_decide_eq_true h35)
      refine TC.skip ?_
      refine TN.seq ?_
      refine TC.seq ?_
      refine TC.block ?_
      refine TC.seq ?_
      refine TC.region ?_
      have hb37 : k34_2 < (F_impl_configsOf (m.length : Int) k 0).length := (by first | omega | (simp only [List.length_set, List.length_append, List.length_cons, List.length_nil, List.length_replicate]; omega) | (rw [sortI_length]; simp only [List.length_cons, List.length_nil]; omega))
      refine TL.op (yq (y_idx (k := k34_2) (ev_t rfl) (ev_t rfl) (by first | omega | simp) slT_22 (fun w hw => ((rii_tab 3 rfl) w hw).1) hb37)) rfl rfl rfl ?_
      refine TL.op (yq (y_ldT 3 (ev_t rfl) one_25 rfl hb37)) rfl rfl rfl ?_
      refine TL.op (yq (y_assign (ev_t rfl))) rfl rfl rfl ?_
      refine TL.nil ?_
      refine TN.seq ?_
      refine TC.region ?_
      refine TL.op (yq (y_move (ev_t rfl))) rfl rfl rfl ?_
      refine TL.op (yq (y_ldagg (cs := [vm]) 4 (ev_t rfl) agg_29 rfl)) rfl rfl rfl ?_
      refine TL.op (yq (y_move (ev_t rfl))) rfl rfl rfl ?_
      refine TL.op (yq (y_move (ev_t rfl))) rfl rfl rfl ?_
      refine TL.op (y_call (vs := [(.agg #[vm]), (r1_5.2.getD k24_1 undef), (r1_5.2.getD k34_2 undef)]) (v := (.int .i64 (F_impl_Metric_moveCost m ((F_impl_configsOf (m.length : Int) k 0).getD k24_1 []) ((F_impl_configsOf (m.length : Int) k 0).getD k34_2 [])))) en_100 ⟨(ev_t rfl), (ev_t rfl), (ev_t rfl), trivial⟩ (fun w hw => impl_Metric_moveCost_ok w vm um m ((rii_arg hm) w hw) (r1_5.2.getD k24_1 undef) ((F_impl_configsOf (m.length : Int) k 0).getD k24_1 []) ((ri_tab 3 k24_1 rfl hb32) w hw) (r1_5.2.getD k34_2 undef) ((F_impl_configsOf (m.length : Int) k 0).getD k34_2 []) ((ri_tab 3 k34_2 rfl hb37) w hw) (by first | assumption | omega | grind) (by first | assumption | omega | grind) (by first | assumption | omega | grind) (by first | assumption | omega | grind))) rfl rfl rfl ?_
      refine TL.buildI (zs := [.tmp 42]) (qs := [(F_impl_Metric_moveCost m ((F_impl_configsOf (m.length : Int) k 0).getD k24_1 []) ((F_impl_configsOf (m.length : Int) k 0).getD k34_2 []))]) slT_25 rfl ⟨(ev_t rfl), trivial⟩ rfl (by decide) rfl (fun v9_5 => ?_)
      refine TL.appendI 1 (ev_t rfl) (ev_t rfl) rfl slT_25 (ri_row 0 rfl) (by first | omega | (simp [-List.getD_eq_getElem?_getD] <;> omega)) rfl (fun v9_6 => ?_)
      refine TL.op (yq (y_assign (ev_t rfl))) rfl rfl rfl ?_
      refine TL.nil ?_
      refine TN.blockN ?_
      refine TN.seq ?_
      refine TC.region ?_
      refine TL.op (yq (y_add (ev_t rfl) ev_c (by unfold In64; omega))) rfl rfl rfl ?_
      refine TL.op (yq (y_move (ev_t rfl))) rfl rfl rfl ?_
      refine TL.nil ?_
      exact TN.hand (mf2, (row2 ++ ([(F_impl_Metric_moveCost m ((F_impl_configsOf (m.length : Int) k 0).getD k24_1 []) ((F_impl_configsOf (m.length : Int) k 0).getD k34_2 []))])), (k34_2 + 1), v9_6) ⟨(by first | omega | (simp [-List.getD_eq_getElem?_getD] <;> omega)), (by first | omega | (simp [-List.getD_eq_getElem?_getD] <;> omega)), (by omega), hL2⟩ (Nat.lt_succ_self _) ⟨rfl, rfl, rfl, rfl, rfl, rfl, rfl, rfl, rfl, rfl, trivial⟩ (fun w hw => Hp.sublist hw (.cons _ (.cons_cons _ (.cons_cons _ (.cons_cons _ (.cons_cons _ (.cons_cons _ .slnil)))))))
    · rw [bif_neg h35] at hL2
      have q36 := (of_decide_eq_false h35)
      refine TC.exit ?_
      refine TN.thenE ?_
      refine TN.thenE ?_
      rw [← hL2, elim_next] at hL1
      try dsimp only at hL1
      refine TN.blockH ?_
      refine TN.seq ?_
      refine TC.region ?_
      refine TL.op (yq (y_move (ev_t rfl))) rfl rfl rfl ?_
      refine TL.op (yq (y_move (ev_t rfl))) rfl rfl rfl ?_
      refine TL.op (yq (y_nilp (ev_t rfl))) rfl rfl rfl ?_
      refine TL.op (yq (y_fa (fa_70_2 g1_7) (ev_t rfl))) rfl rfl rfl ?_
      refine TL.op (yq (y_ldb 2 (ev_t rfl) one_22 rfl rfl)) rfl rfl rfl ?_
      refine TL.op (yq (y_move (ev_t rfl))) rfl rfl rfl ?_
      refine TL.buildU slT_22 (ev_t rfl) (fun w hw => ((ri_row 0 rfl) w hw).ln) rfl (fun v11_6 => ?_)
      refine TL.appendT 2 1 rfl (ev_t rfl) (ev_t rfl) rfl rfl slT_22 (rd_row 0 rfl) (by first | omega | (simp [-List.getD_eq_getElem?_getD] <;> omega)) rfl (fun v11_7 => ?_)
      refine TL.op (yq (y_nilp (ev_t rfl))) rfl rfl rfl ?_
      refine TL.op (yq (y_fa (fa_70_2 g1_7) (ev_t rfl))) rfl rfl rfl ?_
      refine TL.storeB 3 (ev_t rfl) (ev_t rfl) one_22 rfl (by first | decide | simp) (fun w hw => (ln_one ((fun w hw => ((rii_tab 2 rfl) w hw).1) w hw).ln)) ?_
      refine TL.nil ?_
      refine TN.blockN ?_
      refine TN.seq ?_
      refine TC.region ?_
      refine TL.op (yq (y_add (ev_t rfl) ev_c (by unfold In64; omega))) rfl rfl rfl ?_
      refine TL.op (yq (y_move (ev_t rfl))) rfl rfl rfl ?_
      refine TL.nil ?_
      exact TN.hand (mf1, (k24_1 + 1), (zg1_7_2_1 ++ [row2]), v11_7, (uzg1_7_2_1 ++ [vrow2])) ⟨(by first | omega | (simp [-List.getD_eq_getElem?_getD] <;> omega)), (by first | omega | (simp [-List.getD_eq_getElem?_getD] <;> omega)), (by omega), hL1⟩ (Nat.lt_succ_self _) ⟨rfl, rfl, rfl, rfl, rfl, trivial⟩ (fun w hw => Hp.sublist hw (.cons _ (.cons _ (.cons_cons _ (.cons_cons _ (.cons_cons _ (.cons_cons _ .slnil)))))))
  · rw [bif_neg h30] at hL1
    have q31 := (of_decide_eq_false h30)
    refine TC.exit ?_
    refine TN.thenE ?_
    refine TN.thenE ?_
    rw [← hL1, elim_next] at hF
    try dsimp only at hF
    refine TN.blockH ?_
    refine TN.seq ?_
    refine TC.seq ?_
    refine TC.region ?_
    refine TL.op (yq (y_move (ev_t rfl))) rfl rfl rfl ?_
    refine TL.op (yq (y_assign (ev_t rfl))) rfl rfl rfl ?_
    refine TL.nil ?_
    refine TN.seq ?_
    refine TC.ret ?_
    subst hF
    exact TN.ret1 rfl (ev_t rfl) (fun w' hw => ⟨(g1_7, vm, r1_5.1, r1_5.2, vzg1_7_2_1, uzg1_7_2_1), rfl, Hp.picks [1, 2, 0] (by decide) rfl hw⟩)

set_option maxRecDepth 4000 in
set_option maxHeartbeats 1000000 in
theorem impl_works_index_ok (w : World) (gx : Nat) (vx0 : Value) (vx1 : Value) (ux1 : List Value) (xc1 : List (List Int)) (vx2 : Value) (ux2 : List Value) (xc2 : List (List Int)) (hx : BlkAt w gx [vx0, vx1, vx2]) (hrx1 : RII w vx1 ux1 xc1) (hrx2 : RII w vx2 ux2 xc2) (va : Value) (a : List Int) (ha : RI w va a) (hp0 : xc1.length ≤ 1000000) :
    Calls Try.prog 68 ([(.pointer (some ⟨gx, 0, none⟩)), va] : List Value).toArray w (Ret (.int .i64 (F_impl_works_index xc1 xc2 a)) (Hp w [])) := by
  obtain ⟨rz, hF⟩ : ∃ rz, (F_impl_works_index xc1 xc2 a) = rz := ⟨_, rfl⟩
  rw [hF]
  unfold F_impl_works_index at hF
  have hlen_x1 := argT_len hrx1
  have hlen_x2 := argT_len hrx2
  have hlen_a := arg_len ha
  refine calls_tc Try.func68 rfl rfl rfl ?_
  change TC _ _ _ _ (Hp w []) [(0, (.pointer (some ⟨gx, 0, none⟩))), (1, va)]
  refine TC.seq ?_
  refine TC.region ?_
  refine TL.op (yq (y_assign ev_c)) rfl rfl rfl ?_
  refine TL.nil ?_
  refine TN.seq ?_
  refine TC.seq ?_
  refine TC.region ?_
  refine TL.op (yq (y_move (ev_t rfl))) rfl rfl rfl ?_
  refine TL.op (yq (y_nilp (ev_t rfl))) rfl rfl rfl ?_
  refine TL.op (yq (y_fa (fa_70_1 gx) (ev_t rfl))) rfl rfl rfl ?_
  refine TL.op (yq (y_ldk (ev_t rfl) one_22 hx rfl)) rfl rfl rfl ?_
  refine TL.op (yq (y_move (ev_t rfl))) rfl rfl rfl ?_
  refine TL.op (y_call (vs := [vx1, va, (.func (.func 108) #[] ([] : List Value).toArray)]) (v := (.tuple #[(.int .i64 ((F_slices_BinarySearchFunc_SSint_Sint_Sint xc1 a (fun b c => F_impl_works_index_1 b c )).1)), (.bool ((F_slices_BinarySearchFunc_SSint_Sint_Sint xc1 a (fun b c => F_impl_works_index_1 b c )).2))])) en_107 ⟨(ev_t rfl), (ev_t rfl), ev_f, trivial⟩ (fun w hw => slices_BinarySearchFunc_SSint_Sint_Sint_ok w vx1 ux1 xc1 ((rii_arg hrx1) w hw) va a ((ri_arg ha) w hw) 108 [] (fun b c => F_impl_works_index_1 b c ) en_108 (fun w2 hb vb b hb vc c hc => impl_works_index_1_ok w2 vb b hb vc c hc ) (by first | assumption | omega | grind))) rfl rfl rfl ?_
  refine TL.op (yq (y_move (ev_t rfl))) rfl rfl rfl ?_
  refine TL.op (yq (y_extract (ev_t rfl) rfl)) rfl rfl rfl ?_
  refine TL.op (yq (y_extract (ev_t rfl) rfl)) rfl rfl rfl ?_
  refine TL.op (yq (y_assign (ev_t rfl))) rfl rfl rfl ?_
  refine TL.op (yq (y_assign (ev_t rfl))) rfl rfl rfl ?_
  refine TL.nil ?_
  refine TN.seq ?_
  refine TC.seq ?_
  refine TC.region ?_
  refine TL.op (yq (y_move (ev_t rfl))) rfl rfl rfl ?_
  refine TL.op (yq (y_assign (ev_t rfl))) rfl rfl rfl ?_
  refine TL.nil ?_
  refine TN.seq ?_
  refine TC.ret ?_
  subst hF
  exact TN.ret1 rfl (ev_t rfl) (fun w' hw => ⟨rfl, hw⟩)

set_option maxRecDepth 4000 in
set_option maxHeartbeats 1000000 in
theorem impl_isSmall_ok (w : World) (vl : Value) (l : List Int) (hl : RI w vl l)  :
    Calls Try.prog 79 ([vl] : List Value).toArray w (Ret (.bool (F_impl_isSmall l)) (Hp w [])) := by
  obtain ⟨rz, hF⟩ : ∃ rz, (F_impl_isSmall l) = rz := ⟨_, rfl⟩
  rw [hF]
  unfold F_impl_isSmall at hF
  have hlen_l := arg_len hl
  refine calls_tc Try.func79 rfl rfl rfl ?_
  change TC _ _ _ _ (Hp w []) [(0, vl)]
  refine TC.seq ?_
  refine TC.region ?_
  refine TL.op (yq (y_assign ev_c)) rfl rfl rfl ?_
  refine TL.nil ?_
  refine TN.seq ?_
  refine TC.seq ?_
  refine TC.region ?_
  refine TL.op (yq (y_move (ev_t rfl))) rfl rfl rfl ?_
  refine TL.op (y_call (vs := [(.int .i64 100000), vl]) (v := (.bool (F_impl_areBelow 100000 l))) en_101 ⟨ev_c, (ev_t rfl), trivial⟩ (fun w hw => impl_areBelow_ok w 100000 vl l ((ri_arg hl) w hw) (by first | assumption | omega | grind) (by first | assumption | omega | grind))) rfl rfl rfl ?_
  refine TL.op (yq (y_assign (ev_t rfl))) rfl rfl rfl ?_
  refine TL.nil ?_
  refine TN.seq ?_
  refine TC.ret ?_
  subst hF
  exact TN.ret1 rfl (ev_t rfl) (fun w' hw => ⟨rfl, hw⟩)

set_option maxRecDepth 4000 in
set_option maxHeartbeats 1000000 in
theorem impl_FromSupport_1_ok (w : World) (va : Value) (a : List Int) (ha : RI w va a) (gm : Nat) (vm : Value) (um : List Value) (m : List (List Int)) (hrm : RII w vm um m) (hm : AggAt w gm 29 vm) (gconfigs : Nat) (vconfigs : Value) (uconfigs : List Value) (configs : List (List Int)) (hrconfigs : RII w vconfigs uconfigs configs) (hconfigs : CellAt w gconfigs vconfigs) (hp0 : 1 ≤ configs.length) :
    Calls Try.prog 81 ([va, (.pointer (some ⟨gm, 0, none⟩)), (.pointer (some ⟨gconfigs, 0, none⟩))] : List Value).toArray w (Ret (.bool (F_impl_FromSupport_1 a m configs)) (Hp w [])) := by
  obtain ⟨rz, hF⟩ : ∃ rz, (F_impl_FromSupport_1 a m configs) = rz := ⟨_, rfl⟩
  rw [hF]
  unfold F_impl_FromSupport_1 at hF
  have hlen_a := arg_len ha
  refine calls_tc Try.func81 rfl rfl rfl ?_
  change TC _ _ _ _ (Hp w []) [(0, va), (1, (.pointer (some ⟨gm, 0, none⟩))), (2, (.pointer (some ⟨gconfigs, 0, none⟩)))]
  refine TC.seq ?_
  refine TC.region ?_
  refine TL.op (yq (y_assign ev_c)) rfl rfl rfl ?_
  refine TL.nil ?_
  refine TN.seq ?_
  refine TC.seq ?_
  refine TC.region ?_
  refine TL.op (yq (y_ldcagg (ev_t rfl) agg_29 hm)) rfl rfl rfl ?_
  refine TL.op (yq (y_move (ev_t rfl))) rfl rfl rfl ?_
  refine TL.op (y_call (vs := [(.agg #[vm]), va]) (v := (.bool (F_impl_Metric_isConfig m a))) en_70 ⟨(ev_t rfl), (ev_t rfl), trivial⟩ (fun w hw => impl_Metric_isConfig_ok w vm um m ((rii_arg hrm) w hw) va a ((ri_arg ha) w hw))) rfl rfl rfl ?_
  refine TL.op (yq (y_not (ev_t rfl))) rfl rfl rfl ?_
  refine TL.op (yq (y_move (ev_t rfl))) rfl rfl rfl ?_
  refine TL.opw (w_f rfl rfl rfl) (fun hg => yq (y_move (ev_t rfl))) rfl rfl ?_
  refine TL.opw (w_f rfl rfl rfl) (fun hg => yq (y_len (ev_g rfl hg) Try.underlying25 (fun w hw => ((ri_arg ha) w hw).ln))) rfl rfl ?_
  refine TL.opw (w_f rfl rfl rfl) (fun hg => yq (y_ldc (ev_t rfl) one_22 hconfigs)) rfl rfl ?_
  refine TL.opw (w_f rfl rfl rfl) (fun hg => yq (y_idx (k := 0) (ev_g rfl hg) ev_c (by first | omega | simp) slT_22 (fun w hw => ((rii_arg hrconfigs) w hw).1) (show 0 < configs.length by have hgf := (isConfig_t (not_f (not_t hg))); omega))) rfl rfl ?_
  refine TL.opw (w_f rfl rfl rfl) (fun hg => yq (y_ldA (ev_g rfl hg) one_25 (rii_arg hrconfigs) (show 0 < configs.length by have hgf := (isConfig_t (not_f (not_t hg))); omega))) rfl rfl ?_
  refine TL.opw (w_f rfl rfl rfl) (fun hg => yq (y_len (ev_g rfl hg) Try.underlying25 (fun w hw => ((ri_arg (hrconfigs.row (i := 0) (show 0 < configs.length by have hgf := (isConfig_t (not_f (not_t hg))); omega))) w hw).ln))) rfl rfl ?_
  refine TL.opw (w_f rfl rfl rfl) (fun hg => yq (y_neq (ev_g rfl hg) (ev_g rfl hg))) rfl rfl ?_
  refine TL.op (yq (y_or (ev_t rfl) (fun hq => (ev_g rfl hq)))) rfl rfl rfl ?_
  refine TL.op (yq (y_assign (ev_t rfl))) rfl rfl rfl ?_
  refine TL.nil ?_
  refine TN.seq ?_
  refine TC.ret ?_
  subst hF
  exact TN.ret1 rfl (ev_t rfl) (fun w' hw => ⟨rfl, hw⟩)

set_option maxRecDepth 4000 in
set_option maxHeartbeats 1000000 in
theorem impl_FromSupport_ok (w : World) (vm : Value) (um : List Value) (m : List (List Int)) (hm : RII w vm um m) (vconfigs : Value) (uconfigs : List Value) (configs : List (List Int)) (hconfigs : RII w vconfigs uconfigs configs) (vvalues : Value) (values : List Int) (hvalues : RI w vvalues values)  :
    Calls Try.prog 41 ([(.agg #[vm]), vconfigs, vvalues] : List Value).toArray w (fun e w' => ∃ i : Value, e = .returned (.tuple #[i, (.bool ((F_impl_FromSupport m configs values).2))]) ∧ Hp w [rowI 3 i ((F_impl_FromSupport m configs values).1)] w') := by
  obtain ⟨rz, hF⟩ : ∃ rz, (F_impl_FromSupport m configs values) = rz := ⟨_, rfl⟩
  rw [hF]
  unfold F_impl_FromSupport at hF
  have hlen_m := argT_len hm
  have hlen_configs := argT_len hconfigs
  have hlen_values := arg_len hvalues
  refine calls_tc Try.func41 rfl rfl rfl ?_
  change TC _ _ _ _ (Hp w []) [(0, (.agg #[vm])), (1, vconfigs), (2, vvalues)]
  refine TC.seq ?_
  refine TC.region ?_
  refine TL.box (ev_t rfl) rfl (fun g0_0 => ?_)
  refine TL.boxS (ev_t rfl) (fun w hw => ((fun w hw => ((rii_arg hconfigs) w hw).1) w hw).ln) rfl (fun g0_1 => ?_)
  refine TL.op (yq (y_assign ev_c)) rfl rfl rfl ?_
  refine TL.op (yq (y_assign ev_c)) rfl rfl rfl ?_
  refine TL.nil ?_
  refine TN.seq ?_
  refine TC.seq ?_
  refine TC.seq ?_
  refine TC.region ?_
  refine TL.op (yq (y_ldagg (cs := [vm]) 1 (ev_t rfl) agg_29 rfl)) rfl rfl rfl ?_
  refine TL.op (y_call (vs := [(.agg #[vm])]) (v := (.bool (F_impl_IsMetric m))) en_77 ⟨(ev_t rfl), trivial⟩ (fun w hw => impl_IsMetric_ok w vm um m ((rii_arg hm) w hw))) rfl rfl rfl ?_
  refine TL.op (yq (y_not (ev_t rfl))) rfl rfl rfl ?_
  refine TL.op (yq (y_move (ev_t rfl))) rfl rfl rfl ?_
  refine TL.opw (w_f rfl rfl rfl) (fun hg => yq (y_ldb 0 (ev_t rfl) one_22 rfl rfl)) rfl rfl ?_
  refine TL.opw (w_f rfl rfl rfl) (fun hg => yq (y_len (ev_g rfl hg) Try.underlying22 (fun w hw => ((fun w hw => ((rii_arg hconfigs) w hw).1) w hw).ln))) rfl rfl ?_
  refine TL.opw (w_f rfl rfl rfl) (fun hg => y_call (vs := [(.int .i64 (configs.length : Int)), (.int .i64 1), (.int .i64 56)]) (v := (.bool ((decide (1 ≤ (configs.length : Int))) && (decide ((configs.length : Int) ≤ 56))))) en_78 ⟨(ev_g rfl hg), ev_c, ev_c, trivial⟩ (fun w hw => impl_within_ok w (configs.length : Int) 1 56)) rfl rfl ?_
  refine TL.opw (w_f rfl rfl rfl) (fun hg => yq (y_not (ev_g rfl hg))) rfl rfl ?_
  refine TL.op (yq (y_or (ev_t rfl) (fun hq => (ev_g rfl hq)))) rfl rfl rfl ?_
  refine TL.op (yq (y_move (ev_t rfl))) rfl rfl rfl ?_
  refine TL.opw (w_f rfl rfl rfl) (fun hg => yq (y_move (ev_t rfl))) rfl rfl ?_
  refine TL.opw (w_f rfl rfl rfl) (fun hg => yq (y_len (ev_g rfl hg) Try.underlying25 (fun w hw => ((ri_arg hvalues) w hw).ln))) rfl rfl ?_
  refine TL.opw (w_f rfl rfl rfl) (fun hg => yq (y_ldb 0 (ev_t rfl) one_22 rfl rfl)) rfl rfl ?_
  refine TL.opw (w_f rfl rfl rfl) (fun hg => yq (y_len (ev_g rfl hg) Try.underlying22 (fun w hw => ((fun w hw => ((rii_arg hconfigs) w hw).1) w hw).ln))) rfl rfl ?_
  refine TL.opw (w_f rfl rfl rfl) (fun hg => yq (y_neq (ev_g rfl hg) (ev_g rfl hg))) rfl rfl ?_
  refine TL.op (yq (y_or (ev_t rfl) (fun hq => (ev_g rfl hq)))) rfl rfl rfl ?_
  refine TL.op (yq (y_move (ev_t rfl))) rfl rfl rfl ?_
  refine TL.opw (w_f rfl rfl rfl) (fun hg => yq (y_move (ev_t rfl))) rfl rfl ?_
  refine TL.opw (w_f rfl rfl rfl) (fun hg => y_call (vs := [vvalues]) (v := (.bool (F_impl_isSmall values))) en_79 ⟨(ev_g rfl hg), trivial⟩ (fun w hw => impl_isSmall_ok w vvalues values ((ri_arg hvalues) w hw))) rfl rfl ?_
  refine TL.opw (w_f rfl rfl rfl) (fun hg => yq (y_not (ev_g rfl hg))) rfl rfl ?_
  refine TL.op (yq (y_or (ev_t rfl) (fun hq => (ev_g rfl hq)))) rfl rfl rfl ?_
  refine TL.op (yq (y_move (ev_t rfl))) rfl rfl rfl ?_
  refine TL.opw (w_f rfl rfl rfl) (fun hg => yq (y_ldb 0 (ev_t rfl) one_22 rfl rfl)) rfl rfl ?_
  refine TL.opw (w_f rfl rfl rfl) (fun hg => yq (y_mkf (us := [(.pointer (some ⟨g0_0, 0, none⟩)), (.pointer (some ⟨g0_1, 0, none⟩))]) ⟨(ev_t rfl), (ev_t rfl), trivial⟩)) rfl rfl ?_
  refine TL.opw (w_f rfl rfl rfl) (fun hg => y_call (vs := [vconfigs, (.func (.func 81) #[] ([(.pointer (some ⟨g0_0, 0, none⟩)), (.pointer (some ⟨g0_1, 0, none⟩))] : List Value).toArray)]) (v := (.bool (F_slices_ContainsFunc_SSint_Sint configs (fun a => F_impl_FromSupport_1 a m configs)))) en_80 ⟨(ev_g rfl hg), (ev_g rfl hg), trivial⟩ (fun w hw => slices_ContainsFunc_SSint_Sint_ok w vconfigs uconfigs configs ((rii_arg hconfigs) w hw) 81 [(.pointer (some ⟨g0_0, 0, none⟩)), (.pointer (some ⟨g0_1, 0, none⟩))] (fun a => F_impl_FromSupport_1 a m configs) en_81 (fun w2 hb va a ha => impl_FromSupport_1_ok w2 va a ha g0_0 vm um m (((rii_arg hm) w hw).below hb) (agg_blk 1 rfl hw hb) g0_1 vconfigs uconfigs configs (((rii_arg hconfigs) w hw).below hb) (cell_blk 0 rfl rfl hw hb) (by first | assumption | omega | grind)))) rfl rfl ?_
  refine TL.op (yq (y_or (ev_t rfl) (fun hq => (ev_g rfl hq)))) rfl rfl rfl ?_
  refine TL.nil ?_
  refine TN.seq ?_
  refine TC.cond (b := (((((!(F_impl_IsMetric m)) || (!((decide (1 ≤ (configs.length : Int))) && (decide ((configs.length : Int) ≤ 56))))) || (!decide ((values.length : Int) = (configs.length : Int)))) || (!(F_impl_isSmall values))) || (F_slices_ContainsFunc_SSint_Sint configs (fun a => F_impl_FromSupport_1 a m configs)))) (ev_t rfl) (fun h54 => ?_) (fun h54 => ?_)
  · rw [bif_pos h54] at hF
    have q55 := ((or_t h54).imp (fun h => ((or_t h).imp (fun h => ((or_t h).imp (fun h => ((or_t h).imp (fun h => (not_t h)) (fun h => ((and_f (not_t h)).imp (fun h => (of_decide_eq_false h)) (fun h => (of_decide_eq_false h)))))) (fun h => (of_decide_eq_false (not_t h))))) (fun h => (not_t h)))) (fun h => h))
    refine TC.seq ?_
    refine TC.region ?_
    refine TL.op (yq (y_assign ev_c)) rfl rfl rfl ?_
    refine TL.op (yq (y_assign ev_c)) rfl rfl rfl ?_
    refine TL.nil ?_
    refine TN.seq ?_
    refine TC.ret ?_
    refine TN.thenR ?_
    subst hF
    refine TN.cls (fun w hw => hw.nil 3 1) ?_
    exact TN.ret2 rfl (ev_t rfl) (ev_t rfl) (fun w' hw => ⟨(.slice none 0 0), rfl, Hp.sublist hw (.cons_cons _ (.cons _ (.cons _ .slnil)))⟩)
  · rw [bif_neg h54] at hF
    have q55 := (and_imp (or_f h54) (fun h => (and_imp (or_f h) (fun h => (and_imp (or_f h) (fun h => (and_imp (or_f h) (fun h => (isMetric_t (not_f h))) (fun h => (and_imp (and_t (not_f h)) (fun h => (of_decide_eq_true h)) (fun h => (of_decide_eq_true h)))))) (fun h => (of_decide_eq_true (not_f h))))) (fun h => (isSmall_t (not_f h))))) (fun h => h))
    have hLs := listed_of (m := m) (cs := configs) (vs := values) (by assumption)
    have hKs := hLs.ks
    have hWd := hKs.wd
    have h56 := hWd.n56
    have hdl := hWd.len
    have hc1 := hLs.n1
    have hc56 := hLs.n56
    have hvl := hLs.vl
    refine TC.skip ?_
    refine TN.seq ?_
    refine TC.seq ?_
    refine TC.regionT 5 (by kernel_rfl) (by kernel_rfl) dr_hp ?_
    refine TQ.op (yq (y_ldagg (cs := [vm]) 1 (ev_t rfl) agg_29 rfl)) rfl rfl rfl ?_
    refine TQ.op (yq (y_ldb 0 (ev_t rfl) one_22 rfl rfl)) rfl rfl rfl ?_
    have hb57 : 0 < configs.length := (by first | omega | (simp only [List.length_set, List.length_append, List.length_cons, List.length_nil, List.length_replicate]; omega) | (rw [sortI_length]; simp only [List.length_cons, List.length_nil]; omega))
    refine TQ.op (yq (y_idx (k := 0) (ev_t rfl) ev_c (by first | omega | simp) slT_22 (fun w hw => ((rii_arg hconfigs) w hw).1) hb57)) rfl rfl rfl ?_
    have ha58 := hconfigs.row (i := 0) hb57
    refine TQ.op (yq (y_ldA (ev_t rfl) one_25 (rii_arg hconfigs) hb57)) rfl rfl rfl ?_
    refine TQ.op (yq (y_len (ev_t rfl) Try.underlying25 (fun w hw => ((ri_arg ha58) w hw).ln))) rfl rfl rfl ?_
    refine TQ.tail ?_
    refine TL.callr (ι := Nat × Value × Value × List Value × Value × List Value) (vs := [(.agg #[vm]), (.int .i64 ((configs.getD 0 []).length : Int))]) (fun i => (.pointer (some ⟨i.1, 0, none⟩))) (fun i => [.blk i.1 70 [i.2.1, i.2.2.1, i.2.2.2.2.1], tabI 25 3 i.2.2.1 i.2.2.2.1 ((F_impl_worksOf m ((configs.getD 0 []).length : Int)).1), tabI 25 3 i.2.2.2.2.1 i.2.2.2.2.2 ((F_impl_worksOf m ((configs.getD 0 []).length : Int)).2)]) en_56 ⟨(ev_t rfl), (ev_t rfl), trivial⟩ rfl (fun w hw => impl_worksOf_ok w vm um m ((rii_arg hm) w hw) ((configs.getD 0 []).length : Int) (by first | assumption | omega | grind)) (fun r3_5 => ?_)
    refine TL.op (yq (y_assign (ev_t rfl))) rfl rfl rfl ?_
    refine TL.nil ?_
    refine TN.seq ?_
    refine TC.seq ?_
    refine TC.region ?_
    refine TL.buildI (zs := [.const (.int .i64 1073741824)]) (qs := [1073741824]) slT_25 rfl ⟨ev_c, trivial⟩ rfl (by decide) rfl (fun v4_0 => ?_)
    refine TL.op (yq (y_move (ev_t rfl))) rfl rfl rfl ?_
    refine TL.op (yq (y_nilp (ev_t rfl))) rfl rfl rfl ?_
    refine TL.op (yq (y_fa (fa_70_1 r3_5.1) (ev_t rfl))) rfl rfl rfl ?_
    refine TL.op (yq (y_ldb 1 (ev_t rfl) one_22 rfl rfl)) rfl rfl rfl ?_
    refine TL.op (yq (y_len (ev_t rfl) Try.underlying22 (fun w hw => ((fun w hw => ((rii_tab 2 rfl) w hw).1) w hw).ln))) rfl rfl rfl ?_
    refine TL.callr (ι := Value) (vs := [v4_0, (.int .i64 ((F_impl_worksOf m ((configs.getD 0 []).length : Int)).1.length : Int))]) (fun i => i) (fun i => [rowI 3 i (F_slices_Repeat_Sint_int ([1073741824]) ((F_impl_worksOf m ((configs.getD 0 []).length : Int)).1.length : Int))]) en_82 ⟨(ev_t rfl), (ev_t rfl), trivial⟩ rfl (fun w hw => slices_Repeat_Sint_int_ok w v4_0 ([1073741824]) ((ri_row 0 rfl) w hw) ((F_impl_worksOf m ((configs.getD 0 []).length : Int)).1.length : Int) (by first | omega | rfl) (by first | omega | rfl) (by first | omega | rfl)) (fun r4_6 => ?_)
    refine TL.op (yq (y_assign (ev_t rfl))) rfl rfl rfl ?_
    refine TL.nil ?_
    refine TN.seq ?_
    refine TC.seq ?_
    refine TC.seq ?_
    refine TC.region ?_
    refine TL.op (yq (y_ldb 5 (ev_t rfl) one_22 rfl rfl)) rfl rfl rfl ?_
    refine TL.op (yq (y_len (ev_t rfl) Try.underlying22 (fun w hw => ((fun w hw => ((rii_arg hconfigs) w hw).1) w hw).ln))) rfl rfl rfl ?_
    refine TL.op (yq (y_move ev_c)) rfl rfl rfl ?_
    refine TL.nil ?_
    refine TN.seq ?_
    refine TC.block ?_
    obtain ⟨c59, hc60⟩ : ∃ c, F_impl_FromSupport_L1 m configs values ((configs.length - 0) + 1) (0, (F_slices_Repeat_Sint_int ([1073741824]) ((F_impl_worksOf m ((configs.getD 0 []).length : Int)).1.length : Int))) = c := ⟨_, rfl⟩
    rw [hc60] at hF
    refine TC.loop (ι := Nat × Nat × List Int) (fun (fu1, k55_1, m0_1) => [(2, vvalues), (8, (.pointer (some ⟨r3_5.1, 0, none⟩))), (9, r4_6), (53, vconfigs), (54, (.int .i64 (configs.length : Int))), (55, (.int .i64 (k55_1 : Int)))]) (fun (fu1, k55_1, m0_1) => Hp w [rowI 3 r4_6 m0_1, .blk r3_5.1 70 [r3_5.2.1, r3_5.2.2.1, r3_5.2.2.2.2.1], tabI 25 3 r3_5.2.2.1 r3_5.2.2.2.1 ((F_impl_worksOf m ((configs.getD 0 []).length : Int)).1), tabI 25 3 r3_5.2.2.2.2.1 r3_5.2.2.2.2.2 ((F_impl_worksOf m ((configs.getD 0 []).length : Int)).2)]) (fun (fu1, k55_1, m0_1) => (k55_1 ≤ configs.length) ∧ (m0_1.length = (F_impl_worksOf m ((configs.getD 0 []).length : Int)).1.length) ∧ (∀ i, 0 ≤ m0_1.getD i 0 ∧ m0_1.getD i 0 ≤ 1073741824) ∧ configs.length - k55_1 < fu1 ∧ F_impl_FromSupport_L1 m configs values fu1 (k55_1, m0_1) = c59) (fun (fu1, k55_1, m0_1) => fu1) ((configs.length - 0) + 1, 0, (F_slices_Repeat_Sint_int ([1073741824]) ((F_impl_worksOf m ((configs.getD 0 []).length : Int)).1.length : Int))) ⟨(by first | omega | (simp [-List.getD_eq_getElem?_getD] <;> omega)), (by rw [repeat_eq _ _ (by omega) (by omega)]; simp), (rep_bd (by omega)), (by omega), hc60⟩ ⟨rfl, rfl, rfl, rfl, rfl, rfl, trivial⟩ (fun w hw => Hp.sublist hw (.cons_cons _ (.cons _ (.cons_cons _ (.cons_cons _ (.cons_cons _ (.cons _ (.cons _ .slnil)))))))) ?_
    rintro ⟨fu1, k55_1, m0_1⟩ hJ1
    obtain ⟨hi1_0, hi1_1, hi1_2, hmu1, hL1⟩ : (k55_1 ≤ configs.length) ∧ (m0_1.length = (F_impl_worksOf m ((configs.getD 0 []).length : Int)).1.length) ∧ (∀ i, 0 ≤ m0_1.getD i 0 ∧ m0_1.getD i 0 ≤ 1073741824) ∧ configs.length - k55_1 < fu1 ∧ F_impl_FromSupport_L1 m configs values fu1 (k55_1, m0_1) = c59 := hJ1
    change TC _ _ _ _ (Hp w [rowI 3 r4_6 m0_1, .blk r3_5.1 70 [r3_5.2.1, r3_5.2.2.1, r3_5.2.2.2.2.1], tabI 25 3 r3_5.2.2.1 r3_5.2.2.2.1 ((F_impl_worksOf m ((configs.getD 0 []).length : Int)).1), tabI 25 3 r3_5.2.2.2.2.1 r3_5.2.2.2.2.2 ((F_impl_worksOf m ((configs.getD 0 []).length : Int)).2)]) [(2, vvalues), (8, (.pointer (some ⟨r3_5.1, 0, none⟩))), (9, r4_6), (53, vconfigs), (54, (.int .i64 (configs.length : Int))), (55, (.int .i64 (k55_1 : Int)))]
    obtain ⟨mf1, rfl⟩ : ∃ m, fu1 = m + 1 := ⟨fu1 - 1, by omega⟩
    rw [F_impl_FromSupport_L1_s] at hL1
    have hve := hLs.el k55_1
    have hix := fun h => hKs.index_lt (hLs.cf k55_1 h).1 (by rw [(hLs.cf k55_1 h).2])
    refine TC.seq ?_
    refine TC.region ?_
    refine TL.op (yq (y_lss (ev_t rfl) (ev_t rfl))) rfl rfl rfl ?_
    refine TL.nil ?_
    refine TN.seq ?_
    refine TC.seq ?_
    refine TC.cond (b := decide ((k55_1 : Int) < (configs.length : Int))) (ev_t rfl) (fun h61 => ?_) (fun h61 => ?_)
    · rw [bif_pos h61] at hL1
      have q62 := (of_decide_eq_true h61)
      refine TC.skip ?_
      refine TN.seq ?_
      refine TC.seq ?_
      refine TC.block ?_
      refine TC.seq ?_
      refine TC.region ?_
      refine TL.op (yq (y_move (ev_t rfl))) rfl rfl rfl ?_
      have hb63 : k55_1 < configs.length := (by first | omega | (simp only [List.length_set, List.length_append, List.length_cons, List.length_nil, List.length_replicate]; omega) | (rw [sortI_length]; simp only [List.length_cons, List.length_nil]; omega))
      refine TL.op (yq (y_idx (k := k55_1) (ev_t rfl) (ev_t rfl) (by first | omega | simp) slT_22 (fun w hw => ((rii_arg hconfigs) w hw).1) hb63)) rfl rfl rfl ?_
      have ha64 := hconfigs.row (i := k55_1) hb63
      refine TL.op (yq (y_ldA (ev_t rfl) one_25 (rii_arg hconfigs) hb63)) rfl rfl rfl ?_
      refine TL.op (yq (y_assign (ev_t rfl))) rfl rfl rfl ?_
      refine TL.op (yq (y_assign (ev_t rfl))) rfl rfl rfl ?_
      refine TL.nil ?_
      refine TN.seq ?_
      refine TC.seq ?_
      refine TC.region ?_
      refine TL.op (yq (y_move (ev_t rfl))) rfl rfl rfl ?_
      refine TL.op (yq (y_move (ev_t rfl))) rfl rfl rfl ?_
      refine TL.op (y_call (vs := [(.pointer (some ⟨r3_5.1, 0, none⟩)), (uconfigs.getD k55_1 undef)]) (v := (.int .i64 (F_impl_works_index ((F_impl_worksOf m ((configs.getD 0 []).length : Int)).1) ((F_impl_worksOf m ((configs.getD 0 []).length : Int)).2) (configs.getD k55_1 [])))) en_68 ⟨(ev_t rfl), (ev_t rfl), trivial⟩ (fun w hw => impl_works_index_ok w r3_5.1 r3_5.2.1 r3_5.2.2.1 r3_5.2.2.2.1 ((F_impl_worksOf m ((configs.getD 0 []).length : Int)).1) r3_5.2.2.2.2.1 r3_5.2.2.2.2.2 ((F_impl_worksOf m ((configs.getD 0 []).length : Int)).2) (blk_at 1 rfl hw) ((rii_tab 2 rfl) w hw) ((rii_tab 3 rfl) w hw) (uconfigs.getD k55_1 undef) (configs.getD k55_1 []) ((ri_arg ha64) w hw) (by first | assumption | omega | grind))) rfl rfl rfl ?_
      refine TL.op (yq (y_assign (ev_t rfl))) rfl rfl rfl ?_
      refine TL.nil ?_
      refine TN.seq ?_
      refine TC.seq ?_
      refine TC.region ?_
      refine TL.op (yq (y_move (ev_t rfl))) rfl rfl rfl ?_
      refine TL.op (yq (y_len (ev_t rfl) Try.underlying25 (fun w hw => ((ri_row 0 rfl) w hw).ln))) rfl rfl rfl ?_
      refine TL.op (yq (y_move ev_c)) rfl rfl rfl ?_
      refine TL.nil ?_
      refine TN.seq ?_
      refine TC.block ?_
      obtain ⟨c65, hc66⟩ : ∃ c, F_impl_FromSupport_L2 m configs values k55_1 m0_1 ((m0_1.length - 0) + 1) (0, m0_1) = c := ⟨_, rfl⟩
      rw [hc66] at hL1
      refine TC.loop (ι := Nat × Nat × List Int) (fun (fu2, k65_2, m0_2) => [(2, vvalues), (8, (.pointer (some ⟨r3_5.1, 0, none⟩))), (9, r4_6), (10, (.int .i64 (k55_1 : Int))), (12, (.int .i64 (F_impl_works_index ((F_impl_worksOf m ((configs.getD 0 []).length : Int)).1) ((F_impl_worksOf m ((configs.getD 0 []).length : Int)).2) (configs.getD k55_1 [])))), (53, vconfigs), (54, (.int .i64 (configs.length : Int))), (55, (.int .i64 (k55_1 : Int))), (64, (.int .i64 (m0_1.length : Int))), (65, (.int .i64 (k65_2 : Int)))]) (fun (fu2, k65_2, m0_2) => Hp w [rowI 3 r4_6 m0_2, .blk r3_5.1 70 [r3_5.2.1, r3_5.2.2.1, r3_5.2.2.2.2.1], tabI 25 3 r3_5.2.2.1 r3_5.2.2.2.1 ((F_impl_worksOf m ((configs.getD 0 []).length : Int)).1), tabI 25 3 r3_5.2.2.2.2.1 r3_5.2.2.2.2.2 ((F_impl_worksOf m ((configs.getD 0 []).length : Int)).2)]) (fun (fu2, k65_2, m0_2) => (k65_2 ≤ m0_1.length) ∧ (m0_2.length = m0_1.length) ∧ (∀ i, 0 ≤ m0_2.getD i 0 ∧ m0_2.getD i 0 ≤ 1073741824) ∧ m0_1.length - k65_2 < fu2 ∧ F_impl_FromSupport_L2 m configs values k55_1 m0_1 fu2 (k65_2, m0_2) = c65) (fun (fu2, k65_2, m0_2) => fu2) ((m0_1.length - 0) + 1, 0, m0_1) ⟨(by first | omega | (simp [-List.getD_eq_getElem?_getD] <;> omega)), rfl, hi1_2, (by omega), hc66⟩ ⟨rfl, rfl, rfl, rfl, rfl, rfl, rfl, rfl, rfl, rfl, trivial⟩ (fun w hw => hw) ?_
      rintro ⟨fu2, k65_2, m0_2⟩ hJ2
      obtain ⟨hi2_0, hi2_1, hi2_2, hmu2, hL2⟩ : (k65_2 ≤ m0_1.length) ∧ (m0_2.length = m0_1.length) ∧ (∀ i, 0 ≤ m0_2.getD i 0 ∧ m0_2.getD i 0 ≤ 1073741824) ∧ m0_1.length - k65_2 < fu2 ∧ F_impl_FromSupport_L2 m configs values k55_1 m0_1 fu2 (k65_2, m0_2) = c65 := hJ2
      change TC _ _ _ _ (Hp w [rowI 3 r4_6 m0_2, .blk r3_5.1 70 [r3_5.2.1, r3_5.2.2.1, r3_5.2.2.2.2.1], tabI 25 3 r3_5.2.2.1 r3_5.2.2.2.1 ((F_impl_worksOf m ((configs.getD 0 []).length : Int)).1), tabI 25 3 r3_5.2.2.2.2.1 r3_5.2.2.2.2.2 ((F_impl_worksOf m ((configs.getD 0 []).length : Int)).2)]) [(2, vvalues), (8, (.pointer (some ⟨r3_5.1, 0, none⟩))), (9, r4_6), (10, (.int .i64 (k55_1 : Int))), (12, (.int .i64 (F_impl_works_index ((F_impl_worksOf m ((configs.getD 0 []).length : Int)).1) ((F_impl_worksOf m ((configs.getD 0 []).length : Int)).2) (configs.getD k55_1 [])))), (53, vconfigs), (54, (.int .i64 (configs.length : Int))), (55, (.int .i64 (k55_1 : Int))), (64, (.int .i64 (m0_1.length : Int))), (65, (.int .i64 (k65_2 : Int)))]
      obtain ⟨mf2, rfl⟩ : ∃ m, fu2 = m + 1 := ⟨fu2 - 1, by omega⟩
      rw [F_impl_FromSupport_L2_s] at hL2
      have ho := hi2_2 k65_2
      have hixa := hix (by omega)
      have hrj := hWd.row (F_impl_works_index (F_impl_worksOf m ((configs.getD 0 []).length : Int)).1 (F_impl_worksOf m ((configs.getD 0 []).length : Int)).2 (configs.getD k55_1 [])).toNat (by omega)
      have hke := hWd.el (F_impl_works_index (F_impl_worksOf m ((configs.getD 0 []).length : Int)).1 (F_impl_worksOf m ((configs.getD 0 []).length : Int)).2 (configs.getD k55_1 [])).toNat k65_2
      refine TC.seq ?_
      refine TC.region ?_
      refine TL.op (yq (y_lss (ev_t rfl) (ev_t rfl))) rfl rfl rfl ?_
      refine TL.nil ?_
      refine TN.seq ?_
      refine TC.seq ?_
      refine TC.cond (b := decide ((k65_2 : Int) < (m0_1.length : Int))) (ev_t rfl) (fun h67 => ?_) (fun h67 => ?_)
      · rw [bif_pos h67] at hL2
        have q68 := (of_decide_eq_true h67)
        refine TC.skip ?_
        refine TN.seq ?_
        refine TC.seq ?_
        refine TC.block ?_
        refine TC.seq ?_
        refine TC.region ?_
        refine TL.op (yq (y_move (ev_t rfl))) rfl rfl rfl ?_
        refine TL.op (yq (y_assign (ev_t rfl))) rfl rfl rfl ?_
        refine TL.nil ?_
        refine TN.seq ?_
        refine TC.regionT 23 (by kernel_rfl) (by kernel_rfl) dr_hp ?_
        refine TQ.op (yq (y_move (ev_t rfl))) rfl rfl rfl ?_
        refine TQ.op (yq (y_move (ev_t rfl))) rfl rfl rfl ?_
        refine TQ.op (yq (y_move (ev_t rfl))) rfl rfl rfl ?_
        refine TQ.op (yq (y_move (ev_t rfl))) rfl rfl rfl ?_
        have hb69 : k65_2 < m0_2.length := (by first | omega | (simp only [List.length_set, List.length_append, List.length_cons, List.length_nil, List.length_replicate]; omega) | (rw [sortI_length]; simp only [List.length_cons, List.length_nil]; omega))
        refine TQ.op (yq (y_idx (k := k65_2) (ev_t rfl) (ev_t rfl) (by first | omega | simp) slT_25 (ri_row 0 rfl) hb69)) rfl rfl rfl ?_
        refine TQ.op (yq (y_ldi (ev_t rfl) one_3 (ri_row 0 rfl) hb69)) rfl rfl rfl ?_
        refine TQ.op (yq (y_move (ev_t rfl))) rfl rfl rfl ?_
        refine TQ.op (yq (y_move (ev_t rfl))) rfl rfl rfl ?_
        have hb70 : k55_1 < values.length := (by first | omega | (simp only [List.length_set, List.length_append, List.length_cons, List.length_nil, List.length_replicate]; omega) | (rw [sortI_length]; simp only [List.length_cons, List.length_nil]; omega))
        refine TQ.op (yq (y_idx (k := k55_1) (ev_t rfl) (ev_t rfl) (by first | omega | simp) slT_25 (ri_arg hvalues) hb70)) rfl rfl rfl ?_
        refine TQ.op (yq (y_ldi (ev_t rfl) one_3 (ri_arg hvalues) hb70)) rfl rfl rfl ?_
        refine TQ.op (yq (y_move (ev_t rfl))) rfl rfl rfl ?_
        refine TQ.op (yq (y_nilp (ev_t rfl))) rfl rfl rfl ?_
        refine TQ.op (yq (y_fa (fa_70_2 r3_5.1) (ev_t rfl))) rfl rfl rfl ?_
        refine TQ.op (yq (y_ldb 1 (ev_t rfl) one_22 rfl rfl)) rfl rfl rfl ?_
        refine TQ.op (yq (y_move (ev_t rfl))) rfl rfl rfl ?_
        have hb71 : ((F_impl_works_index ((F_impl_worksOf m ((configs.getD 0 []).length : Int)).1) ((F_impl_worksOf m ((configs.getD 0 []).length : Int)).2) (configs.getD k55_1 []))).toNat < (F_impl_worksOf m ((configs.getD 0 []).length : Int)).2.length := (by first | omega | (simp only [List.length_set, List.length_append, List.length_cons, List.length_nil, List.length_replicate]; omega) | (rw [sortI_length]; simp only [List.length_cons, List.length_nil]; omega))
        refine TQ.op (yq (y_idx (k := ((F_impl_works_index ((F_impl_worksOf m ((configs.getD 0 []).length : Int)).1) ((F_impl_worksOf m ((configs.getD 0 []).length : Int)).2) (configs.getD k55_1 []))).toNat) (ev_t rfl) (ev_t rfl) (by first | omega | simp) slT_22 (fun w hw => ((rii_tab 3 rfl) w hw).1) hb71)) rfl rfl rfl ?_
        refine TQ.op (yq (y_ldT 3 (ev_t rfl) one_25 rfl hb71)) rfl rfl rfl ?_
        refine TQ.op (yq (y_move (ev_t rfl))) rfl rfl rfl ?_
        have hb72 : k65_2 < ((F_impl_worksOf m ((configs.getD 0 []).length : Int)).2.getD (((F_impl_works_index ((F_impl_worksOf m ((configs.getD 0 []).length : Int)).1) ((F_impl_worksOf m ((configs.getD 0 []).length : Int)).2) (configs.getD k55_1 []))).toNat) []).length := (by first | omega | (simp only [List.length_set, List.length_append, List.length_cons, List.length_nil, List.length_replicate]; omega) | (rw [sortI_length]; simp only [List.length_cons, List.length_nil]; omega))
        refine TQ.op (yq (y_idx (k := k65_2) (ev_t rfl) (ev_t rfl) (by first | omega | simp) slT_25 (ri_tab 3 (((F_impl_works_index ((F_impl_worksOf m ((configs.getD 0 []).length : Int)).1) ((F_impl_worksOf m ((configs.getD 0 []).length : Int)).2) (configs.getD k55_1 []))).toNat) rfl hb71) hb72)) rfl rfl rfl ?_
        refine TQ.op (yq (y_ldi (ev_t rfl) one_3 (ri_tab 3 (((F_impl_works_index ((F_impl_worksOf m ((configs.getD 0 []).length : Int)).1) ((F_impl_worksOf m ((configs.getD 0 []).length : Int)).2) (configs.getD k55_1 []))).toNat) rfl hb71) hb72)) rfl rfl rfl ?_
        refine TQ.op (yq (y_add (ev_t rfl) (ev_t rfl) (by unfold In64; omega))) rfl rfl rfl ?_
        refine TQ.op (yq (y_min (ev_t rfl) (ev_t rfl))) rfl rfl rfl ?_
        have hb73 : k65_2 < m0_2.length := (by first | omega | (simp only [List.length_set, List.length_append, List.length_cons, List.length_nil, List.length_replicate]; omega) | (rw [sortI_length]; simp only [List.length_cons, List.length_nil]; omega))
        refine TQ.op (yq (y_idx (k := k65_2) (ev_t rfl) (ev_t rfl) (by first | omega | simp) slT_25 (ri_row 0 rfl) hb73)) rfl rfl rfl ?_
        refine TQ.tail ?_
        refine TL.storeI 0 (ev_t rfl) (ev_t rfl) one_3 rfl hb73 ?_
        refine TL.nil ?_
        refine TN.blockN ?_
        refine TN.seq ?_
        refine TC.region ?_
        refine TL.op (yq (y_add (ev_t rfl) ev_c (by unfold In64; omega))) rfl rfl rfl ?_
        refine TL.op (yq (y_move (ev_t rfl))) rfl rfl rfl ?_
        refine TL.nil ?_
        exact TN.hand (mf2, (k65_2 + 1), (m0_2.set k65_2 (min (m0_2.getD k65_2 0) ((values.getD k55_1 0) + (((F_impl_worksOf m ((configs.getD 0 []).length : Int)).2.getD (((F_impl_works_index ((F_impl_worksOf m ((configs.getD 0 []).length : Int)).1) ((F_impl_worksOf m ((configs.getD 0 []).length : Int)).2) (configs.getD k55_1 []))).toNat) []).getD k65_2 0))))) ⟨(by first | omega | (simp [-List.getD_eq_getElem?_getD] <;> omega)), (by simp only [List.length_set]; exact hi2_1), (set_bd hi2_2 (by omega)), (by omega), hL2⟩ (Nat.lt_succ_self _) ⟨rfl, rfl, rfl, rfl, rfl, rfl, rfl, rfl, rfl, rfl, trivial⟩ (fun w hw => hw)
      · rw [bif_neg h67] at hL2
        have q68 := (of_decide_eq_false h67)
        refine TC.exit ?_
        refine TN.thenE ?_
        refine TN.thenE ?_
        rw [← hL2, elim_next] at hL1
        try dsimp only at hL1
        refine TN.blockH ?_
        refine TN.blockN ?_
        refine TN.seq ?_
        refine TC.region ?_
        refine TL.op (yq (y_add (ev_t rfl) ev_c (by unfold In64; omega))) rfl rfl rfl ?_
        refine TL.op (yq (y_move (ev_t rfl))) rfl rfl rfl ?_
        refine TL.nil ?_
        exact TN.hand (mf1, (k55_1 + 1), m0_2) ⟨(by first | omega | (simp [-List.getD_eq_getElem?_getD] <;> omega)), (hi2_1.trans hi1_1), hi2_2, (by omega), hL1⟩ (Nat.lt_succ_self _) ⟨rfl, rfl, rfl, rfl, rfl, rfl, trivial⟩ (fun w hw => hw)
    · rw [bif_neg h61] at hL1
      have q62 := (of_decide_eq_false h61)
      refine TC.exit ?_
      refine TN.thenE ?_
      refine TN.thenE ?_
      rw [← hL1, elim_next] at hF
      try dsimp only at hF
      refine TN.blockH ?_
      refine TN.seq ?_
      refine TC.seq ?_
      refine TC.seq ?_
      refine TC.region ?_
      refine TL.op (yq (y_move (ev_t rfl))) rfl rfl rfl ?_
      refine TL.op (y_call (vs := [r4_6]) (v := (.bool (F_impl_isSmall m0_1))) en_79 ⟨(ev_t rfl), trivial⟩ (fun w hw => impl_isSmall_ok w r4_6 m0_1 ((ri_row 0 rfl) w hw))) rfl rfl rfl ?_
      refine TL.op (yq (y_not (ev_t rfl))) rfl rfl rfl ?_
      refine TL.nil ?_
      refine TN.seq ?_
      refine TC.cond (b := !(F_impl_isSmall m0_1)) (ev_t rfl) (fun h74 => ?_) (fun h74 => ?_)
      · rw [bif_pos h74] at hF
        have q75 := (not_t h74)
        refine TC.seq ?_
        refine TC.region ?_
        refine TL.op (yq (y_assign ev_c)) rfl rfl rfl ?_
        refine TL.op (yq (y_assign ev_c)) rfl rfl rfl ?_
        refine TL.nil ?_
        refine TN.seq ?_
        refine TC.ret ?_
        refine TN.thenR ?_
        subst hF
        refine TN.cls (fun w hw => hw.nil 3 1) ?_
        exact TN.ret2 rfl (ev_t rfl) (ev_t rfl) (fun w' hw => ⟨(.slice none 0 0), rfl, Hp.sublist hw (.cons_cons _ (.cons _ (.cons _ (.cons _ (.cons _ .slnil)))))⟩)
      · rw [bif_neg h74] at hF
        have q75 := (isSmall_t (not_f h74))
        refine TC.skip ?_
        refine TN.seq ?_
        refine TC.seq ?_
        refine TC.region ?_
        refine TL.op (yq (y_move (ev_t rfl))) rfl rfl rfl ?_
        refine TL.op (yq (y_assign (ev_t rfl))) rfl rfl rfl ?_
        refine TL.op (yq (y_assign ev_c)) rfl rfl rfl ?_
        refine TL.nil ?_
        refine TN.seq ?_
        refine TC.ret ?_
        subst hF
        exact TN.ret2 rfl (ev_t rfl) (ev_t rfl) (fun w' hw => ⟨r4_6, rfl, Hp.sublist hw (.cons_cons _ (.cons _ (.cons _ (.cons _ .slnil))))⟩)

set_option maxRecDepth 4000 in
set_option maxHeartbeats 1000000 in
theorem spec_l7Listed_ok (w : World) (vm : Value) (um : List Value) (m : List (List Int)) (hm : RII w vm um m) (vconfigs : Value) (uconfigs : List Value) (configs : List (List Int)) (hconfigs : RII w vconfigs uconfigs configs) (vvalues : Value) (values : List Int) (hvalues : RI w vvalues values)  :
    Calls Try.prog 75 ([(.agg #[vm]), vconfigs, vvalues] : List Value).toArray w (Ret (.bool (F_spec_l7Listed m configs values)) (Hp w [])) := by
  obtain ⟨rz, hF⟩ : ∃ rz, (F_spec_l7Listed m configs values) = rz := ⟨_, rfl⟩
  rw [hF]
  unfold F_spec_l7Listed at hF
  have hlen_m := argT_len hm
  have hlen_configs := argT_len hconfigs
  have hlen_values := arg_len hvalues
  refine calls_tc Try.func75 rfl rfl rfl ?_
  change TC _ _ _ _ (Hp w []) [(0, (.agg #[vm])), (1, vconfigs), (2, vvalues)]
  refine TC.seq ?_
  refine TC.region ?_
  refine TL.box (ev_t rfl) rfl (fun g0_0 => ?_)
  refine TL.op (yq (y_assign ev_c)) rfl rfl rfl ?_
  refine TL.nil ?_
  refine TN.seq ?_
  refine TC.seq ?_
  refine TC.seq ?_
  refine TC.region ?_
  refine TL.op (yq (y_ldagg (cs := [vm]) 0 (ev_t rfl) agg_29 rfl)) rfl rfl rfl ?_
  refine TL.op (y_call (vs := [(.agg #[vm])]) (v := (.bool (F_spec_l6Good m))) en_64 ⟨(ev_t rfl), trivial⟩ (fun w hw => spec_l6Good_ok w vm um m ((rii_arg hm) w hw))) rfl rfl rfl ?_
  refine TL.op (yq (y_not (ev_t rfl))) rfl rfl rfl ?_
  refine TL.op (yq (y_move (ev_t rfl))) rfl rfl rfl ?_
  refine TL.opw (w_f rfl rfl rfl) (fun hg => yq (y_move (ev_t rfl))) rfl rfl ?_
  refine TL.opw (w_f rfl rfl rfl) (fun hg => yq (y_len (ev_g rfl hg) Try.underlying22 (fun w hw => ((fun w hw => ((rii_arg hconfigs) w hw).1) w hw).ln))) rfl rfl ?_
  refine TL.opw (w_f rfl rfl rfl) (fun hg => y_call (vs := [(.int .i64 (configs.length : Int)), (.int .i64 1), (.int .i64 56)]) (v := (.bool ((decide (1 ≤ (configs.length : Int))) && (decide ((configs.length : Int) ≤ 56))))) en_96 ⟨(ev_g rfl hg), ev_c, ev_c, trivial⟩ (fun w hw => spec_l1In_ok w (configs.length : Int) 1 56)) rfl rfl ?_
  refine TL.opw (w_f rfl rfl rfl) (fun hg => yq (y_not (ev_g rfl hg))) rfl rfl ?_
  refine TL.op (yq (y_or (ev_t rfl) (fun hq => (ev_g rfl hq)))) rfl rfl rfl ?_
  refine TL.op (yq (y_move (ev_t rfl))) rfl rfl rfl ?_
  refine TL.opw (w_f rfl rfl rfl) (fun hg => yq (y_move (ev_t rfl))) rfl rfl ?_
  refine TL.opw (w_f rfl rfl rfl) (fun hg => yq (y_len (ev_g rfl hg) Try.underlying25 (fun w hw => ((ri_arg hvalues) w hw).ln))) rfl rfl ?_
  refine TL.opw (w_f rfl rfl rfl) (fun hg => yq (y_move (ev_t rfl))) rfl rfl ?_
  refine TL.opw (w_f rfl rfl rfl) (fun hg => yq (y_len (ev_g rfl hg) Try.underlying22 (fun w hw => ((fun w hw => ((rii_arg hconfigs) w hw).1) w hw).ln))) rfl rfl ?_
  refine TL.opw (w_f rfl rfl rfl) (fun hg => yq (y_neq (ev_g rfl hg) (ev_g rfl hg))) rfl rfl ?_
  refine TL.op (yq (y_or (ev_t rfl) (fun hq => (ev_g rfl hq)))) rfl rfl rfl ?_
  refine TL.nil ?_
  refine TN.seq ?_
  refine TC.cond (b := (((!(F_spec_l6Good m)) || (!((decide (1 ≤ (configs.length : Int))) && (decide ((configs.length : Int) ≤ 56))))) || (!decide ((values.length : Int) = (configs.length : Int))))) (ev_t rfl) (fun h19 => ?_) (fun h19 => ?_)
  · rw [bif_pos h19] at hF
    have q20 := ((or_t h19).imp (fun h => ((or_t h).imp (fun h => (not_t h)) (fun h => ((and_f (not_t h)).imp (fun h => (of_decide_eq_false h)) (fun h => (of_decide_eq_false h)))))) (fun h => (of_decide_eq_false (not_t h))))
    refine TC.seq ?_
    refine TC.region ?_
    refine TL.op (yq (y_assign ev_c)) rfl rfl rfl ?_
    refine TL.nil ?_
    refine TN.seq ?_
    refine TC.ret ?_
    refine TN.thenR ?_
    subst hF
    exact TN.ret1 rfl (ev_t rfl) (fun w' hw => ⟨rfl, Hp.sublist hw (List.nil_sublist _)⟩)
  · rw [bif_neg h19] at hF
    have q20 := (and_imp (or_f h19) (fun h => (and_imp (or_f h) (fun h => (l6Good_t (not_f h))) (fun h => (and_imp (and_t (not_f h)) (fun h => (of_decide_eq_true h)) (fun h => (of_decide_eq_true h)))))) (fun h => (of_decide_eq_true (not_f h))))
    refine TC.skip ?_
    refine TN.seq ?_
    refine TC.seq ?_
    refine TC.seq ?_
    refine TC.region ?_
    refine TL.op (yq (y_assign ev_c)) rfl rfl rfl ?_
    refine TL.nil ?_
    refine TN.seq ?_
    refine TC.block ?_
    obtain ⟨c21, hc22⟩ : ∃ c, F_spec_l7Listed_L1 m configs values ((configs.length - 0) + 1) 0 = c := ⟨_, rfl⟩
    rw [hc22] at hF
    refine TC.loop (ι := Nat × Nat) (fun (fu1, i1) => [(1, vconfigs), (2, vvalues), (3, (.pointer (some ⟨g0_0, 0, none⟩))), (7, (.int .i64 (i1 : Int)))]) (fun (fu1, i1) => Hp w [.blk g0_0 29 [vm]]) (fun (fu1, i1) => (i1 ≤ configs.length) ∧ configs.length - i1 < fu1 ∧ F_spec_l7Listed_L1 m configs values fu1 i1 = c21) (fun (fu1, i1) => fu1) ((configs.length - 0) + 1, 0) ⟨(by first | omega | (simp [-List.getD_eq_getElem?_getD] <;> omega)), (by omega), hc22⟩ ⟨rfl, rfl, rfl, rfl, trivial⟩ (fun w hw => hw) ?_
    rintro ⟨fu1, i1⟩ hJ1
    obtain ⟨hi1_0, hmu1, hL1⟩ : (i1 ≤ configs.length) ∧ configs.length - i1 < fu1 ∧ F_spec_l7Listed_L1 m configs values fu1 i1 = c21 := hJ1
    change TC _ _ _ _ (Hp w [.blk g0_0 29 [vm]]) [(1, vconfigs), (2, vvalues), (3, (.pointer (some ⟨g0_0, 0, none⟩))), (7, (.int .i64 (i1 : Int)))]
    obtain ⟨mf1, rfl⟩ : ∃ m, fu1 = m + 1 := ⟨fu1 - 1, by omega⟩
    rw [F_spec_l7Listed_L1_s] at hL1
    refine TC.seq ?_
    refine TC.seq ?_
    refine TC.region ?_
    refine TL.op (yq (y_move (ev_t rfl))) rfl rfl rfl ?_
    refine TL.op (yq (y_move (ev_t rfl))) rfl rfl rfl ?_
    refine TL.op (yq (y_len (ev_t rfl) Try.underlying22 (fun w hw => ((fun w hw => ((rii_arg hconfigs) w hw).1) w hw).ln))) rfl rfl rfl ?_
    refine TL.op (yq (y_lss (ev_t rfl) (ev_t rfl))) rfl rfl rfl ?_
    refine TL.nil ?_
    refine TN.seq ?_
    refine TC.cond (b := decide ((i1 : Int) < (configs.length : Int))) (ev_t rfl) (fun h23 => ?_) (fun h23 => ?_)
    · rw [bif_pos h23] at hL1
      have q24 := (of_decide_eq_true h23)
      refine TC.skip ?_
      refine TN.seq ?_
      refine TC.seq ?_
      refine TC.block ?_
      refine TC.seq ?_
      refine TC.regionQ (by kernel_rfl) (by kernel_rfl) dr_hp ?_
      refine TQ.op (yq (y_move (ev_t rfl))) rfl rfl rfl ?_
      refine TQ.op (yq (y_move (ev_t rfl))) rfl rfl rfl ?_
      have hb25 : i1 < configs.length := (by first | omega | (simp only [List.length_set, List.length_append, List.length_cons, List.length_nil, List.length_replicate]; omega) | (rw [sortI_length]; simp only [List.length_cons, List.length_nil]; omega))
      refine TQ.op (yq (y_idx (k := i1) (ev_t rfl) (ev_t rfl) (by first | omega | simp) slT_22 (fun w hw => ((rii_arg hconfigs) w hw).1) hb25)) rfl rfl rfl ?_
      have ha26 := hconfigs.row (i := i1) hb25
      refine TQ.op (yq (y_ldA (ev_t rfl) one_25 (rii_arg hconfigs) hb25)) rfl rfl rfl ?_
      refine TQ.op (yq (y_len (ev_t rfl) Try.underlying25 (fun w hw => ((ri_arg ha26) w hw).ln))) rfl rfl rfl ?_
      refine TQ.op (yq (y_move (ev_t rfl))) rfl rfl rfl ?_
      have hb27 : 0 < configs.length := (by first | omega | (simp only [List.length_set, List.length_append, List.length_cons, List.length_nil, List.length_replicate]; omega) | (rw [sortI_length]; simp only [List.length_cons, List.length_nil]; omega))
      refine TQ.op (yq (y_idx (k := 0) (ev_t rfl) ev_c (by first | omega | simp) slT_22 (fun w hw => ((rii_arg hconfigs) w hw).1) hb27)) rfl rfl rfl ?_
      have ha28 := hconfigs.row (i := 0) hb27
      refine TQ.op (yq (y_ldA (ev_t rfl) one_25 (rii_arg hconfigs) hb27)) rfl rfl rfl ?_
      refine TQ.op (yq (y_len (ev_t rfl) Try.underlying25 (fun w hw => ((ri_arg ha28) w hw).ln))) rfl rfl rfl ?_
      refine TQ.op (yq (y_neq (ev_t rfl) (ev_t rfl))) rfl rfl rfl ?_
      refine TQ.op (yq (y_move (ev_t rfl))) rfl rfl rfl ?_
      refine TQ.opw (w_f rfl rfl rfl) (fun hg => yq (y_fa (fa_29_0 g0_0) (ev_t rfl))) rfl rfl ?_
      refine TQ.opw (w_f rfl rfl rfl) (fun hg => yq (y_ldb 0 (ev_g rfl hg) one_22 rfl rfl)) rfl rfl ?_
      refine TQ.opw (w_f rfl rfl rfl) (fun hg => yq (y_len (ev_g rfl hg) Try.underlying22 (fun w hw => ((fun w hw => ((rii_arg hm) w hw).1) w hw).ln))) rfl rfl ?_
      refine TQ.opw (w_f rfl rfl rfl) (fun hg => yq (y_move (ev_t rfl))) rfl rfl ?_
      refine TQ.opw (w_f rfl rfl rfl) (fun hg => yq (y_move (ev_t rfl))) rfl rfl ?_
      refine TQ.opw (w_f rfl rfl rfl) (fun hg => yq (y_idx (k := i1) (ev_g rfl hg) (ev_g rfl hg) (by first | omega | simp) slT_22 (fun w hw => ((rii_arg hconfigs) w hw).1) (show i1 < configs.length by have hgf := (of_decide_eq_true (not_f (not_t hg))); omega))) rfl rfl ?_
      refine TQ.opw (w_f rfl rfl rfl) (fun hg => yq (y_ldA (ev_g rfl hg) one_25 (rii_arg hconfigs) (show i1 < configs.length by have hgf := (of_decide_eq_true (not_f (not_t hg))); omega))) rfl rfl ?_
      refine TQ.opw (w_f rfl rfl rfl) (fun hg => y_call (vs := [(.int .i64 (m.length : Int)), (uconfigs.getD i1 undef)]) (v := (.bool (F_spec_l6Config (m.length : Int) (configs.getD i1 [])))) en_65 ⟨(ev_g rfl hg), (ev_g rfl hg), trivial⟩ (fun w hw => spec_l6Config_ok w (m.length : Int) (uconfigs.getD i1 undef) (configs.getD i1 []) ((ri_arg (hconfigs.row (i := i1) (show i1 < configs.length by have hgf := (of_decide_eq_true (not_f (not_t hg))); omega))) w hw) (by have hgf := (of_decide_eq_true (not_f (not_t hg))); first | assumption | omega | (have hq := hgf.n6; omega) | (have hq := hgf.1.n6; omega) | grind) (by have hgf := (of_decide_eq_true (not_f (not_t hg))); first | assumption | omega | (have hq := hgf.n6; omega) | (have hq := hgf.1.n6; omega) | grind))) rfl rfl ?_
      refine TQ.opw (w_f rfl rfl rfl) (fun hg => yq (y_not (ev_g rfl hg))) rfl rfl ?_
      refine TQ.op (yq (y_or (ev_t rfl) (fun hq => (ev_g rfl hq)))) rfl rfl rfl ?_
      refine TQ.op (yq (y_move (ev_t rfl))) rfl rfl rfl ?_
      refine TQ.opw (w_f rfl rfl rfl) (fun hg => yq (y_move (ev_t rfl))) rfl rfl ?_
      refine TQ.opw (w_f rfl rfl rfl) (fun hg => yq (y_move (ev_t rfl))) rfl rfl ?_
      refine TQ.opw (w_f rfl rfl rfl) (fun hg => yq (y_idx (k := i1) (ev_g rfl hg) (ev_g rfl hg) (by first | omega | simp) slT_25 (ri_arg hvalues) (show i1 < values.length by have hgf := (and_imp (or_f (not_t hg)) (fun h => (of_decide_eq_true (not_f h))) (fun h => (l6Config_t (not_f h)))); omega))) rfl rfl ?_
      refine TQ.opw (w_f rfl rfl rfl) (fun hg => yq (y_ldi (ev_g rfl hg) one_3 (ri_arg hvalues) (show i1 < values.length by have hgf := (and_imp (or_f (not_t hg)) (fun h => (of_decide_eq_true (not_f h))) (fun h => (l6Config_t (not_f h)))); omega))) rfl rfl ?_
      refine TQ.opw (w_f rfl rfl rfl) (fun hg => y_call (vs := [(.int .i64 (values.getD i1 0)), (.int .i64 0), (.int .i64 99999)]) (v := (.bool ((decide (0 ≤ (values.getD i1 0))) && (decide ((values.getD i1 0) ≤ 99999))))) en_96 ⟨(ev_g rfl hg), ev_c, ev_c, trivial⟩ (fun w hw => spec_l1In_ok w (values.getD i1 0) 0 99999)) rfl rfl ?_
      refine TQ.opw (w_f rfl rfl rfl) (fun hg => yq (y_not (ev_g rfl hg))) rfl rfl ?_
      refine TQ.op (yq (y_or (ev_t rfl) (fun hq => (ev_g rfl hq)))) rfl rfl rfl ?_
      refine TQ.nil ?_
      refine TN.seq ?_
      refine TC.cond (b := (((!decide (((configs.getD i1 []).length : Int) = ((configs.getD 0 []).length : Int))) || (!(F_spec_l6Config (m.length : Int) (configs.getD i1 [])))) || (!((decide (0 ≤ (values.getD i1 0))) && (decide ((values.getD i1 0) ≤ 99999)))))) (ev_t rfl) (fun h29 => ?_) (fun h29 => ?_)
      · rw [bif_pos h29] at hL1
        have q30 := ((or_t h29).imp (fun h => ((or_t h).imp (fun h => (of_decide_eq_false (not_t h))) (fun h => (not_t h)))) (fun h => ((and_f (not_t h)).imp (fun h => (of_decide_eq_false h)) (fun h => (of_decide_eq_false h)))))
        refine TC.seq ?_
        refine TC.region ?_
        refine TL.op (yq (y_assign ev_c)) rfl rfl rfl ?_
        refine TL.nil ?_
        refine TN.seq ?_
        refine TC.ret ?_
        refine TN.blockR ?_
        refine TN.thenR ?_
        refine TN.thenR ?_
        rw [← hL1, elim_ret] at hF
        refine TN.blockR ?_
        refine TN.thenR ?_
        subst hF
        exact TN.ret1 rfl (ev_t rfl) (fun w' hw => ⟨rfl, Hp.sublist hw (List.nil_sublist _)⟩)
      · rw [bif_neg h29] at hL1
        have q30 := (and_imp (or_f h29) (fun h => (and_imp (or_f h) (fun h => (of_decide_eq_true (not_f h))) (fun h => (l6Config_t (not_f h))))) (fun h => (and_imp (and_t (not_f h)) (fun h => (of_decide_eq_true h)) (fun h => (of_decide_eq_true h)))))
        refine TC.skip ?_
        refine TN.blockN ?_
        refine TN.seq ?_
        refine TC.region ?_
        refine TL.op (yq (y_move (ev_t rfl))) rfl rfl rfl ?_
        refine TL.op (yq (y_add (ev_t rfl) ev_c (by unfold In64; omega))) rfl rfl rfl ?_
        refine TL.op (yq (y_assign (ev_t rfl))) rfl rfl rfl ?_
        refine TL.nil ?_
        exact TN.hand (mf1, (i1 + 1)) ⟨(by first | omega | (simp [-List.getD_eq_getElem?_getD] <;> omega)), (by omega), hL1⟩ (Nat.lt_succ_self _) ⟨rfl, rfl, rfl, rfl, trivial⟩ (fun w hw => hw)
    · rw [bif_neg h23] at hL1
      have q24 := (of_decide_eq_false h23)
      refine TC.exit ?_
      refine TN.thenE ?_
      refine TN.thenE ?_
      rw [← hL1, elim_next] at hF
      try dsimp only at hF
      refine TN.blockH ?_
      refine TN.seq ?_
      refine TC.seq ?_
      refine TC.region ?_
      refine TL.op (yq (y_assign ev_c)) rfl rfl rfl ?_
      refine TL.nil ?_
      refine TN.seq ?_
      refine TC.ret ?_
      subst hF
      exact TN.ret1 rfl (ev_t rfl) (fun w' hw => ⟨rfl, Hp.sublist hw (List.nil_sublist _)⟩)

set_option maxRecDepth 4000 in
set_option maxHeartbeats 1000000 in
theorem spec_FromSupport_ok (w : World) (vm : Value) (um : List Value) (m : List (List Int)) (hm : RII w vm um m) (vconfigs : Value) (uconfigs : List Value) (configs : List (List Int)) (hconfigs : RII w vconfigs uconfigs configs) (vvalues : Value) (values : List Int) (hvalues : RI w vvalues values)  :
    Calls Try.prog 39 ([(.agg #[vm]), vconfigs, vvalues] : List Value).toArray w (fun e w' => ∃ i : Value, e = .returned (.tuple #[i, (.bool ((F_spec_FromSupport m configs values).2))]) ∧ Hp w [rowI 3 i ((F_spec_FromSupport m configs values).1)] w') := by
  obtain ⟨rz, hF⟩ : ∃ rz, (F_spec_FromSupport m configs values) = rz := ⟨_, rfl⟩
  rw [hF]
  unfold F_spec_FromSupport at hF
  have hlen_m := argT_len hm
  have hlen_configs := argT_len hconfigs
  have hlen_values := arg_len hvalues
  refine calls_tc Try.func39 rfl rfl rfl ?_
  change TC _ _ _ _ (Hp w []) [(0, (.agg #[vm])), (1, vconfigs), (2, vvalues)]
  refine TC.seq ?_
  refine TC.region ?_
  refine TL.box (ev_t rfl) rfl (fun g0_0 => ?_)
  refine TL.op (yq (y_assign ev_c)) rfl rfl rfl ?_
  refine TL.op (yq (y_assign ev_c)) rfl rfl rfl ?_
  refine TL.nil ?_
  refine TN.seq ?_
  refine TC.seq ?_
  refine TC.region ?_
  refine TL.buildI (zs := []) (qs := []) slT_25 rfl trivial rfl (by decide) rfl (fun v1_0 => ?_)
  refine TL.op (yq (y_assign (ev_t rfl))) rfl rfl rfl ?_
  refine TL.nil ?_
  refine TN.seq ?_
  refine TC.seq ?_
  refine TC.seq ?_
  refine TC.region ?_
  refine TL.op (yq (y_ldagg (cs := [vm]) 1 (ev_t rfl) agg_29 rfl)) rfl rfl rfl ?_
  refine TL.op (yq (y_move (ev_t rfl))) rfl rfl rfl ?_
  refine TL.op (yq (y_move (ev_t rfl))) rfl rfl rfl ?_
  refine TL.op (y_call (vs := [(.agg #[vm]), vconfigs, vvalues]) (v := (.bool (F_spec_l7Listed m configs values))) en_75 ⟨(ev_t rfl), (ev_t rfl), (ev_t rfl), trivial⟩ (fun w hw => spec_l7Listed_ok w vm um m ((rii_arg hm) w hw) vconfigs uconfigs configs ((rii_arg hconfigs) w hw) vvalues values ((ri_arg hvalues) w hw))) rfl rfl rfl ?_
  refine TL.op (yq (y_not (ev_t rfl))) rfl rfl rfl ?_
  refine TL.nil ?_
  refine TN.seq ?_
  refine TC.cond (b := !(F_spec_l7Listed m configs values)) (ev_t rfl) (fun h37 => ?_) (fun h37 => ?_)
  · rw [bif_pos h37] at hF
    have q38 := (not_t h37)
    refine TC.seq ?_
    refine TC.region ?_
    refine TL.op (yq (y_move (ev_t rfl))) rfl rfl rfl ?_
    refine TL.op (yq (y_assign (ev_t rfl))) rfl rfl rfl ?_
    refine TL.op (yq (y_assign ev_c)) rfl rfl rfl ?_
    refine TL.nil ?_
    refine TN.seq ?_
    refine TC.ret ?_
    refine TN.thenR ?_
    subst hF
    exact TN.ret2 rfl (ev_t rfl) (ev_t rfl) (fun w' hw => ⟨v1_0, rfl, Hp.sublist hw (.cons_cons _ (.cons _ .slnil))⟩)
  · rw [bif_neg h37] at hF
    have q38 := (l7Listed_t (not_f h37))
    have hLs := q38
    have hKs := hLs.ks
    have hTab := hKs.tab
    have hn6 := hTab.n6
    have hk3 := hKs.k3
    have h56 := hKs.s56
    have hc1 := hLs.n1
    have hc56 := hLs.n56
    have hvl := hLs.vl
    refine TC.skip ?_
    refine TN.seq ?_
    refine TC.seq ?_
    refine TC.regionT 7 (by kernel_rfl) (by kernel_rfl) dr_hp ?_
    refine TQ.op (yq (y_fa (fa_29_0 g0_0) (ev_t rfl))) rfl rfl rfl ?_
    refine TQ.op (yq (y_ldb 1 (ev_t rfl) one_22 rfl rfl)) rfl rfl rfl ?_
    refine TQ.op (yq (y_len (ev_t rfl) Try.underlying22 (fun w hw => ((fun w hw => ((rii_arg hm) w hw).1) w hw).ln))) rfl rfl rfl ?_
    refine TQ.op (yq (y_move (ev_t rfl))) rfl rfl rfl ?_
    have hb39 : 0 < configs.length := (by first | omega | (simp only [List.length_set, List.length_append, List.length_cons, List.length_nil, List.length_replicate]; omega) | (rw [sortI_length]; simp only [List.length_cons, List.length_nil]; omega))
    refine TQ.op (yq (y_idx (k := 0) (ev_t rfl) ev_c (by first | omega | simp) slT_22 (fun w hw => ((rii_arg hconfigs) w hw).1) hb39)) rfl rfl rfl ?_
    have ha40 := hconfigs.row (i := 0) hb39
    refine TQ.op (yq (y_ldA (ev_t rfl) one_25 (rii_arg hconfigs) hb39)) rfl rfl rfl ?_
    refine TQ.op (yq (y_len (ev_t rfl) Try.underlying25 (fun w hw => ((ri_arg ha40) w hw).ln))) rfl rfl rfl ?_
    refine TQ.tail ?_
    refine TL.callr (ι := Value × List Value) (vs := [(.int .i64 (m.length : Int)), (.int .i64 ((configs.getD 0 []).length : Int))]) (fun i => i.1) (fun i => [tabI 25 3 i.1 i.2 (F_spec_l6Configs (m.length : Int) ((configs.getD 0 []).length : Int))]) en_54 ⟨(ev_t rfl), (ev_t rfl), trivial⟩ rfl (fun w hw => spec_l6Configs_ok w (m.length : Int) ((configs.getD 0 []).length : Int) (by first | assumption | omega | grind) (by first | assumption | omega | grind)) (fun r4_7 => ?_)
    refine TL.op (yq (y_assign (ev_t rfl))) rfl rfl rfl ?_
    refine TL.nil ?_
    refine TN.seq ?_
    refine TC.seq ?_
    refine TC.seq ?_
    refine TC.region ?_
    refine TL.op (yq (y_assign ev_c)) rfl rfl rfl ?_
    refine TL.nil ?_
    refine TN.seq ?_
    refine TC.block ?_
    obtain ⟨c41, hc42⟩ : ∃ c, F_spec_FromSupport_L1 m configs values ((((F_spec_l6Configs (m.length : Int) ((configs.getD 0 []).length : Int)).length) - 0) + 1) (([] : List Int), 0) = c := ⟨_, rfl⟩
    rw [hc42] at hF
    refine TC.loop (ι := Nat × List Int × Nat × Value) (fun (fu1, k8_1, k10_1, vk8_1) => [(1, vconfigs), (2, vvalues), (3, (.pointer (some ⟨g0_0, 0, none⟩))), (8, vk8_1), (9, r4_7.1), (10, (.int .i64 (k10_1 : Int)))]) (fun (fu1, k8_1, k10_1, vk8_1) => Hp w [tabI 25 3 r4_7.1 r4_7.2 (F_spec_l6Configs (m.length : Int) ((configs.getD 0 []).length : Int)), rowI 3 vk8_1 k8_1, .blk g0_0 29 [vm]]) (fun (fu1, k8_1, k10_1, vk8_1) => (k10_1 ≤ ((F_spec_l6Configs (m.length : Int) ((configs.getD 0 []).length : Int)).length)) ∧ (k8_1.length = k10_1) ∧ ((F_spec_l6Configs (m.length : Int) ((configs.getD 0 []).length : Int)).length) - k10_1 < fu1 ∧ F_spec_FromSupport_L1 m configs values fu1 (k8_1, k10_1) = c41) (fun (fu1, k8_1, k10_1, vk8_1) => fu1) ((((F_spec_l6Configs (m.length : Int) ((configs.getD 0 []).length : Int)).length) - 0) + 1, ([] : List Int), 0, v1_0) ⟨(by first | omega | (simp [-List.getD_eq_getElem?_getD] <;> omega)), (by first | omega | (simp [-List.getD_eq_getElem?_getD] <;> omega)), (by omega), hc42⟩ ⟨rfl, rfl, rfl, rfl, rfl, rfl, trivial⟩ (fun w hw => hw) ?_
    rintro ⟨fu1, k8_1, k10_1, vk8_1⟩ hJ1
    obtain ⟨hi1_0, hi1_1, hmu1, hL1⟩ : (k10_1 ≤ ((F_spec_l6Configs (m.length : Int) ((configs.getD 0 []).length : Int)).length)) ∧ (k8_1.length = k10_1) ∧ ((F_spec_l6Configs (m.length : Int) ((configs.getD 0 []).length : Int)).length) - k10_1 < fu1 ∧ F_spec_FromSupport_L1 m configs values fu1 (k8_1, k10_1) = c41 := hJ1
    change TC _ _ _ _ (Hp w [tabI 25 3 r4_7.1 r4_7.2 (F_spec_l6Configs (m.length : Int) ((configs.getD 0 []).length : Int)), rowI 3 vk8_1 k8_1, .blk g0_0 29 [vm]]) [(1, vconfigs), (2, vvalues), (3, (.pointer (some ⟨g0_0, 0, none⟩))), (8, vk8_1), (9, r4_7.1), (10, (.int .i64 (k10_1 : Int)))]
    obtain ⟨mf1, rfl⟩ : ∃ m, fu1 = m + 1 := ⟨fu1 - 1, by omega⟩
    rw [F_spec_FromSupport_L1_s] at hL1
    have hcf := hKs.scf k10_1
    refine TC.seq ?_
    refine TC.seq ?_
    refine TC.region ?_
    refine TL.op (yq (y_move (ev_t rfl))) rfl rfl rfl ?_
    refine TL.op (yq (y_move (ev_t rfl))) rfl rfl rfl ?_
    refine TL.op (yq (y_len (ev_t rfl) Try.underlying22 (fun w hw => ((fun w hw => ((rii_tab 0 rfl) w hw).1) w hw).ln))) rfl rfl rfl ?_
    refine TL.op (yq (y_lss (ev_t rfl) (ev_t rfl))) rfl rfl rfl ?_
    refine TL.nil ?_
    refine TN.seq ?_
    refine TC.cond (b := decide ((k10_1 : Int) < ((F_spec_l6Configs (m.length : Int) ((configs.getD 0 []).length : Int)).length : Int))) (ev_t rfl) (fun h43 => ?_) (fun h43 => ?_)
    · rw [bif_pos h43] at hL1
      have q44 := (of_decide_eq_true h43)
      refine TC.skip ?_
      refine TN.seq ?_
      refine TC.seq ?_
      refine TC.block ?_
      refine TC.seq ?_
      refine TC.region ?_
      refine TL.op (yq (y_assign ev_c)) rfl rfl rfl ?_
      refine TL.nil ?_
      refine TN.seq ?_
      refine TC.seq ?_
      refine TC.seq ?_
      refine TC.region ?_
      refine TL.op (yq (y_assign ev_c)) rfl rfl rfl ?_
      refine TL.nil ?_
      refine TN.seq ?_
      refine TC.block ?_
      obtain ⟨c45, hc46⟩ : ∃ c, F_spec_FromSupport_L2 m configs values k10_1 ((configs.length - 0) + 1) ((-1), 0) = c := ⟨_, rfl⟩
      rw [hc46] at hL1
      refine TC.loop (ι := Nat × Int × Nat) (fun (fu2, k11_2, k12_2) => [(1, vconfigs), (2, vvalues), (3, (.pointer (some ⟨g0_0, 0, none⟩))), (8, vk8_1), (9, r4_7.1), (10, (.int .i64 (k10_1 : Int))), (11, (.int .i64 k11_2)), (12, (.int .i64 (k12_2 : Int)))]) (fun (fu2, k11_2, k12_2) => Hp w [tabI 25 3 r4_7.1 r4_7.2 (F_spec_l6Configs (m.length : Int) ((configs.getD 0 []).length : Int)), rowI 3 vk8_1 k8_1, .blk g0_0 29 [vm]]) (fun (fu2, k11_2, k12_2) => (k12_2 ≤ configs.length) ∧ (-1 ≤ k11_2) ∧ (k11_2 ≤ 100296) ∧ configs.length - k12_2 < fu2 ∧ F_spec_FromSupport_L2 m configs values k10_1 fu2 (k11_2, k12_2) = c45) (fun (fu2, k11_2, k12_2) => fu2) ((configs.length - 0) + 1, -1, 0) ⟨(by first | omega | (simp [-List.getD_eq_getElem?_getD] <;> omega)), (by first | omega | (simp [-List.getD_eq_getElem?_getD] <;> omega)), (by first | omega | (simp [-List.getD_eq_getElem?_getD] <;> omega)), (by omega), hc46⟩ ⟨rfl, rfl, rfl, rfl, rfl, rfl, rfl, rfl, trivial⟩ (fun w hw => hw) ?_
      rintro ⟨fu2, k11_2, k12_2⟩ hJ2
      obtain ⟨hi2_0, hi2_1, hi2_2, hmu2, hL2⟩ : (k12_2 ≤ configs.length) ∧ (-1 ≤ k11_2) ∧ (k11_2 ≤ 100296) ∧ configs.length - k12_2 < fu2 ∧ F_spec_FromSupport_L2 m configs values k10_1 fu2 (k11_2, k12_2) = c45 := hJ2
      change TC _ _ _ _ (Hp w [tabI 25 3 r4_7.1 r4_7.2 (F_spec_l6Configs (m.length : Int) ((configs.getD 0 []).length : Int)), rowI 3 vk8_1 k8_1, .blk g0_0 29 [vm]]) [(1, vconfigs), (2, vvalues), (3, (.pointer (some ⟨g0_0, 0, none⟩))), (8, vk8_1), (9, r4_7.1), (10, (.int .i64 (k10_1 : Int))), (11, (.int .i64 k11_2)), (12, (.int .i64 (k12_2 : Int)))]
      obtain ⟨mf2, rfl⟩ : ∃ m, fu2 = m + 1 := ⟨fu2 - 1, by omega⟩
      rw [F_spec_FromSupport_L2_s] at hL2
      have hcf1 := (hcf (by omega)).1
      have hcf2 := (hcf (by omega)).2
      have hve := hLs.el k12_2
      have hca := fun h => (hLs.cf k12_2 h).1
      have hcb : k12_2 < configs.length → (configs.getD k12_2 []).length = ((F_spec_l6Configs (m.length : Int) ((configs.getD 0 []).length : Int)).getD k10_1 []).length := fun h => by have := (hLs.cf k12_2 h).2; omega
      have hmv := fun h => l6Move_le hKs.tp (hca h) hcf1 (hcb h)
      refine TC.seq ?_
      refine TC.seq ?_
      refine TC.region ?_
      refine TL.op (yq (y_move (ev_t rfl))) rfl rfl rfl ?_
      refine TL.op (yq (y_move (ev_t rfl))) rfl rfl rfl ?_
      refine TL.op (yq (y_len (ev_t rfl) Try.underlying22 (fun w hw => ((fun w hw => ((rii_arg hconfigs) w hw).1) w hw).ln))) rfl rfl rfl ?_
      refine TL.op (yq (y_lss (ev_t rfl) (ev_t rfl))) rfl rfl rfl ?_
      refine TL.nil ?_
      refine TN.seq ?_
      refine TC.cond (b := decide ((k12_2 : Int) < (configs.length : Int))) (ev_t rfl) (fun h47 => ?_) (fun h47 => ?_)
      · rw [bif_pos h47] at hL2
        have q48 := (of_decide_eq_true h47)
        refine TC.skip ?_
        refine TN.seq ?_
        refine TC.seq ?_
        refine TC.block ?_
        refine TC.seq ?_
        refine TC.regionQ (by kernel_rfl) (by kernel_rfl) dr_hp ?_
        refine TQ.op (yq (y_move (ev_t rfl))) rfl rfl rfl ?_
        refine TQ.op (yq (y_move (ev_t rfl))) rfl rfl rfl ?_
        have hb49 : k12_2 < values.length := (by first | omega | (simp only [List.length_set, List.length_append, List.length_cons, List.length_nil, List.length_replicate]; omega) | (rw [sortI_length]; simp only [List.length_cons, List.length_nil]; omega))
        refine TQ.op (yq (y_idx (k := k12_2) (ev_t rfl) (ev_t rfl) (by first | omega | simp) slT_25 (ri_arg hvalues) hb49)) rfl rfl rfl ?_
        refine TQ.op (yq (y_ldi (ev_t rfl) one_3 (ri_arg hvalues) hb49)) rfl rfl rfl ?_
        refine TQ.op (yq (y_ldagg (cs := [vm]) 2 (ev_t rfl) agg_29 rfl)) rfl rfl rfl ?_
        refine TQ.op (yq (y_move (ev_t rfl))) rfl rfl rfl ?_
        refine TQ.op (yq (y_move (ev_t rfl))) rfl rfl rfl ?_
        have hb50 : k12_2 < configs.length := (by first | omega | (simp only [List.length_set, List.length_append, List.length_cons, List.length_nil, List.length_replicate]; omega) | (rw [sortI_length]; simp only [List.length_cons, List.length_nil]; omega))
        refine TQ.op (yq (y_idx (k := k12_2) (ev_t rfl) (ev_t rfl) (by first | omega | simp) slT_22 (fun w hw => ((rii_arg hconfigs) w hw).1) hb50)) rfl rfl rfl ?_
        have ha51 := hconfigs.row (i := k12_2) hb50
        refine TQ.op (yq (y_ldA (ev_t rfl) one_25 (rii_arg hconfigs) hb50)) rfl rfl rfl ?_
        refine TQ.op (yq (y_move (ev_t rfl))) rfl rfl rfl ?_
        refine TQ.op (yq (y_move (ev_t rfl))) rfl rfl rfl ?_
        have hb52 : k10_1 < (F_spec_l6Configs (m.length : Int) ((configs.getD 0 []).length : Int)).length := (by first | omega | (simp only [List.length_set, List.length_append, List.length_cons, List.length_nil, List.length_replicate]; omega) | (rw [sortI_length]; simp only [List.length_cons, List.length_nil]; omega))
        refine TQ.op (yq (y_idx (k := k10_1) (ev_t rfl) (ev_t rfl) (by first | omega | simp) slT_22 (fun w hw => ((rii_tab 0 rfl) w hw).1) hb52)) rfl rfl rfl ?_
        refine TQ.op (yq (y_ldT 0 (ev_t rfl) one_25 rfl hb52)) rfl rfl rfl ?_
        refine TQ.op (y_call (vs := [(.agg #[vm]), (uconfigs.getD k12_2 undef), (r4_7.2.getD k10_1 undef)]) (v := (.int .i64 (F_spec_l6Move m (configs.getD k12_2 []) ((F_spec_l6Configs (m.length : Int) ((configs.getD 0 []).length : Int)).getD k10_1 [])))) en_76 ⟨(ev_t rfl), (ev_t rfl), (ev_t rfl), trivial⟩ (fun w hw => spec_l6Move_ok w vm um m ((rii_arg hm) w hw) (uconfigs.getD k12_2 undef) (configs.getD k12_2 []) ((ri_arg ha51) w hw) (r4_7.2.getD k10_1 undef) ((F_spec_l6Configs (m.length : Int) ((configs.getD 0 []).length : Int)).getD k10_1 []) ((ri_tab 0 k10_1 rfl hb52) w hw) (by first | assumption | omega | grind) (by first | assumption | omega | grind) (by first | assumption | omega | grind) (by first | assumption | omega | grind))) rfl rfl rfl ?_
        refine TQ.op (yq (y_add (ev_t rfl) (ev_t rfl) (by unfold In64; omega))) rfl rfl rfl ?_
        refine TQ.op (yq (y_assign (ev_t rfl))) rfl rfl rfl ?_
        refine TQ.nil ?_
        refine TN.seq ?_
        refine TC.seq ?_
        refine TC.region ?_
        refine TL.op (yq (y_move (ev_t rfl))) rfl rfl rfl ?_
        refine TL.op (yq (y_lss (ev_t rfl) ev_c)) rfl rfl rfl ?_
        refine TL.op (yq (y_move (ev_t rfl))) rfl rfl rfl ?_
        refine TL.opw (w_f rfl rfl rfl) (fun hg => yq (y_move (ev_t rfl))) rfl rfl ?_
        refine TL.opw (w_f rfl rfl rfl) (fun hg => yq (y_move (ev_t rfl))) rfl rfl ?_
        refine TL.opw (w_f rfl rfl rfl) (fun hg => yq (y_lss (ev_g rfl hg) (ev_g rfl hg))) rfl rfl ?_
        refine TL.op (yq (y_or (ev_t rfl) (fun hq => (ev_g rfl hq)))) rfl rfl rfl ?_
        refine TL.nil ?_
        refine TN.seq ?_
        refine TC.cond (b := ((decide (k11_2 < 0)) || (decide ((values.getD k12_2 0) + (F_spec_l6Move m (configs.getD k12_2 []) ((F_spec_l6Configs (m.length : Int) ((configs.getD 0 []).length : Int)).getD k10_1 [])) < k11_2)))) (ev_t rfl) (fun h53 => ?_) (fun h53 => ?_)
        · rw [bif_pos h53] at hL2
          have q54 := ((or_t h53).imp (fun h => (of_decide_eq_true h)) (fun h => (of_decide_eq_true h)))
          refine TC.region ?_
          refine TL.op (yq (y_move (ev_t rfl))) rfl rfl rfl ?_
          refine TL.op (yq (y_assign (ev_t rfl))) rfl rfl rfl ?_
          refine TL.nil ?_
          refine TN.blockN ?_
          refine TN.seq ?_
          refine TC.region ?_
          refine TL.op (yq (y_move (ev_t rfl))) rfl rfl rfl ?_
          refine TL.op (yq (y_add (ev_t rfl) ev_c (by unfold In64; omega))) rfl rfl rfl ?_
          refine TL.op (yq (y_assign (ev_t rfl))) rfl rfl rfl ?_
          refine TL.nil ?_
          exact TN.hand (mf2, (values.getD k12_2 0) + (F_spec_l6Move m (configs.getD k12_2 []) ((F_spec_l6Configs (m.length : Int) ((configs.getD 0 []).length : Int)).getD k10_1 [])), (k12_2 + 1)) ⟨(by first | omega | (simp [-List.getD_eq_getElem?_getD] <;> omega)), (by first | omega | (simp [-List.getD_eq_getElem?_getD] <;> omega)), (by first | omega | (simp [-List.getD_eq_getElem?_getD] <;> omega)), (by omega), hL2⟩ (Nat.lt_succ_self _) ⟨rfl, rfl, rfl, rfl, rfl, rfl, rfl, rfl, trivial⟩ (fun w hw => hw)
        · rw [bif_neg h53] at hL2
          have q54 := (and_imp (or_f h53) (fun h => (of_decide_eq_false h)) (fun h => (of_decide_eq_false h)))
          refine TC.skip ?_
          refine TN.blockN ?_
          refine TN.seq ?_
          refine TC.region ?_
          refine TL.op (yq (y_move (ev_t rfl))) rfl rfl rfl ?_
          refine TL.op (yq (y_add (ev_t rfl) ev_c (by unfold In64; omega))) rfl rfl rfl ?_
          refine TL.op (yq (y_assign (ev_t rfl))) rfl rfl rfl ?_
          refine TL.nil ?_
          exact TN.hand (mf2, k11_2, (k12_2 + 1)) ⟨(by first | omega | (simp [-List.getD_eq_getElem?_getD] <;> omega)), (by first | omega | (simp [-List.getD_eq_getElem?_getD] <;> omega)), (by first | omega | (simp [-List.getD_eq_getElem?_getD] <;> omega)), (by omega), hL2⟩ (Nat.lt_succ_self _) ⟨rfl, rfl, rfl, rfl, rfl, rfl, rfl, rfl, trivial⟩ (fun w hw => hw)
      · rw [bif_neg h47] at hL2
        have q48 := (of_decide_eq_false h47)
        refine TC.exit ?_
        refine TN.thenE ?_
        refine TN.thenE ?_
        rw [← hL2, elim_next] at hL1
        try dsimp only at hL1
        refine TN.blockH ?_
        refine TN.seq ?_
        refine TC.seq ?_
        refine TC.seq ?_
        refine TC.region ?_
        refine TL.op (yq (y_move (ev_t rfl))) rfl rfl rfl ?_
        refine TL.op (yq (y_gtr (ev_t rfl) ev_c)) rfl rfl rfl ?_
        refine TL.nil ?_
        refine TN.seq ?_
        refine TC.cond (b := decide (99999 < k11_2)) (ev_t rfl) (fun h55 => ?_) (fun h55 => ?_)
        · rw [bif_pos h55] at hL1
          have q56 := (of_decide_eq_true h55)
          refine TC.seq ?_
          refine TC.region ?_
          refine TL.buildI (zs := []) (qs := []) slT_25 rfl trivial rfl (by decide) rfl (fun v16_0 => ?_)
          refine TL.op (yq (y_assign (ev_t rfl))) rfl rfl rfl ?_
          refine TL.op (yq (y_assign ev_c)) rfl rfl rfl ?_
          refine TL.nil ?_
          refine TN.seq ?_
          refine TC.ret ?_
          refine TN.thenR ?_
          refine TN.blockR ?_
          refine TN.thenR ?_
          refine TN.thenR ?_
          rw [← hL1, elim_ret] at hF
          refine TN.blockR ?_
          refine TN.thenR ?_
          subst hF
          exact TN.ret2 rfl (ev_t rfl) (ev_t rfl) (fun w' hw => ⟨v16_0, rfl, Hp.sublist hw (.cons_cons _ (.cons _ (.cons _ (.cons _ .slnil))))⟩)
        · rw [bif_neg h55] at hL1
          have q56 := (of_decide_eq_false h55)
          refine TC.skip ?_
          refine TN.seq ?_
          refine TC.region ?_
          refine TL.op (yq (y_move (ev_t rfl))) rfl rfl rfl ?_
          refine TL.op (yq (y_move (ev_t rfl))) rfl rfl rfl ?_
          refine TL.buildI (zs := [.tmp 68]) (qs := [k11_2]) slT_25 rfl ⟨(ev_t rfl), trivial⟩ rfl (by decide) rfl (fun v17_2 => ?_)
          refine TL.appendI 2 (ev_t rfl) (ev_t rfl) rfl slT_25 (ri_row 0 rfl) (by first | omega | (simp [-List.getD_eq_getElem?_getD] <;> omega)) rfl (fun v17_3 => ?_)
          refine TL.op (yq (y_assign (ev_t rfl))) rfl rfl rfl ?_
          refine TL.nil ?_
          refine TN.blockN ?_
          refine TN.seq ?_
          refine TC.region ?_
          refine TL.op (yq (y_move (ev_t rfl))) rfl rfl rfl ?_
          refine TL.op (yq (y_add (ev_t rfl) ev_c (by unfold In64; omega))) rfl rfl rfl ?_
          refine TL.op (yq (y_assign (ev_t rfl))) rfl rfl rfl ?_
          refine TL.nil ?_
          exact TN.hand (mf1, (k8_1 ++ ([k11_2])), (k10_1 + 1), v17_3) ⟨(by first | omega | (simp [-List.getD_eq_getElem?_getD] <;> omega)), (by first | omega | (simp [-List.getD_eq_getElem?_getD] <;> omega)), (by omega), hL1⟩ (Nat.lt_succ_self _) ⟨rfl, rfl, rfl, rfl, rfl, rfl, trivial⟩ (fun w hw => Hp.sublist hw (.cons _ (.cons_cons _ (.cons_cons _ (.cons_cons _ .slnil)))))
    · rw [bif_neg h43] at hL1
      have q44 := (of_decide_eq_false h43)
      refine TC.exit ?_
      refine TN.thenE ?_
      refine TN.thenE ?_
      rw [← hL1, elim_next] at hF
      try dsimp only at hF
      refine TN.blockH ?_
      refine TN.seq ?_
      refine TC.seq ?_
      refine TC.region ?_
      refine TL.op (yq (y_move (ev_t rfl))) rfl rfl rfl ?_
      refine TL.op (yq (y_assign (ev_t rfl))) rfl rfl rfl ?_
      refine TL.op (yq (y_assign ev_c)) rfl rfl rfl ?_
      refine TL.nil ?_
      refine TN.seq ?_
      refine TC.ret ?_
      subst hF
      exact TN.ret2 rfl (ev_t rfl) (ev_t rfl) (fun w' hw => ⟨vk8_1, rfl, Hp.sublist hw (.cons _ (.cons_cons _ (.cons _ .slnil)))⟩)

set_option maxRecDepth 4000 in
set_option maxHeartbeats 1000000 in
theorem laws_FnExactFromSupport_ok (w : World) (vm : Value) (um : List Value) (m : List (List Int)) (hm : RII w vm um m) (vconfigs : Value) (uconfigs : List Value) (configs : List (List Int)) (hconfigs : RII w vconfigs uconfigs configs) (vvalues : Value) (values : List Int) (hvalues : RI w vvalues values)  :
    Calls Try.prog 9 ([(.agg #[vm]), vconfigs, vvalues] : List Value).toArray w (Ret (.bool (F_laws_FnExactFromSupport m configs values)) (Hp w [])) := by
  obtain ⟨rz, hF⟩ : ∃ rz, (F_laws_FnExactFromSupport m configs values) = rz := ⟨_, rfl⟩
  rw [hF]
  unfold F_laws_FnExactFromSupport at hF
  have hta := toIntS_eq values
  have htc := toIntSS_eq configs
  have hcl := fromSupport_len (F_laws_toMetric m) (F_laws_toIntSS configs) (F_laws_toIntS values)
  have hmk := markIntS_len (F_impl_FromSupport (F_laws_toMetric m) (F_laws_toIntSS configs) (F_laws_toIntS values)).1 1
  have hk1 := markMetric_fst (F_laws_toMetric m) 1
  have hk2 := markIntSS_fst2 (F_laws_toIntSS configs) (F_laws_markMetric (F_laws_toMetric m) 1).1
  have hlen_m := argT_len hm
  have hlen_configs := argT_len hconfigs
  have hlen_values := arg_len hvalues
  refine calls_tc Try.func9 rfl rfl rfl ?_
  change TC _ _ _ _ (Hp w []) [(0, (.agg #[vm])), (1, vconfigs), (2, vvalues)]
  refine TC.seq ?_
  refine TC.region ?_
  refine TL.box (ev_t rfl) rfl (fun g0_0 => ?_)
  refine TL.op (yq (y_assign ev_c)) rfl rfl rfl ?_
  refine TL.nil ?_
  refine TN.seq ?_
  refine TC.seq ?_
  refine TC.seq ?_
  refine TC.region ?_
  refine TL.op (yq (y_move (ev_t rfl))) rfl rfl rfl ?_
  refine TL.op (yq (y_len (ev_t rfl) Try.underlying25 (fun w hw => ((ri_arg hvalues) w hw).ln))) rfl rfl rfl ?_
  refine TL.op (yq (y_gtr (ev_t rfl) ev_c)) rfl rfl rfl ?_
  refine TL.nil ?_
  refine TN.seq ?_
  refine TC.cond (b := decide (1048576 < (values.length : Int))) (ev_t rfl) (fun h27 => ?_) (fun h27 => ?_)
  · rw [bif_pos h27] at hF
    have q28 := (of_decide_eq_true h27)
    refine TC.seq ?_
    refine TC.region ?_
    refine TL.op (yq (y_assign ev_c)) rfl rfl rfl ?_
    refine TL.nil ?_
    refine TN.seq ?_
    refine TC.ret ?_
    refine TN.thenR ?_
    subst hF
    exact TN.ret1 rfl (ev_t rfl) (fun w' hw => ⟨rfl, Hp.sublist hw (List.nil_sublist _)⟩)
  · rw [bif_neg h27] at hF
    have q28 := (of_decide_eq_false h27)
    refine TC.skip ?_
    refine TN.seq ?_
    refine TC.seq ?_
    refine TC.region ?_
    refine TL.op (yq (y_assign ev_c)) rfl rfl rfl ?_
    refine TL.nil ?_
    refine TN.seq ?_
    refine TC.seq ?_
    refine TC.region ?_
    refine TL.op (yq (y_ldagg (cs := [vm]) 0 (ev_t rfl) agg_24 rfl)) rfl rfl rfl ?_
    refine TL.op (yq (y_move (ev_t rfl))) rfl rfl rfl ?_
    refine TL.op (y_call (vs := [(.agg #[vm]), (.int .i64 1048576)]) (v := (.int .i64 (F_laws_szMetric m 1048576))) en_15 ⟨(ev_t rfl), (ev_t rfl), trivial⟩ (fun w hw => laws_szMetric_ok w vm um m ((rii_arg hm) w hw) 1048576 (by first | assumption | omega | grind) (by first | assumption | omega | grind))) rfl rfl rfl ?_
    refine TL.op (yq (y_assign (ev_t rfl))) rfl rfl rfl ?_
    refine TL.nil ?_
    refine TN.seq ?_
    refine TC.seq ?_
    refine TC.seq ?_
    refine TC.region ?_
    refine TL.op (yq (y_move (ev_t rfl))) rfl rfl rfl ?_
    refine TL.op (yq (y_lss (ev_t rfl) ev_c)) rfl rfl rfl ?_
    refine TL.nil ?_
    refine TN.seq ?_
    refine TC.cond (b := decide ((F_laws_szMetric m 1048576) < 0)) (ev_t rfl) (fun h29 => ?_) (fun h29 => ?_)
    · rw [bif_pos h29] at hF
      have q30 := (of_decide_eq_true h29)
      refine TC.seq ?_
      refine TC.region ?_
      refine TL.op (yq (y_assign ev_c)) rfl rfl rfl ?_
      refine TL.nil ?_
      refine TN.seq ?_
      refine TC.ret ?_
      refine TN.thenR ?_
      subst hF
      exact TN.ret1 rfl (ev_t rfl) (fun w' hw => ⟨rfl, Hp.sublist hw (List.nil_sublist _)⟩)
    · rw [bif_neg h29] at hF
      have q30 := (of_decide_eq_false h29)
      have hsz := szMetric_t (m := m) (left := 1048576) (by omega)
      have hsz1 : ∀ i, (m.getD i []).length ≤ 1048576 := fun i => by have := hsz.2 i; omega
      have hsz2 : m.length + total m ≤ 1048576 := by have := hsz.1; omega
      have htm := toMetric_eq m
      have hsze := szMetric_e (m := m) (left := 1048576) (by omega)
      refine TC.skip ?_
      refine TN.seq ?_
      refine TC.seq ?_
      refine TC.region ?_
      refine TL.op (yq (y_move (ev_t rfl))) rfl rfl rfl ?_
      refine TL.op (yq (y_move (ev_t rfl))) rfl rfl rfl ?_
      refine TL.op (y_call (vs := [vconfigs, (.int .i64 (F_laws_szMetric m 1048576))]) (v := (.int .i64 (F_laws_szIntSS configs (F_laws_szMetric m 1048576)))) en_38 ⟨(ev_t rfl), (ev_t rfl), trivial⟩ (fun w hw => laws_szIntSS_ok w vconfigs uconfigs configs ((rii_arg hconfigs) w hw) (F_laws_szMetric m 1048576) (by first | assumption | omega | grind) (by first | assumption | omega | grind))) rfl rfl rfl ?_
      refine TL.op (yq (y_assign (ev_t rfl))) rfl rfl rfl ?_
      refine TL.nil ?_
      refine TN.seq ?_
      refine TC.seq ?_
      refine TC.seq ?_
      refine TC.region ?_
      refine TL.op (yq (y_move (ev_t rfl))) rfl rfl rfl ?_
      refine TL.op (yq (y_lss (ev_t rfl) ev_c)) rfl rfl rfl ?_
      refine TL.nil ?_
      refine TN.seq ?_
      refine TC.cond (b := decide ((F_laws_szIntSS configs (F_laws_szMetric m 1048576)) < 0)) (ev_t rfl) (fun h31 => ?_) (fun h31 => ?_)
      · rw [bif_pos h31] at hF
        have q32 := (of_decide_eq_true h31)
        refine TC.seq ?_
        refine TC.region ?_
        refine TL.op (yq (y_assign ev_c)) rfl rfl rfl ?_
        refine TL.nil ?_
        refine TN.seq ?_
        refine TC.ret ?_
        refine TN.thenR ?_
        subst hF
        exact TN.ret1 rfl (ev_t rfl) (fun w' hw => ⟨rfl, Hp.sublist hw (List.nil_sublist _)⟩)
      · rw [bif_neg h31] at hF
        have q32 := (of_decide_eq_false h31)
        have hss := szIntSS_t configs (F_laws_szMetric m 1048576) (by omega)
        have hss1 : ∀ i, (configs.getD i []).length ≤ 1048576 := fun i => by have := row_le_total configs i; omega
        refine TC.skip ?_
        refine TN.seq ?_
        refine TC.seq ?_
        refine TC.region ?_
        refine TL.op (yq (y_ldagg (cs := [vm]) 0 (ev_t rfl) agg_24 rfl)) rfl rfl rfl ?_
        refine TL.callr (ι := Value × List Value) (vs := [(.agg #[vm])]) (fun i => (.agg #[i.1])) (fun i => [tabI 25 3 i.1 i.2 (F_laws_toMetric m)]) en_17 ⟨(ev_t rfl), trivial⟩ rfl (fun w hw => laws_toMetric_ok w vm um m ((rii_arg hm) w hw) (by first | assumption | omega | grind) (by first | assumption | omega | grind)) (fun r10_1 => ?_)
        refine TL.op (yq (y_move (ev_t rfl))) rfl rfl rfl ?_
        refine TL.callr (ι := Value × List Value) (vs := [vconfigs]) (fun i => i.1) (fun i => [tabI 25 3 i.1 i.2 (F_laws_toIntSS configs)]) en_40 ⟨(ev_t rfl), trivial⟩ rfl (fun w hw => laws_toIntSS_ok w vconfigs uconfigs configs ((rii_arg hconfigs) w hw) (by first | assumption | omega | grind) (by first | assumption | omega | grind)) (fun r10_3 => ?_)
        refine TL.op (yq (y_move (ev_t rfl))) rfl rfl rfl ?_
        refine TL.callr (ι := Value) (vs := [vvalues]) (fun i => i) (fun i => [rowI 3 i (F_laws_toIntS values)]) en_18 ⟨(ev_t rfl), trivial⟩ rfl (fun w hw => laws_toIntS_ok w vvalues values ((ri_arg hvalues) w hw) (by first | assumption | omega | grind)) (fun r10_5 => ?_)
        refine TL.callr (ι := Value) (vs := [(.agg #[r10_1.1]), r10_3.1, r10_5]) (fun i => (.tuple #[i, (.bool ((F_spec_FromSupport (F_laws_toMetric m) (F_laws_toIntSS configs) (F_laws_toIntS values)).2))])) (fun i => [rowI 3 i ((F_spec_FromSupport (F_laws_toMetric m) (F_laws_toIntSS configs) (F_laws_toIntS values)).1)]) en_39 ⟨(ev_t rfl), (ev_t rfl), (ev_t rfl), trivial⟩ rfl (fun w hw => spec_FromSupport_ok w r10_1.1 r10_1.2 (F_laws_toMetric m) ((rii_tab 2 rfl) w hw) r10_3.1 r10_3.2 (F_laws_toIntSS configs) ((rii_tab 1 rfl) w hw) r10_5 (F_laws_toIntS values) ((ri_row 0 rfl) w hw)) (fun r10_6 => ?_)
        refine TL.op (yq (y_move (ev_t rfl))) rfl rfl rfl ?_
        refine TL.op (yq (y_extract (ev_t rfl) rfl)) rfl rfl rfl ?_
        refine TL.op (yq (y_extract (ev_t rfl) rfl)) rfl rfl rfl ?_
        refine TL.op (yq (y_assign (ev_t rfl))) rfl rfl rfl ?_
        refine TL.op (yq (y_assign (ev_t rfl))) rfl rfl rfl ?_
        refine TL.nil ?_
        refine TN.seq ?_
        refine TC.seq ?_
        refine TC.region ?_
        refine TL.op (yq (y_ldagg (cs := [vm]) 4 (ev_t rfl) agg_24 rfl)) rfl rfl rfl ?_
        refine TL.callr (ι := Value × List Value) (vs := [(.agg #[vm])]) (fun i => (.agg #[i.1])) (fun i => [tabI 25 3 i.1 i.2 (F_laws_toMetric m)]) en_17 ⟨(ev_t rfl), trivial⟩ rfl (fun w hw => laws_toMetric_ok w vm um m ((rii_arg hm) w hw) (by first | assumption | omega | grind) (by first | assumption | omega | grind)) (fun r11_1 => ?_)
        refine TL.alloc (u := (.agg #[(.slice none 0 0)])) (by kernel_rfl) rfl (fun g11_2 => ?_)
        refine TL.storeAgg (cs := [(.slice none 0 0)]) (us := [r11_1.1]) 0 (ev_t rfl) (ev_t rfl) agg_29 rfl rfl (fun w hw => (ocs_cons (ln_one ((fun w hw => ((rii_tab 1 rfl) w hw).1) w hw).ln) ocs_nil)) ?_
        refine TL.nil ?_
        refine TN.seq ?_
        refine TC.seq ?_
        refine TC.region ?_
        refine TL.op (yq (y_move (ev_t rfl))) rfl rfl rfl ?_
        refine TL.callr (ι := Value × List Value) (vs := [vconfigs]) (fun i => i.1) (fun i => [tabI 25 3 i.1 i.2 (F_laws_toIntSS configs)]) en_40 ⟨(ev_t rfl), trivial⟩ rfl (fun w hw => laws_toIntSS_ok w vconfigs uconfigs configs ((rii_arg hconfigs) w hw) (by first | assumption | omega | grind) (by first | assumption | omega | grind)) (fun r12_1 => ?_)
        refine TL.op (yq (y_assign (ev_t rfl))) rfl rfl rfl ?_
        refine TL.nil ?_
        refine TN.seq ?_
        refine TC.seq ?_
        refine TC.region ?_
        refine TL.op (yq (y_move (ev_t rfl))) rfl rfl rfl ?_
        refine TL.callr (ι := Value) (vs := [vvalues]) (fun i => i) (fun i => [rowI 3 i (F_laws_toIntS values)]) en_18 ⟨(ev_t rfl), trivial⟩ rfl (fun w hw => laws_toIntS_ok w vvalues values ((ri_arg hvalues) w hw) (by first | assumption | omega | grind)) (fun r13_1 => ?_)
        refine TL.op (yq (y_assign (ev_t rfl))) rfl rfl rfl ?_
        refine TL.nil ?_
        refine TN.seq ?_
        refine TC.seq ?_
        refine TC.region ?_
        refine TL.op (yq (y_ldagg (cs := [r11_1.1]) 2 (ev_t rfl) agg_29 rfl)) rfl rfl rfl ?_
        refine TL.op (yq (y_move (ev_t rfl))) rfl rfl rfl ?_
        refine TL.op (yq (y_move (ev_t rfl))) rfl rfl rfl ?_
        refine TL.callr (ι := Value) (vs := [(.agg #[r11_1.1]), r12_1.1, r13_1]) (fun i => (.tuple #[i, (.bool ((F_impl_FromSupport (F_laws_toMetric m) (F_laws_toIntSS configs) (F_laws_toIntS values)).2))])) (fun i => [rowI 3 i ((F_impl_FromSupport (F_laws_toMetric m) (F_laws_toIntSS configs) (F_laws_toIntS values)).1)]) en_41 ⟨(ev_t rfl), (ev_t rfl), (ev_t rfl), trivial⟩ rfl (fun w hw => impl_FromSupport_ok w r11_1.1 r11_1.2 (F_laws_toMetric m) ((rii_tab 3 rfl) w hw) r12_1.1 r12_1.2 (F_laws_toIntSS configs) ((rii_tab 1 rfl) w hw) r13_1 (F_laws_toIntS values) ((ri_row 0 rfl) w hw)) (fun r14_3 => ?_)
        refine TL.op (yq (y_move (ev_t rfl))) rfl rfl rfl ?_
        refine TL.op (yq (y_extract (ev_t rfl) rfl)) rfl rfl rfl ?_
        refine TL.op (yq (y_extract (ev_t rfl) rfl)) rfl rfl rfl ?_
        refine TL.op (yq (y_assign (ev_t rfl))) rfl rfl rfl ?_
        refine TL.op (yq (y_assign (ev_t rfl))) rfl rfl rfl ?_
        refine TL.nil ?_
        refine TN.seq ?_
        refine TC.seq ?_
        refine TC.seq ?_
        refine TC.region ?_
        refine TL.op (yq (y_move (ev_t rfl))) rfl rfl rfl ?_
        refine TL.op (yq (y_move (ev_t rfl))) rfl rfl rfl ?_
        refine TL.op (y_call (vs := [r14_3, r10_6]) (v := (.bool (F_laws_eqIntS ((F_impl_FromSupport (F_laws_toMetric m) (F_laws_toIntSS configs) (F_laws_toIntS values)).1) ((F_spec_FromSupport (F_laws_toMetric m) (F_laws_toIntSS configs) (F_laws_toIntS values)).1)))) en_21 ⟨(ev_t rfl), (ev_t rfl), trivial⟩ (fun w hw => laws_eqIntS_ok w r14_3 ((F_impl_FromSupport (F_laws_toMetric m) (F_laws_toIntSS configs) (F_laws_toIntS values)).1) ((ri_row 0 rfl) w hw) r10_6 ((F_spec_FromSupport (F_laws_toMetric m) (F_laws_toIntSS configs) (F_laws_toIntS values)).1) ((ri_row 5 rfl) w hw))) rfl rfl rfl ?_
        refine TL.op (yq (y_not (ev_t rfl))) rfl rfl rfl ?_
        refine TL.op (yq (y_move (ev_t rfl))) rfl rfl rfl ?_
        refine TL.opw (w_f rfl rfl rfl) (fun hg => yq (y_move (ev_t rfl))) rfl rfl ?_
        refine TL.opw (w_f rfl rfl rfl) (fun hg => yq (y_move (ev_t rfl))) rfl rfl ?_
        refine TL.opw (w_f rfl rfl rfl) (fun hg => yq (y_bneq (ev_g rfl hg) (ev_g rfl hg) Try.underlying4)) rfl rfl ?_
        refine TL.op (yq (y_or (ev_t rfl) (fun hq => (ev_g rfl hq)))) rfl rfl rfl ?_
        refine TL.nil ?_
        refine TN.seq ?_
        refine TC.cond (b := ((!(F_laws_eqIntS ((F_impl_FromSupport (F_laws_toMetric m) (F_laws_toIntSS configs) (F_laws_toIntS values)).1) ((F_spec_FromSupport (F_laws_toMetric m) (F_laws_toIntSS configs) (F_laws_toIntS values)).1))) || (((F_impl_FromSupport (F_laws_toMetric m) (F_laws_toIntSS configs) (F_laws_toIntS values)).2) != ((F_spec_FromSupport (F_laws_toMetric m) (F_laws_toIntSS configs) (F_laws_toIntS values)).2)))) (ev_t rfl) (fun h33 => ?_) (fun h33 => ?_)
        · rw [bif_pos h33] at hF
          have q34 := ((or_t h33).imp (fun h => (not_t h)) (fun h => h))
          refine TC.seq ?_
          refine TC.region ?_
          refine TL.op (yq (y_assign ev_c)) rfl rfl rfl ?_
          refine TL.nil ?_
          refine TN.seq ?_
          refine TC.ret ?_
          refine TN.thenR ?_
          subst hF
          exact TN.ret1 rfl (ev_t rfl) (fun w' hw => ⟨rfl, Hp.sublist hw (List.nil_sublist _)⟩)
        · rw [bif_neg h33] at hF
          have q34 := (and_imp (or_f h33) (fun h => (not_f h)) (fun h => h))
          refine TC.skip ?_
          refine TN.seq ?_
          refine TC.seq ?_
          refine TC.seq ?_
          refine TC.regionH 5 (Hp w [rowI 3 r14_3 ((F_impl_FromSupport (F_laws_toMetric m) (F_laws_toIntSS configs) (F_laws_toIntS values)).1), rowI 3 r13_1 (F_laws_toIntS values), tabI 25 3 r12_1.1 r12_1.2 (F_laws_toIntSS configs), .blk g11_2 29 [r11_1.1], tabI 25 3 r11_1.1 r11_1.2 (F_laws_toMetric m), rowI 3 r10_6 ((F_spec_FromSupport (F_laws_toMetric m) (F_laws_toIntSS configs) (F_laws_toIntS values)).1), rowI 3 r10_5 (F_laws_toIntS values), tabI 25 3 r10_3.1 r10_3.2 (F_laws_toIntSS configs), tabI 25 3 r10_1.1 r10_1.2 (F_laws_toMetric m), .blk g0_0 24 [vm]]) rfl (by kernel_rfl) dr_hp (fun w hw => hw) ?_
          refine TH.take 0 rfl (by kernel_rfl) (y_ldagg (cs := [r11_1.1]) 3 (ev_t rfl) agg_29 rfl) rfl rfl rfl ?_
          refine TH.take 1 rfl (by kernel_rfl) (y_ldagg (cs := [vm]) 9 (ev_t rfl) agg_24 rfl) rfl rfl rfl ?_
          refine TH.loud 2 rfl (by kernel_rfl) ?_
          refine TL.callr (ι := Value × List Value) (vs := [(.agg #[vm])]) (fun i => (.agg #[i.1])) (fun i => [tabI 25 3 i.1 i.2 (F_laws_toMetric m)]) en_17 ⟨(ev_t rfl), trivial⟩ rfl (fun w hw => laws_toMetric_ok w vm um m ((rii_arg hm) w hw) (by first | assumption | omega | grind) (by first | assumption | omega | grind)) (fun r17_2 => ?_)
          refine TL.nil ?_
          refine TH.back (fun w hw => Hp.sublist hw (.cons _ (.cons_cons _ (.cons_cons _ (.cons_cons _ (.cons_cons _ (.cons_cons _ (.cons_cons _ (.cons_cons _ (.cons_cons _ (.cons_cons _ (.cons_cons _ .slnil)))))))))))) ?_
          refine TH.loud 3 rfl (by kernel_rfl) ?_
          refine TL.op (y_call (vs := [(.agg #[r11_1.1]), (.agg #[r17_2.1])]) (v := (.bool (F_laws_eqMetric (F_laws_toMetric m) (F_laws_toMetric m)))) en_20 ⟨(ev_t rfl), (ev_t rfl), trivial⟩ (fun w hw => laws_eqMetric_ok w r11_1.1 r11_1.2 (F_laws_toMetric m) ((rii_tab 5 rfl) w hw) r17_2.1 r17_2.2 (F_laws_toMetric m) ((rii_tab 0 rfl) w hw))) rfl rfl rfl ?_
          refine TL.nil ?_
          refine TH.back (fun w hw => Hp.sublist hw (.cons _ (.cons_cons _ (.cons_cons _ (.cons_cons _ (.cons_cons _ (.cons_cons _ (.cons_cons _ (.cons_cons _ (.cons_cons _ (.cons_cons _ (.cons_cons _ .slnil)))))))))))) ?_
          refine TH.take 4 rfl (by kernel_rfl) (y_not (ev_t rfl)) rfl rfl rfl ?_
          refine TH.done (by kernel_rfl) ?_
          refine TN.seq ?_
          refine TC.cond (b := !(F_laws_eqMetric (F_laws_toMetric m) (F_laws_toMetric m))) (ev_t rfl) (fun h35 => ?_) (fun h35 => ?_)
          · rw [bif_pos h35] at hF
            have q36 := (not_t h35)
            refine TC.seq ?_
            refine TC.region ?_
            refine TL.op (yq (y_assign ev_c)) rfl rfl rfl ?_
            refine TL.nil ?_
            refine TN.seq ?_
            refine TC.ret ?_
            refine TN.thenR ?_
            subst hF
            exact TN.ret1 rfl (ev_t rfl) (fun w' hw => ⟨rfl, Hp.sublist hw (List.nil_sublist _)⟩)
          · rw [bif_neg h35] at hF
            have q36 := (not_f h35)
            refine TC.skip ?_
            refine TN.seq ?_
            refine TC.seq ?_
            refine TC.seq ?_
            refine TC.region ?_
            refine TL.op (yq (y_move (ev_t rfl))) rfl rfl rfl ?_
            refine TL.op (yq (y_move (ev_t rfl))) rfl rfl rfl ?_
            refine TL.callr (ι := Value × List Value) (vs := [vconfigs]) (fun i => i.1) (fun i => [tabI 25 3 i.1 i.2 (F_laws_toIntSS configs)]) en_40 ⟨(ev_t rfl), trivial⟩ rfl (fun w hw => laws_toIntSS_ok w vconfigs uconfigs configs ((rii_arg hconfigs) w hw) (by first | assumption | omega | grind) (by first | assumption | omega | grind)) (fun r19_2 => ?_)
            refine TL.op (y_call (vs := [r12_1.1, r19_2.1]) (v := (.bool (F_laws_eqIntSS (F_laws_toIntSS configs) (F_laws_toIntSS configs)))) en_29 ⟨(ev_t rfl), (ev_t rfl), trivial⟩ (fun w hw => laws_eqIntSS_ok w r12_1.1 r12_1.2 (F_laws_toIntSS configs) ((rii_tab 4 rfl) w hw) r19_2.1 r19_2.2 (F_laws_toIntSS configs) ((rii_tab 0 rfl) w hw))) rfl rfl rfl ?_
            refine TL.op (yq (y_not (ev_t rfl))) rfl rfl rfl ?_
            refine TL.nil ?_
            refine TN.seq ?_
            refine TC.cond (b := !(F_laws_eqIntSS (F_laws_toIntSS configs) (F_laws_toIntSS configs))) (ev_t rfl) (fun h37 => ?_) (fun h37 => ?_)
            · rw [bif_pos h37] at hF
              have q38 := (not_t h37)
              refine TC.seq ?_
              refine TC.region ?_
              refine TL.op (yq (y_assign ev_c)) rfl rfl rfl ?_
              refine TL.nil ?_
              refine TN.seq ?_
              refine TC.ret ?_
              refine TN.thenR ?_
              subst hF
              exact TN.ret1 rfl (ev_t rfl) (fun w' hw => ⟨rfl, Hp.sublist hw (List.nil_sublist _)⟩)
            · rw [bif_neg h37] at hF
              have q38 := (not_f h37)
              refine TC.skip ?_
              refine TN.seq ?_
              refine TC.seq ?_
              refine TC.seq ?_
              refine TC.region ?_
              refine TL.op (yq (y_move (ev_t rfl))) rfl rfl rfl ?_
              refine TL.op (yq (y_move (ev_t rfl))) rfl rfl rfl ?_
              refine TL.callr (ι := Value) (vs := [vvalues]) (fun i => i) (fun i => [rowI 3 i (F_laws_toIntS values)]) en_18 ⟨(ev_t rfl), trivial⟩ rfl (fun w hw => laws_toIntS_ok w vvalues values ((ri_arg hvalues) w hw) (by first | assumption | omega | grind)) (fun r21_2 => ?_)
              refine TL.op (y_call (vs := [r13_1, r21_2]) (v := (.bool (F_laws_eqIntS (F_laws_toIntS values) (F_laws_toIntS values)))) en_21 ⟨(ev_t rfl), (ev_t rfl), trivial⟩ (fun w hw => laws_eqIntS_ok w r13_1 (F_laws_toIntS values) ((ri_row 4 rfl) w hw) r21_2 (F_laws_toIntS values) ((ri_row 0 rfl) w hw))) rfl rfl rfl ?_
              refine TL.op (yq (y_not (ev_t rfl))) rfl rfl rfl ?_
              refine TL.nil ?_
              refine TN.seq ?_
              refine TC.cond (b := !(F_laws_eqIntS (F_laws_toIntS values) (F_laws_toIntS values))) (ev_t rfl) (fun h39 => ?_) (fun h39 => ?_)
              · rw [bif_pos h39] at hF
                have q40 := (not_t h39)
                refine TC.seq ?_
                refine TC.region ?_
                refine TL.op (yq (y_assign ev_c)) rfl rfl rfl ?_
                refine TL.nil ?_
                refine TN.seq ?_
                refine TC.ret ?_
                refine TN.thenR ?_
                subst hF
                exact TN.ret1 rfl (ev_t rfl) (fun w' hw => ⟨rfl, Hp.sublist hw (List.nil_sublist _)⟩)
              · rw [bif_neg h39] at hF
                have q40 := (not_f h39)
                refine TC.skip ?_
                refine TN.seq ?_
                refine TC.seq ?_
                refine TC.region ?_
                refine TL.op (yq (y_assign ev_c)) rfl rfl rfl ?_
                refine TL.nil ?_
                refine TN.seq ?_
                refine TC.seq ?_
                refine TC.region ?_
                refine TL.op (yq (y_ldagg (cs := [r11_1.1]) 6 (ev_t rfl) agg_29 rfl)) rfl rfl rfl ?_
                refine TL.op (yq (y_move (ev_t rfl))) rfl rfl rfl ?_
                refine TL.callm (ι := Unit) 7 (vs := [(.agg #[r11_1.1]), (.int .i64 1)]) (fun _ => (.int .i64 ((F_laws_markMetric (F_laws_toMetric m) 1).1))) (fun _ => tabI 25 3 r11_1.1 r11_1.2 ((F_laws_markMetric (F_laws_toMetric m) 1).2)) en_24 ⟨(ev_t rfl), (ev_t rfl), trivial⟩ rfl rfl (fun w1 fr1 hw => laws_markMetric_ok w w1 fr1 r11_1.1 r11_1.2 (F_laws_toMetric m) hw 1 (by first | assumption | omega | grind) (by first | assumption | omega | grind)) (fun _ => ?_)
                refine TL.op (yq (y_assign (ev_t rfl))) rfl rfl rfl ?_
                refine TL.nil ?_
                refine TN.seq ?_
                refine TC.seq ?_
                refine TC.region ?_
                refine TL.op (yq (y_move (ev_t rfl))) rfl rfl rfl ?_
                refine TL.op (yq (y_move (ev_t rfl))) rfl rfl rfl ?_
                refine TL.callm (ι := Unit) 5 (vs := [r12_1.1, (.int .i64 ((F_laws_markMetric (F_laws_toMetric m) 1).1))]) (fun _ => (.int .i64 ((F_laws_markIntSS (F_laws_toIntSS configs) ((F_laws_markMetric (F_laws_toMetric m) 1).1)).1))) (fun _ => tabI 25 3 r12_1.1 r12_1.2 ((F_laws_markIntSS (F_laws_toIntSS configs) ((F_laws_markMetric (F_laws_toMetric m) 1).1)).2)) en_30 ⟨(ev_t rfl), (ev_t rfl), trivial⟩ rfl rfl (fun w1 fr1 hw => laws_markIntSS_ok w w1 fr1 r12_1.1 r12_1.2 (F_laws_toIntSS configs) hw ((F_laws_markMetric (F_laws_toMetric m) 1).1) (by first | assumption | omega | grind) (by first | assumption | omega | grind)) (fun _ => ?_)
                refine TL.op (yq (y_assign (ev_t rfl))) rfl rfl rfl ?_
                refine TL.nil ?_
                refine TN.seq ?_
                refine TC.seq ?_
                refine TC.region ?_
                refine TL.op (yq (y_move (ev_t rfl))) rfl rfl rfl ?_
                refine TL.op (yq (y_move (ev_t rfl))) rfl rfl rfl ?_
                refine TL.callm (ι := Unit) 4 (vs := [r13_1, (.int .i64 ((F_laws_markIntSS (F_laws_toIntSS configs) ((F_laws_markMetric (F_laws_toMetric m) 1).1)).1))]) (fun _ => (.int .i64 ((F_laws_markIntS (F_laws_toIntS values) ((F_laws_markIntSS (F_laws_toIntSS configs) ((F_laws_markMetric (F_laws_toMetric m) 1).1)).1)).1))) (fun _ => rowI 3 r13_1 ((F_laws_markIntS (F_laws_toIntS values) ((F_laws_markIntSS (F_laws_toIntSS configs) ((F_laws_markMetric (F_laws_toMetric m) 1).1)).1)).2)) en_25 ⟨(ev_t rfl), (ev_t rfl), trivial⟩ rfl rfl (fun w1 fr1 hw => laws_markIntS_ok w w1 fr1 r13_1 (F_laws_toIntS values) hw ((F_laws_markIntSS (F_laws_toIntSS configs) ((F_laws_markMetric (F_laws_toMetric m) 1).1)).1) (by first | assumption | omega | grind) (by first | assumption | omega | grind)) (fun _ => ?_)
                refine TL.op (yq (y_assign (ev_t rfl))) rfl rfl rfl ?_
                refine TL.nil ?_
                refine TN.seq ?_
                refine TC.seq ?_
                refine TC.seq ?_
                refine TC.region ?_
                refine TL.op (yq (y_move (ev_t rfl))) rfl rfl rfl ?_
                refine TL.op (yq (y_lss (ev_t rfl) ev_c)) rfl rfl rfl ?_
                refine TL.op (yq (y_move (ev_t rfl))) rfl rfl rfl ?_
                refine TL.opw (w_f rfl rfl rfl) (fun hg => yq (y_move (ev_t rfl))) rfl rfl ?_
                refine TL.opw (w_f rfl rfl rfl) (fun hg => yq (y_move (ev_t rfl))) rfl rfl ?_
                refine TL.opw (w_f rfl rfl rfl) (fun hg => y_call (vs := [r14_3, r10_6]) (v := (.bool (F_laws_eqIntS ((F_impl_FromSupport (F_laws_toMetric m) (F_laws_toIntSS configs) (F_laws_toIntS values)).1) ((F_spec_FromSupport (F_laws_toMetric m) (F_laws_toIntSS configs) (F_laws_toIntS values)).1)))) en_21 ⟨(ev_g rfl hg), (ev_g rfl hg), trivial⟩ (fun w hw => laws_eqIntS_ok w r14_3 ((F_impl_FromSupport (F_laws_toMetric m) (F_laws_toIntSS configs) (F_laws_toIntS values)).1) ((ri_row 3 rfl) w hw) r10_6 ((F_spec_FromSupport (F_laws_toMetric m) (F_laws_toIntSS configs) (F_laws_toIntS values)).1) ((ri_row 8 rfl) w hw))) rfl rfl ?_
                refine TL.opw (w_f rfl rfl rfl) (fun hg => yq (y_not (ev_g rfl hg))) rfl rfl ?_
                refine TL.op (yq (y_or (ev_t rfl) (fun hq => (ev_g rfl hq)))) rfl rfl rfl ?_
                refine TL.op (yq (y_move (ev_t rfl))) rfl rfl rfl ?_
                refine TL.opw (w_f rfl rfl rfl) (fun hg => yq (y_move (ev_t rfl))) rfl rfl ?_
                refine TL.opw (w_f rfl rfl rfl) (fun hg => yq (y_move (ev_t rfl))) rfl rfl ?_
                refine TL.opw (w_f rfl rfl rfl) (fun hg => yq (y_bneq (ev_g rfl hg) (ev_g rfl hg) Try.underlying4)) rfl rfl ?_
                refine TL.op (yq (y_or (ev_t rfl) (fun hq => (ev_g rfl hq)))) rfl rfl rfl ?_
                refine TL.nil ?_
                refine TN.seq ?_
                refine TC.cond (b := (((decide ((F_laws_markIntS (F_laws_toIntS values) ((F_laws_markIntSS (F_laws_toIntSS configs) ((F_laws_markMetric (F_laws_toMetric m) 1).1)).1)).1 < 0)) || (!(F_laws_eqIntS ((F_impl_FromSupport (F_laws_toMetric m) (F_laws_toIntSS configs) (F_laws_toIntS values)).1) ((F_spec_FromSupport (F_laws_toMetric m) (F_laws_toIntSS configs) (F_laws_toIntS values)).1)))) || (((F_impl_FromSupport (F_laws_toMetric m) (F_laws_toIntSS configs) (F_laws_toIntS values)).2) != ((F_spec_FromSupport (F_laws_toMetric m) (F_laws_toIntSS configs) (F_laws_toIntS values)).2)))) (ev_t rfl) (fun h41 => ?_) (fun h41 => ?_)
                · rw [bif_pos h41] at hF
                  have q42 := ((or_t h41).imp (fun h => ((or_t h).imp (fun h => (of_decide_eq_true h)) (fun h => (not_t h)))) (fun h => h))
                  refine TC.seq ?_
                  refine TC.region ?_
                  refine TL.op (yq (y_assign ev_c)) rfl rfl rfl ?_
                  refine TL.nil ?_
                  refine TN.seq ?_
                  refine TC.ret ?_
                  refine TN.thenR ?_
                  subst hF
                  exact TN.ret1 rfl (ev_t rfl) (fun w' hw => ⟨rfl, Hp.sublist hw (List.nil_sublist _)⟩)
                · rw [bif_neg h41] at hF
                  have q42 := (and_imp (or_f h41) (fun h => (and_imp (or_f h) (fun h => (of_decide_eq_false h)) (fun h => (not_f h)))) (fun h => h))
                  refine TC.skip ?_
                  refine TN.seq ?_
                  refine TC.seq ?_
                  refine TC.region ?_
                  refine TL.op (yq (y_assign ev_c)) rfl rfl rfl ?_
                  refine TL.nil ?_
                  refine TN.seq ?_
                  refine TC.seq ?_
                  refine TC.region ?_
                  refine TL.op (yq (y_move (ev_t rfl))) rfl rfl rfl ?_
                  refine TL.op (yq (y_move (ev_t rfl))) rfl rfl rfl ?_
                  refine TL.callm (ι := Unit) 3 (vs := [r14_3, (.int .i64 1)]) (fun _ => (.int .i64 ((F_laws_markIntS ((F_impl_FromSupport (F_laws_toMetric m) (F_laws_toIntSS configs) (F_laws_toIntS values)).1) 1).1))) (fun _ => rowI 3 r14_3 ((F_laws_markIntS ((F_impl_FromSupport (F_laws_toMetric m) (F_laws_toIntSS configs) (F_laws_toIntS values)).1) 1).2)) en_25 ⟨(ev_t rfl), (ev_t rfl), trivial⟩ rfl rfl (fun w1 fr1 hw => laws_markIntS_ok w w1 fr1 r14_3 ((F_impl_FromSupport (F_laws_toMetric m) (F_laws_toIntSS configs) (F_laws_toIntS values)).1) hw 1 (by first | assumption | omega | grind) (by first | assumption | omega | grind)) (fun _ => ?_)
                  refine TL.op (yq (y_assign (ev_t rfl))) rfl rfl rfl ?_
                  refine TL.nil ?_
                  refine TN.seq ?_
                  refine TC.seq ?_
                  refine TC.region ?_
                  refine TL.op (yq (y_assign ev_c)) rfl rfl rfl ?_
                  refine TL.nil ?_
                  refine TN.seq ?_
                  refine TC.seq ?_
                  refine TC.region ?_
                  refine TL.op (yq (y_move (ev_t rfl))) rfl rfl rfl ?_
                  refine TL.op (yq (y_move (ev_t rfl))) rfl rfl rfl ?_
                  refine TL.op (y_call (vs := [r14_3, (.int .i64 1)]) (v := (.int .i64 (F_laws_heldIntS ((F_laws_markIntS ((F_impl_FromSupport (F_laws_toMetric m) (F_laws_toIntSS configs) (F_laws_toIntS values)).1) 1).2) 1))) en_26 ⟨(ev_t rfl), (ev_t rfl), trivial⟩ (fun w hw => laws_heldIntS_ok w r14_3 ((F_laws_markIntS ((F_impl_FromSupport (F_laws_toMetric m) (F_laws_toIntSS configs) (F_laws_toIntS values)).1) 1).2) ((ri_row 3 rfl) w hw) 1 (by first | assumption | omega | grind) (by first | assumption | omega | grind))) rfl rfl rfl ?_
                  refine TL.op (yq (y_assign (ev_t rfl))) rfl rfl rfl ?_
                  refine TL.nil ?_
                  refine TN.seq ?_
                  refine TC.seq ?_
                  refine TC.seq ?_
                  refine TC.region ?_
                  refine TL.op (yq (y_move (ev_t rfl))) rfl rfl rfl ?_
                  refine TL.op (yq (y_lss (ev_t rfl) ev_c)) rfl rfl rfl ?_
                  refine TL.nil ?_
                  refine TN.seq ?_
                  refine TC.cond (b := decide ((F_laws_heldIntS ((F_laws_markIntS ((F_impl_FromSupport (F_laws_toMetric m) (F_laws_toIntSS configs) (F_laws_toIntS values)).1) 1).2) 1) < 0)) (ev_t rfl) (fun h43 => ?_) (fun h43 => ?_)
                  · rw [bif_pos h43] at hF
                    have q44 := (of_decide_eq_true h43)
                    refine TC.seq ?_
                    refine TC.region ?_
                    refine TL.op (yq (y_assign ev_c)) rfl rfl rfl ?_
                    refine TL.nil ?_
                    refine TN.seq ?_
                    refine TC.ret ?_
                    refine TN.thenR ?_
                    subst hF
                    exact TN.ret1 rfl (ev_t rfl) (fun w' hw => ⟨rfl, Hp.sublist hw (List.nil_sublist _)⟩)
                  · rw [bif_neg h43] at hF
                    have q44 := (of_decide_eq_false h43)
                    refine TC.skip ?_
                    refine TN.seq ?_
                    refine TC.seq ?_
                    refine TC.seq ?_
                    refine TC.region ?_
                    refine TL.op (yq (y_move (ev_t rfl))) rfl rfl rfl ?_
                    refine TL.op (yq (y_move (ev_t rfl))) rfl rfl rfl ?_
                    refine TL.op (yq (y_neq (ev_t rfl) (ev_t rfl))) rfl rfl rfl ?_
                    refine TL.nil ?_
                    refine TN.seq ?_
                    refine TC.cond (b := !decide ((F_laws_heldIntS ((F_laws_markIntS ((F_impl_FromSupport (F_laws_toMetric m) (F_laws_toIntSS configs) (F_laws_toIntS values)).1) 1).2) 1) = (F_laws_markIntS ((F_impl_FromSupport (F_laws_toMetric m) (F_laws_toIntSS configs) (F_laws_toIntS values)).1) 1).1)) (ev_t rfl) (fun h45 => ?_) (fun h45 => ?_)
                    · rw [bif_pos h45] at hF
                      have q46 := (of_decide_eq_false (not_t h45))
                      refine TC.seq ?_
                      refine TC.region ?_
                      refine TL.op (yq (y_assign ev_c)) rfl rfl rfl ?_
                      refine TL.nil ?_
                      refine TN.seq ?_
                      refine TC.ret ?_
                      refine TN.thenR ?_
                      subst hF
                      exact TN.ret1 rfl (ev_t rfl) (fun w' hw => ⟨rfl, Hp.sublist hw (List.nil_sublist _)⟩)
                    · rw [bif_neg h45] at hF
                      have q46 := (of_decide_eq_true (not_f h45))
                      refine TC.skip ?_
                      refine TN.seq ?_
                      refine TC.seq ?_
                      refine TC.region ?_
                      refine TL.op (yq (y_ldagg (cs := [vm]) 12 (ev_t rfl) agg_24 rfl)) rfl rfl rfl ?_
                      refine TL.callr (ι := Value × List Value) (vs := [(.agg #[vm])]) (fun i => (.agg #[i.1])) (fun i => [tabI 25 3 i.1 i.2 (F_laws_toMetric m)]) en_17 ⟨(ev_t rfl), trivial⟩ rfl (fun w hw => laws_toMetric_ok w vm um m ((rii_arg hm) w hw) (by first | assumption | omega | grind) (by first | assumption | omega | grind)) (fun r37_1 => ?_)
                      refine TL.op (yq (y_move (ev_t rfl))) rfl rfl rfl ?_
                      refine TL.callr (ι := Value × List Value) (vs := [vconfigs]) (fun i => i.1) (fun i => [tabI 25 3 i.1 i.2 (F_laws_toIntSS configs)]) en_40 ⟨(ev_t rfl), trivial⟩ rfl (fun w hw => laws_toIntSS_ok w vconfigs uconfigs configs ((rii_arg hconfigs) w hw) (by first | assumption | omega | grind) (by first | assumption | omega | grind)) (fun r37_3 => ?_)
                      refine TL.op (yq (y_move (ev_t rfl))) rfl rfl rfl ?_
                      refine TL.callr (ι := Value) (vs := [vvalues]) (fun i => i) (fun i => [rowI 3 i (F_laws_toIntS values)]) en_18 ⟨(ev_t rfl), trivial⟩ rfl (fun w hw => laws_toIntS_ok w vvalues values ((ri_arg hvalues) w hw) (by first | assumption | omega | grind)) (fun r37_5 => ?_)
                      refine TL.callr (ι := Value) (vs := [(.agg #[r37_1.1]), r37_3.1, r37_5]) (fun i => (.tuple #[i, (.bool ((F_impl_FromSupport (F_laws_toMetric m) (F_laws_toIntSS configs) (F_laws_toIntS values)).2))])) (fun i => [rowI 3 i ((F_impl_FromSupport (F_laws_toMetric m) (F_laws_toIntSS configs) (F_laws_toIntS values)).1)]) en_41 ⟨(ev_t rfl), (ev_t rfl), (ev_t rfl), trivial⟩ rfl (fun w hw => impl_FromSupport_ok w r37_1.1 r37_1.2 (F_laws_toMetric m) ((rii_tab 2 rfl) w hw) r37_3.1 r37_3.2 (F_laws_toIntSS configs) ((rii_tab 1 rfl) w hw) r37_5 (F_laws_toIntS values) ((ri_row 0 rfl) w hw)) (fun r37_6 => ?_)
                      refine TL.op (yq (y_move (ev_t rfl))) rfl rfl rfl ?_
                      refine TL.op (yq (y_extract (ev_t rfl) rfl)) rfl rfl rfl ?_
                      refine TL.op (yq (y_extract (ev_t rfl) rfl)) rfl rfl rfl ?_
                      refine TL.op (yq (y_assign (ev_t rfl))) rfl rfl rfl ?_
                      refine TL.op (yq (y_assign (ev_t rfl))) rfl rfl rfl ?_
                      refine TL.nil ?_
                      refine TN.seq ?_
                      refine TC.seq ?_
                      refine TC.seq ?_
                      refine TC.region ?_
                      refine TL.op (yq (y_move (ev_t rfl))) rfl rfl rfl ?_
                      refine TL.op (yq (y_move (ev_t rfl))) rfl rfl rfl ?_
                      refine TL.op (y_call (vs := [r37_6, r10_6]) (v := (.bool (F_laws_eqIntS ((F_impl_FromSupport (F_laws_toMetric m) (F_laws_toIntSS configs) (F_laws_toIntS values)).1) ((F_spec_FromSupport (F_laws_toMetric m) (F_laws_toIntSS configs) (F_laws_toIntS values)).1)))) en_21 ⟨(ev_t rfl), (ev_t rfl), trivial⟩ (fun w hw => laws_eqIntS_ok w r37_6 ((F_impl_FromSupport (F_laws_toMetric m) (F_laws_toIntSS configs) (F_laws_toIntS values)).1) ((ri_row 0 rfl) w hw) r10_6 ((F_spec_FromSupport (F_laws_toMetric m) (F_laws_toIntSS configs) (F_laws_toIntS values)).1) ((ri_row 12 rfl) w hw))) rfl rfl rfl ?_
                      refine TL.op (yq (y_not (ev_t rfl))) rfl rfl rfl ?_
                      refine TL.op (yq (y_move (ev_t rfl))) rfl rfl rfl ?_
                      refine TL.opw (w_f rfl rfl rfl) (fun hg => yq (y_move (ev_t rfl))) rfl rfl ?_
                      refine TL.opw (w_f rfl rfl rfl) (fun hg => yq (y_move (ev_t rfl))) rfl rfl ?_
                      refine TL.opw (w_f rfl rfl rfl) (fun hg => yq (y_bneq (ev_g rfl hg) (ev_g rfl hg) Try.underlying4)) rfl rfl ?_
                      refine TL.op (yq (y_or (ev_t rfl) (fun hq => (ev_g rfl hq)))) rfl rfl rfl ?_
                      refine TL.nil ?_
                      refine TN.seq ?_
                      refine TC.condF (ev_t rfl) h33 ?_
                      refine TC.skip ?_
                      refine TN.seq ?_
                      refine TC.seq ?_
                      refine TC.region ?_
                      refine TL.op (yq (y_assign ev_c)) rfl rfl rfl ?_
                      refine TL.nil ?_
                      refine TN.seq ?_
                      refine TC.seq ?_
                      refine TC.region ?_
                      refine TL.op (yq (y_move (ev_t rfl))) rfl rfl rfl ?_
                      refine TL.op (yq (y_move (ev_t rfl))) rfl rfl rfl ?_
                      refine TL.op (y_call (vs := [r14_3, (.int .i64 1)]) (v := (.int .i64 (F_laws_heldIntS ((F_laws_markIntS ((F_impl_FromSupport (F_laws_toMetric m) (F_laws_toIntSS configs) (F_laws_toIntS values)).1) 1).2) 1))) en_26 ⟨(ev_t rfl), (ev_t rfl), trivial⟩ (fun w hw => laws_heldIntS_ok w r14_3 ((F_laws_markIntS ((F_impl_FromSupport (F_laws_toMetric m) (F_laws_toIntSS configs) (F_laws_toIntS values)).1) 1).2) ((ri_row 7 rfl) w hw) 1 (by first | assumption | omega | grind) (by first | assumption | omega | grind))) rfl rfl rfl ?_
                      refine TL.op (yq (y_assign (ev_t rfl))) rfl rfl rfl ?_
                      refine TL.nil ?_
                      refine TN.seq ?_
                      refine TC.seq ?_
                      refine TC.seq ?_
                      refine TC.region ?_
                      refine TL.op (yq (y_move (ev_t rfl))) rfl rfl rfl ?_
                      refine TL.op (yq (y_lss (ev_t rfl) ev_c)) rfl rfl rfl ?_
                      refine TL.nil ?_
                      refine TN.seq ?_
                      refine TC.condF (ev_t rfl) h43 ?_
                      refine TC.skip ?_
                      refine TN.seq ?_
                      refine TC.seq ?_
                      refine TC.seq ?_
                      refine TC.region ?_
                      refine TL.op (yq (y_move (ev_t rfl))) rfl rfl rfl ?_
                      refine TL.op (yq (y_move (ev_t rfl))) rfl rfl rfl ?_
                      refine TL.op (yq (y_neq (ev_t rfl) (ev_t rfl))) rfl rfl rfl ?_
                      refine TL.nil ?_
                      refine TN.seq ?_
                      refine TC.condF (ev_t rfl) h45 ?_
                      refine TC.skip ?_
                      refine TN.seq ?_
                      refine TC.seq ?_
                      refine TC.region ?_
                      refine TL.op (yq (y_assign ev_c)) rfl rfl rfl ?_
                      refine TL.nil ?_
                      refine TN.seq ?_
                      refine TC.ret ?_
                      subst hF
                      exact TN.ret1 rfl (ev_t rfl) (fun w' hw => ⟨rfl, Hp.sublist hw (List.nil_sublist _)⟩)

end Go.Proofs.Ytilmadapmcnlgaa
