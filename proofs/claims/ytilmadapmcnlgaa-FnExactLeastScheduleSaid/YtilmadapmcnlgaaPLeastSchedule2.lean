/-
  Walks of the functions that a law reaches: each computes its plain function. No condition but the bounds that are typed.
-/
import Derived.Test.YtilmadapmcnlgaaPLeastSchedule1
namespace Go.Proofs.Ytilmadapmcnlgaa
open Go Go.RowKit

set_option maxRecDepth 4000 in
set_option maxHeartbeats 1000000 in
theorem impl_Metric_matched_ok (w : World) (vm : Value) (um : List Value) (m : List (List Int)) (hm : RII w vm um m) (va : Value) (a : List Int) (ha : RI w va a) (vb : Value) (b : List Int) (hb : RI w vb b) (hp0 : Tab m) (hp1 : Cf m.length a) (hp2 : Cf m.length b) (hp3 : a.length = b.length) :
    Calls Try.prog 124 ([(.agg #[vm]), va, vb] : List Value).toArray w (fun e w' => ∃ i : Value, e = .returned (.tuple #[i, (.int .i64 ((F_impl_Metric_matched m a b).2))]) ∧ Hp w [rowI 3 i ((F_impl_Metric_matched m a b).1)] w') := by
  obtain ⟨rz, hF⟩ : ∃ rz, (F_impl_Metric_matched m a b) = rz := ⟨_, rfl⟩
  rw [hF]
  unfold F_impl_Metric_matched at hF
  have hn3 := hp1.n3
  have hor := orders_row a.length hp1.n1 hp1.n3
  have hlen_m := argT_len hm
  have hlen_a := arg_len ha
  have hlen_b := arg_len hb
  refine calls_tc Try.func124 rfl rfl rfl ?_
  change TC _ _ _ _ (Hp w []) [(0, (.agg #[vm])), (1, va), (2, vb)]
  refine TC.seq ?_
  refine TC.region ?_
  refine TL.box (ev_t rfl) rfl (fun g0_0 => ?_)
  refine TL.op (yq (y_assign ev_c)) rfl rfl rfl ?_
  refine TL.op (yq (y_assign ev_c)) rfl rfl rfl ?_
  refine TL.nil ?_
  refine TN.seq ?_
  refine TC.seq ?_
  refine TC.region ?_
  refine TL.op (yq (y_assign ev_c)) rfl rfl rfl ?_
  refine TL.nil ?_
  refine TN.seq ?_
  refine TC.seq ?_
  refine TC.region ?_
  refine TL.op (yq (y_assign ev_c)) rfl rfl rfl ?_
  refine TL.nil ?_
  refine TN.seq ?_
  refine TC.seq ?_
  refine TC.seq ?_
  refine TC.region ?_
  refine TL.op (yq (y_move (ev_t rfl))) rfl rfl rfl ?_
  refine TL.op (yq (y_len (ev_t rfl) Try.underlying25 (fun w hw => ((ri_arg ha) w hw).ln))) rfl rfl rfl ?_
  refine TL.callr (ι := Value × List Value) (vs := [(.int .i64 (a.length : Int))]) (fun i => i.1) (fun i => [tabI 25 3 i.1 i.2 (F_impl_orders (a.length : Int))]) en_138 ⟨(ev_t rfl), trivial⟩ rfl (fun w hw => impl_orders_ok w (a.length : Int) (by first | assumption | omega | grind)) (fun r3_2 => ?_)
  refine TL.op (yq (y_len (ev_t rfl) Try.underlying22 (fun w hw => ((fun w hw => ((rii_tab 0 rfl) w hw).1) w hw).ln))) rfl rfl rfl ?_
  refine TL.op (yq (y_move ev_c)) rfl rfl rfl ?_
  refine TL.nil ?_
  refine TN.seq ?_
  refine TC.block ?_
  obtain ⟨c56, hc57⟩ : ∃ c, F_impl_Metric_matched_L1 m a b ((((F_impl_orders (a.length : Int)).length) - 0) + 1) (([]), 1073741824, 0) = c := ⟨_, rfl⟩
  rw [hc57] at hF
  refine TC.loop (ι := Nat × List Int × Int × Nat × Value) (fun (fu1, best1, least1, k19_1, vbest1) => [(1, va), (2, vb), (3, (.pointer (some ⟨g0_0, 0, none⟩))), (8, vbest1), (9, (.int .i64 least1)), (17, r3_2.1), (18, (.int .i64 ((F_impl_orders (a.length : Int)).length : Int))), (19, (.int .i64 (k19_1 : Int)))]) (fun (fu1, best1, least1, k19_1, vbest1) => Hp w [tabI 25 3 r3_2.1 r3_2.2 (F_impl_orders (a.length : Int)), .blk g0_0 29 [vm]]) (fun (fu1, best1, least1, k19_1, vbest1) => (k19_1 ≤ ((F_impl_orders (a.length : Int)).length)) ∧ (∀ w', Hp w [tabI 25 3 r3_2.1 r3_2.2 (F_impl_orders (a.length : Int))] w' → Hp w [rowI 3 vbest1 best1] w') ∧ ((F_impl_orders (a.length : Int)).length) - k19_1 < fu1 ∧ F_impl_Metric_matched_L1 m a b fu1 (best1, least1, k19_1) = c56) (fun (fu1, best1, least1, k19_1, vbest1) => fu1) ((((F_impl_orders (a.length : Int)).length) - 0) + 1, [], 1073741824, 0, (.slice none 0 0)) ⟨(by first | omega | (simp [-List.getD_eq_getElem?_getD] <;> omega)), (fun w hw => (Hp.sublist hw (List.nil_sublist _)).nil _ _), (by omega), hc57⟩ ⟨rfl, rfl, rfl, rfl, rfl, rfl, rfl, rfl, trivial⟩ (fun w hw => hw) ?_
  rintro ⟨fu1, best1, least1, k19_1, vbest1⟩ hJ1
  obtain ⟨hi1_0, hrbest1, hmu1, hL1⟩ : (k19_1 ≤ ((F_impl_orders (a.length : Int)).length)) ∧ (∀ w', Hp w [tabI 25 3 r3_2.1 r3_2.2 (F_impl_orders (a.length : Int))] w' → Hp w [rowI 3 vbest1 best1] w') ∧ ((F_impl_orders (a.length : Int)).length) - k19_1 < fu1 ∧ F_impl_Metric_matched_L1 m a b fu1 (best1, least1, k19_1) = c56 := hJ1
  change TC _ _ _ _ (Hp w [tabI 25 3 r3_2.1 r3_2.2 (F_impl_orders (a.length : Int)), .blk g0_0 29 [vm]]) [(1, va), (2, vb), (3, (.pointer (some ⟨g0_0, 0, none⟩))), (8, vbest1), (9, (.int .i64 least1)), (17, r3_2.1), (18, (.int .i64 ((F_impl_orders (a.length : Int)).length : Int))), (19, (.int .i64 (k19_1 : Int)))]
  obtain ⟨mf1, rfl⟩ : ∃ m, fu1 = m + 1 := ⟨fu1 - 1, by omega⟩
  rw [F_impl_Metric_matched_L1_s] at hL1
  have hoj := hor.2.2 k19_1
  refine TC.seq ?_
  refine TC.region ?_
  refine TL.op (yq (y_lss (ev_t rfl) (ev_t rfl))) rfl rfl rfl ?_
  refine TL.nil ?_
  refine TN.seq ?_
  refine TC.seq ?_
  refine TC.cond (b := decide ((k19_1 : Int) < ((F_impl_orders (a.length : Int)).length : Int))) (ev_t rfl) (fun h58 => ?_) (fun h58 => ?_)
  · rw [bif_pos h58] at hL1
    have q59 := (of_decide_eq_true h58)
    refine TC.skip ?_
    refine TN.seq ?_
    refine TC.seq ?_
    refine TC.block ?_
    refine TC.seq ?_
    refine TC.region ?_
    have hb60 : k19_1 < (F_impl_orders (a.length : Int)).length := (by first | omega | (simp only [List.length_set, List.length_append, List.length_cons, List.length_nil, List.length_replicate]; omega) | (rw [sortI_length]; simp only [List.length_cons, List.length_nil]; omega))
    refine TL.op (yq (y_idx (k := k19_1) (ev_t rfl) (ev_t rfl) (by first | omega | simp) slT_22 (fun w hw => ((rii_tab 0 rfl) w hw).1) hb60)) rfl rfl rfl ?_
    refine TL.op (yq (y_ldT 0 (ev_t rfl) one_25 rfl hb60)) rfl rfl rfl ?_
    refine TL.op (yq (y_assign (ev_t rfl))) rfl rfl rfl ?_
    refine TL.nil ?_
    refine TN.seq ?_
    refine TC.seq ?_
    refine TC.region ?_
    refine TL.op (yq (y_assign ev_c)) rfl rfl rfl ?_
    refine TL.nil ?_
    refine TN.seq ?_
    refine TC.seq ?_
    refine TC.seq ?_
    refine TC.region ?_
    refine TL.op (yq (y_move (ev_t rfl))) rfl rfl rfl ?_
    refine TL.op (yq (y_len (ev_t rfl) Try.underlying25 (fun w hw => ((ri_tab 0 k19_1 rfl hb60) w hw).ln))) rfl rfl rfl ?_
    refine TL.op (yq (y_move ev_c)) rfl rfl rfl ?_
    refine TL.nil ?_
    refine TN.seq ?_
    refine TC.block ?_
    obtain ⟨c61, hc62⟩ : ∃ c, F_impl_Metric_matched_L2 m a b k19_1 (((((F_impl_orders (a.length : Int)).getD k19_1 []).length) - 0) + 1) (0, 0) = c := ⟨_, rfl⟩
    rw [hc62] at hL1
    refine TC.loop (ι := Nat × Int × Nat) (fun (fu2, cost2, k25_2) => [(1, va), (2, vb), (3, (.pointer (some ⟨g0_0, 0, none⟩))), (8, vbest1), (9, (.int .i64 least1)), (11, (r3_2.2.getD k19_1 undef)), (12, (.int .i64 cost2)), (17, r3_2.1), (18, (.int .i64 ((F_impl_orders (a.length : Int)).length : Int))), (19, (.int .i64 (k19_1 : Int))), (23, (r3_2.2.getD k19_1 undef)), (24, (.int .i64 (((F_impl_orders (a.length : Int)).getD k19_1 []).length : Int))), (25, (.int .i64 (k25_2 : Int)))]) (fun (fu2, cost2, k25_2) => Hp w [tabI 25 3 r3_2.1 r3_2.2 (F_impl_orders (a.length : Int)), .blk g0_0 29 [vm]]) (fun (fu2, cost2, k25_2) => (k25_2 ≤ (((F_impl_orders (a.length : Int)).getD k19_1 []).length)) ∧ (-99 * (k25_2 : Int) ≤ cost2) ∧ (cost2 ≤ 99 * (k25_2 : Int)) ∧ (((F_impl_orders (a.length : Int)).getD k19_1 []).length) - k25_2 < fu2 ∧ F_impl_Metric_matched_L2 m a b k19_1 fu2 (cost2, k25_2) = c61) (fun (fu2, cost2, k25_2) => fu2) (((((F_impl_orders (a.length : Int)).getD k19_1 []).length) - 0) + 1, 0, 0) ⟨(by first | omega | (simp [-List.getD_eq_getElem?_getD] <;> omega)), (by first | omega | (simp [-List.getD_eq_getElem?_getD] <;> omega)), (by first | omega | (simp [-List.getD_eq_getElem?_getD] <;> omega)), (by omega), hc62⟩ ⟨rfl, rfl, rfl, rfl, rfl, rfl, rfl, rfl, rfl, rfl, rfl, rfl, rfl, trivial⟩ (fun w hw => hw) ?_
    rintro ⟨fu2, cost2, k25_2⟩ hJ2
    obtain ⟨hi2_0, hi2_1, hi2_2, hmu2, hL2⟩ : (k25_2 ≤ (((F_impl_orders (a.length : Int)).getD k19_1 []).length)) ∧ (-99 * (k25_2 : Int) ≤ cost2) ∧ (cost2 ≤ 99 * (k25_2 : Int)) ∧ (((F_impl_orders (a.length : Int)).getD k19_1 []).length) - k25_2 < fu2 ∧ F_impl_Metric_matched_L2 m a b k19_1 fu2 (cost2, k25_2) = c61 := hJ2
    change TC _ _ _ _ (Hp w [tabI 25 3 r3_2.1 r3_2.2 (F_impl_orders (a.length : Int)), .blk g0_0 29 [vm]]) [(1, va), (2, vb), (3, (.pointer (some ⟨g0_0, 0, none⟩))), (8, vbest1), (9, (.int .i64 least1)), (11, (r3_2.2.getD k19_1 undef)), (12, (.int .i64 cost2)), (17, r3_2.1), (18, (.int .i64 ((F_impl_orders (a.length : Int)).length : Int))), (19, (.int .i64 (k19_1 : Int))), (23, (r3_2.2.getD k19_1 undef)), (24, (.int .i64 (((F_impl_orders (a.length : Int)).getD k19_1 []).length : Int))), (25, (.int .i64 (k25_2 : Int)))]
    obtain ⟨mf2, rfl⟩ : ∃ m, fu2 = m + 1 := ⟨fu2 - 1, by omega⟩
    rw [F_impl_Metric_matched_L2_s] at hL2
    have hoe := hoj (by omega)
    have hoe2 := hoe.2 k25_2
    have ha1 := hp1.el k25_2
    have hb1 := hp2.el ((((F_impl_orders (a.length : Int)).getD k19_1 []).getD k25_2 0).toNat)
    have hrw := hp0.rows ((a.getD k25_2 0).toNat)
    have hme := hp0.el ((a.getD k25_2 0).toNat) ((b.getD ((((F_impl_orders (a.length : Int)).getD k19_1 []).getD k25_2 0).toNat) 0).toNat)
    refine TC.seq ?_
    refine TC.region ?_
    refine TL.op (yq (y_lss (ev_t rfl) (ev_t rfl))) rfl rfl rfl ?_
    refine TL.nil ?_
    refine TN.seq ?_
    refine TC.seq ?_
    refine TC.cond (b := decide ((k25_2 : Int) < (((F_impl_orders (a.length : Int)).getD k19_1 []).length : Int))) (ev_t rfl) (fun h63 => ?_) (fun h63 => ?_)
    · rw [bif_pos h63] at hL2
      have q64 := (of_decide_eq_true h63)
      refine TC.skip ?_
      refine TN.seq ?_
      refine TC.seq ?_
      refine TC.block ?_
      refine TC.seq ?_
      refine TC.region ?_
      refine TL.op (yq (y_move (ev_t rfl))) rfl rfl rfl ?_
      have hb65 : k25_2 < ((F_impl_orders (a.length : Int)).getD k19_1 []).length := (by first | omega | (simp only [List.length_set, List.length_append, List.length_cons, List.length_nil, List.length_replicate]; omega) | (rw [sortI_length]; simp only [List.length_cons, List.length_nil]; omega))
      refine TL.op (yq (y_idx (k := k25_2) (ev_t rfl) (ev_t rfl) (by first | omega | simp) slT_25 (ri_tab 0 k19_1 rfl hb60) hb65)) rfl rfl rfl ?_
      refine TL.op (yq (y_ldi (ev_t rfl) one_3 (ri_tab 0 k19_1 rfl hb60) hb65)) rfl rfl rfl ?_
      refine TL.op (yq (y_assign (ev_t rfl))) rfl rfl rfl ?_
      refine TL.op (yq (y_assign (ev_t rfl))) rfl rfl rfl ?_
      refine TL.nil ?_
      refine TN.seq ?_
      refine TC.regionQ (by kernel_rfl) (by kernel_rfl) dr_hp ?_
      refine TQ.op (yq (y_move (ev_t rfl))) rfl rfl rfl ?_
      refine TQ.op (yq (y_fa (fa_29_0 g0_0) (ev_t rfl))) rfl rfl rfl ?_
      refine TQ.op (yq (y_ldb 1 (ev_t rfl) one_22 rfl rfl)) rfl rfl rfl ?_
      refine TQ.op (yq (y_move (ev_t rfl))) rfl rfl rfl ?_
      refine TQ.op (yq (y_move (ev_t rfl))) rfl rfl rfl ?_
      have hb66 : k25_2 < a.length := (by first | omega | (simp only [List.length_set, List.length_append, List.length_cons, List.length_nil, List.length_replicate]; omega) | (rw [sortI_length]; simp only [List.length_cons, List.length_nil]; omega))
      refine TQ.op (yq (y_idx (k := k25_2) (ev_t rfl) (ev_t rfl) (by first | omega | simp) slT_25 (ri_arg ha) hb66)) rfl rfl rfl ?_
      refine TQ.op (yq (y_ldi (ev_t rfl) one_3 (ri_arg ha) hb66)) rfl rfl rfl ?_
      have hb67 : ((a.getD k25_2 0)).toNat < m.length := (by first | omega | (simp only [List.length_set, List.length_append, List.length_cons, List.length_nil, List.length_replicate]; omega) | (rw [sortI_length]; simp only [List.length_cons, List.length_nil]; omega))
      refine TQ.op (yq (y_idx (k := ((a.getD k25_2 0)).toNat) (ev_t rfl) (ev_t rfl) (by first | omega | simp) slT_22 (fun w hw => ((rii_arg hm) w hw).1) hb67)) rfl rfl rfl ?_
      have ha68 := hm.row (i := ((a.getD k25_2 0)).toNat) hb67
      refine TQ.op (yq (y_ldA (ev_t rfl) one_25 (rii_arg hm) hb67)) rfl rfl rfl ?_
      refine TQ.op (yq (y_move (ev_t rfl))) rfl rfl rfl ?_
      refine TQ.op (yq (y_move (ev_t rfl))) rfl rfl rfl ?_
      have hb69 : ((((F_impl_orders (a.length : Int)).getD k19_1 []).getD k25_2 0)).toNat < b.length := (by first | omega | (simp only [List.length_set, List.length_append, List.length_cons, List.length_nil, List.length_replicate]; omega) | (rw [sortI_length]; simp only [List.length_cons, List.length_nil]; omega))
      refine TQ.op (yq (y_idx (k := ((((F_impl_orders (a.length : Int)).getD k19_1 []).getD k25_2 0)).toNat) (ev_t rfl) (ev_t rfl) (by first | omega | simp) slT_25 (ri_arg hb) hb69)) rfl rfl rfl ?_
      refine TQ.op (yq (y_ldi (ev_t rfl) one_3 (ri_arg hb) hb69)) rfl rfl rfl ?_
      have hb70 : ((b.getD (((((F_impl_orders (a.length : Int)).getD k19_1 []).getD k25_2 0)).toNat) 0)).toNat < (m.getD (((a.getD k25_2 0)).toNat) []).length := (by first | omega | (simp only [List.length_set, List.length_append, List.length_cons, List.length_nil, List.length_replicate]; omega) | (rw [sortI_length]; simp only [List.length_cons, List.length_nil]; omega))
      refine TQ.op (yq (y_idx (k := ((b.getD (((((F_impl_orders (a.length : Int)).getD k19_1 []).getD k25_2 0)).toNat) 0)).toNat) (ev_t rfl) (ev_t rfl) (by first | omega | simp) slT_25 (ri_arg ha68) hb70)) rfl rfl rfl ?_
      refine TQ.op (yq (y_ldi (ev_t rfl) one_3 (ri_arg ha68) hb70)) rfl rfl rfl ?_
      refine TQ.op (yq (y_add (ev_t rfl) (ev_t rfl) (by unfold In64; omega))) rfl rfl rfl ?_
      refine TQ.op (yq (y_assign (ev_t rfl))) rfl rfl rfl ?_
      refine TQ.nil ?_
      refine TN.blockN ?_
      refine TN.seq ?_
      refine TC.region ?_
      refine TL.op (yq (y_add (ev_t rfl) ev_c (by unfold In64; omega))) rfl rfl rfl ?_
      refine TL.op (yq (y_move (ev_t rfl))) rfl rfl rfl ?_
      refine TL.nil ?_
      exact TN.hand (mf2, cost2 + ((m.getD (((a.getD k25_2 0)).toNat) []).getD (((b.getD (((((F_impl_orders (a.length : Int)).getD k19_1 []).getD k25_2 0)).toNat) 0)).toNat) 0), (k25_2 + 1)) ⟨(by first | omega | (simp [-List.getD_eq_getElem?_getD] <;> omega)), (by first | omega | (simp [-List.getD_eq_getElem?_getD] <;> omega)), (by first | omega | (simp [-List.getD_eq_getElem?_getD] <;> omega)), (by omega), hL2⟩ (Nat.lt_succ_self _) ⟨rfl, rfl, rfl, rfl, rfl, rfl, rfl, rfl, rfl, rfl, rfl, rfl, rfl, trivial⟩ (fun w hw => hw)
    · rw [bif_neg h63] at hL2
      have q64 := (of_decide_eq_false h63)
      refine TC.exit ?_
      refine TN.thenE ?_
      refine TN.thenE ?_
      rw [← hL2, elim_next] at hL1
      try dsimp only at hL1
      refine TN.blockH ?_
      refine TN.seq ?_
      refine TC.seq ?_
      refine TC.region ?_
      refine TL.op (yq (y_move (ev_t rfl))) rfl rfl rfl ?_
      refine TL.op (yq (y_move (ev_t rfl))) rfl rfl rfl ?_
      refine TL.op (yq (y_lss (ev_t rfl) (ev_t rfl))) rfl rfl rfl ?_
      refine TL.nil ?_
      refine TN.seq ?_
      refine TC.cond (b := decide (cost2 < least1)) (ev_t rfl) (fun h71 => ?_) (fun h71 => ?_)
      · rw [bif_pos h71] at hL1
        have q72 := (of_decide_eq_true h71)
        refine TC.region ?_
        refine TL.op (yq (y_move (ev_t rfl))) rfl rfl rfl ?_
        refine TL.op (yq (y_move (ev_t rfl))) rfl rfl rfl ?_
        refine TL.op (yq (y_assign (ev_t rfl))) rfl rfl rfl ?_
        refine TL.op (yq (y_assign (ev_t rfl))) rfl rfl rfl ?_
        refine TL.nil ?_
        refine TN.blockN ?_
        refine TN.seq ?_
        refine TC.region ?_
        refine TL.op (yq (y_add (ev_t rfl) ev_c (by unfold In64; omega))) rfl rfl rfl ?_
        refine TL.op (yq (y_move (ev_t rfl))) rfl rfl rfl ?_
        refine TL.nil ?_
        exact TN.hand (mf1, ((F_impl_orders (a.length : Int)).getD k19_1 []), cost2, (k19_1 + 1), (r3_2.2.getD k19_1 undef)) ⟨(by first | omega | (simp [-List.getD_eq_getElem?_getD] <;> omega)), (fun w hw => ext_row 0 rfl hb60 hw), (by omega), hL1⟩ (Nat.lt_succ_self _) ⟨rfl, rfl, rfl, rfl, rfl, rfl, rfl, rfl, trivial⟩ (fun w hw => hw)
      · rw [bif_neg h71] at hL1
        have q72 := (of_decide_eq_false h71)
        refine TC.skip ?_
        refine TN.blockN ?_
        refine TN.seq ?_
        refine TC.region ?_
        refine TL.op (yq (y_add (ev_t rfl) ev_c (by unfold In64; omega))) rfl rfl rfl ?_
        refine TL.op (yq (y_move (ev_t rfl))) rfl rfl rfl ?_
        refine TL.nil ?_
        exact TN.hand (mf1, best1, least1, (k19_1 + 1), vbest1) ⟨(by first | omega | (simp [-List.getD_eq_getElem?_getD] <;> omega)), hrbest1, (by omega), hL1⟩ (Nat.lt_succ_self _) ⟨rfl, rfl, rfl, rfl, rfl, rfl, rfl, rfl, trivial⟩ (fun w hw => hw)
  · rw [bif_neg h58] at hL1
    have q59 := (of_decide_eq_false h58)
    refine TC.exit ?_
    refine TN.thenE ?_
    refine TN.thenE ?_
    rw [← hL1, elim_next] at hF
    try dsimp only at hF
    refine TN.blockH ?_
    refine TN.seq ?_
    refine TC.seq ?_
    refine TC.region ?_
    refine TL.op (yq (y_move (ev_t rfl))) rfl rfl rfl ?_
    refine TL.op (yq (y_move (ev_t rfl))) rfl rfl rfl ?_
    refine TL.op (yq (y_assign (ev_t rfl))) rfl rfl rfl ?_
    refine TL.op (yq (y_assign (ev_t rfl))) rfl rfl rfl ?_
    refine TL.nil ?_
    refine TN.seq ?_
    refine TC.ret ?_
    subst hF
    refine TN.cls (fun w hw => hrbest1 w (Hp.sublist hw (.cons_cons _ (.cons _ .slnil)))) ?_
    exact TN.ret2 rfl (ev_t rfl) (ev_t rfl) (fun w' hw => ⟨vbest1, rfl, hw⟩)

set_option maxRecDepth 4000 in
set_option maxHeartbeats 1000000 in
theorem impl_Metric_moveCost_ok (w : World) (vm : Value) (um : List Value) (m : List (List Int)) (hm : RII w vm um m) (va : Value) (a : List Int) (ha : RI w va a) (vb : Value) (b : List Int) (hb : RI w vb b) (hp0 : Tab m) (hp1 : Cf m.length a) (hp2 : Cf m.length b) (hp3 : a.length = b.length) :
    Calls Try.prog 100 ([(.agg #[vm]), va, vb] : List Value).toArray w (Ret (.int .i64 (F_impl_Metric_moveCost m a b)) (Hp w [])) := by
  obtain ⟨rz, hF⟩ : ∃ rz, (F_impl_Metric_moveCost m a b) = rz := ⟨_, rfl⟩
  rw [hF]
  unfold F_impl_Metric_moveCost at hF
  have hlen_m := argT_len hm
  have hlen_a := arg_len ha
  have hlen_b := arg_len hb
  refine calls_tc Try.func100 rfl rfl rfl ?_
  change TC _ _ _ _ (Hp w []) [(0, (.agg #[vm])), (1, va), (2, vb)]
  refine TC.seq ?_
  refine TC.region ?_
  refine TL.box (ev_t rfl) rfl (fun g0_0 => ?_)
  refine TL.op (yq (y_assign ev_c)) rfl rfl rfl ?_
  refine TL.nil ?_
  refine TN.seq ?_
  refine TC.seq ?_
  refine TC.region ?_
  refine TL.op (yq (y_ldagg (cs := [vm]) 0 (ev_t rfl) agg_29 rfl)) rfl rfl rfl ?_
  refine TL.op (yq (y_move (ev_t rfl))) rfl rfl rfl ?_
  refine TL.op (yq (y_move (ev_t rfl))) rfl rfl rfl ?_
  refine TL.callr (ι := Value) (vs := [(.agg #[vm]), va, vb]) (fun i => (.tuple #[i, (.int .i64 ((F_impl_Metric_matched m a b).2))])) (fun i => [rowI 3 i ((F_impl_Metric_matched m a b).1)]) en_124 ⟨(ev_t rfl), (ev_t rfl), (ev_t rfl), trivial⟩ rfl (fun w hw => impl_Metric_matched_ok w vm um m ((rii_arg hm) w hw) va a ((ri_arg ha) w hw) vb b ((ri_arg hb) w hw) (by first | assumption | omega | grind) (by first | assumption | omega | grind) (by first | assumption | omega | grind) (by first | assumption | omega | grind)) (fun r1_3 => ?_)
  refine TL.op (yq (y_move (ev_t rfl))) rfl rfl rfl ?_
  refine TL.op (yq (y_extract (ev_t rfl) rfl)) rfl rfl rfl ?_
  refine TL.op (yq (y_extract (ev_t rfl) rfl)) rfl rfl rfl ?_
  refine TL.op (yq (y_assign (ev_t rfl))) rfl rfl rfl ?_
  refine TL.op (yq (y_assign (ev_t rfl))) rfl rfl rfl ?_
  refine TL.nil ?_
  refine TN.seq ?_
  refine TC.seq ?_
  refine TC.region ?_
  refine TL.op (yq (y_move (ev_t rfl))) rfl rfl rfl ?_
  refine TL.op (yq (y_assign (ev_t rfl))) rfl rfl rfl ?_
  refine TL.nil ?_
  refine TN.seq ?_
  refine TC.ret ?_
  subst hF
  exact TN.ret1 rfl (ev_t rfl) (fun w' hw => ⟨rfl, Hp.sublist hw (List.nil_sublist _)⟩)

set_option maxRecDepth 4000 in
set_option maxHeartbeats 1000000 in
theorem spec_l6Match_ok (w : World) (vm : Value) (um : List Value) (m : List (List Int)) (hm : RII w vm um m) (va : Value) (a : List Int) (ha : RI w va a) (vb : Value) (b : List Int) (hb : RI w vb b) (hp0 : Tab m) (hp1 : Cf m.length a) (hp2 : Cf m.length b) (hp3 : a.length = b.length) :
    Calls Try.prog 113 ([(.agg #[vm]), va, vb] : List Value).toArray w (fun e w' => ∃ i : Value, e = .returned (.tuple #[i, (.int .i64 ((F_spec_l6Match m a b).2))]) ∧ Hp w [rowI 3 i ((F_spec_l6Match m a b).1)] w') := by
  obtain ⟨rz, hF⟩ : ∃ rz, (F_spec_l6Match m a b) = rz := ⟨_, rfl⟩
  rw [hF]
  unfold F_spec_l6Match at hF
  have hn3 := hp1.n3
  have hor := perms_row a.length hp1.n1 hp1.n3
  have hlen_m := argT_len hm
  have hlen_a := arg_len ha
  have hlen_b := arg_len hb
  refine calls_tc Try.func113 rfl rfl rfl ?_
  change TC _ _ _ _ (Hp w []) [(0, (.agg #[vm])), (1, va), (2, vb)]
  refine TC.seq ?_
  refine TC.region ?_
  refine TL.box (ev_t rfl) rfl (fun g0_0 => ?_)
  refine TL.op (yq (y_assign ev_c)) rfl rfl rfl ?_
  refine TL.op (yq (y_assign ev_c)) rfl rfl rfl ?_
  refine TL.nil ?_
  refine TN.seq ?_
  refine TC.seq ?_
  refine TC.region ?_
  refine TL.op (yq (y_move (ev_t rfl))) rfl rfl rfl ?_
  refine TL.op (yq (y_len (ev_t rfl) Try.underlying25 (fun w hw => ((ri_arg ha) w hw).ln))) rfl rfl rfl ?_
  refine TL.callr (ι := Value × List Value) (vs := [(.int .i64 (a.length : Int))]) (fun i => i.1) (fun i => [tabI 25 3 i.1 i.2 (F_spec_l6Perms (a.length : Int))]) en_131 ⟨(ev_t rfl), trivial⟩ rfl (fun w hw => spec_l6Perms_ok w (a.length : Int) (by first | assumption | omega | grind)) (fun r1_2 => ?_)
  refine TL.buildI (zs := []) (qs := []) slT_25 rfl trivial rfl (by decide) rfl (fun v1_3 => ?_)
  refine TL.op (yq (y_assign (ev_t rfl))) rfl rfl rfl ?_
  refine TL.op (yq (y_assign (ev_t rfl))) rfl rfl rfl ?_
  refine TL.op (yq (y_assign ev_c)) rfl rfl rfl ?_
  refine TL.nil ?_
  refine TN.seq ?_
  refine TC.seq ?_
  refine TC.seq ?_
  refine TC.region ?_
  refine TL.op (yq (y_assign ev_c)) rfl rfl rfl ?_
  refine TL.nil ?_
  refine TN.seq ?_
  refine TC.block ?_
  obtain ⟨c61, hc62⟩ : ∃ c, F_spec_l6Match_L1 m a b ((((F_spec_l6Perms (a.length : Int)).length) - 0) + 1) (([] : List Int), (-1), 0) = c := ⟨_, rfl⟩
  rw [hc62] at hF
  refine TC.loop (ι := Nat × List Int × Int × Nat × Value) (fun (fu1, k9_1, k10_1, k11_1, vk9_1) => [(1, va), (2, vb), (3, (.pointer (some ⟨g0_0, 0, none⟩))), (8, r1_2.1), (9, vk9_1), (10, (.int .i64 k10_1)), (11, (.int .i64 (k11_1 : Int)))]) (fun (fu1, k9_1, k10_1, k11_1, vk9_1) => Hp w [rowI 3 v1_3 ([] : List Int), tabI 25 3 r1_2.1 r1_2.2 (F_spec_l6Perms (a.length : Int)), .blk g0_0 29 [vm]]) (fun (fu1, k9_1, k10_1, k11_1, vk9_1) => (k11_1 ≤ ((F_spec_l6Perms (a.length : Int)).length)) ∧ (∀ w', Hp w [rowI 3 v1_3 ([] : List Int), tabI 25 3 r1_2.1 r1_2.2 (F_spec_l6Perms (a.length : Int))] w' → Hp w [rowI 3 vk9_1 k9_1] w') ∧ ((F_spec_l6Perms (a.length : Int)).length) - k11_1 < fu1 ∧ F_spec_l6Match_L1 m a b fu1 (k9_1, k10_1, k11_1) = c61) (fun (fu1, k9_1, k10_1, k11_1, vk9_1) => fu1) ((((F_spec_l6Perms (a.length : Int)).length) - 0) + 1, ([] : List Int), -1, 0, v1_3) ⟨(by first | omega | (simp [-List.getD_eq_getElem?_getD] <;> omega)), (fun w hw => Hp.sublist hw (.cons_cons _ (.cons _ .slnil))), (by omega), hc62⟩ ⟨rfl, rfl, rfl, rfl, rfl, rfl, rfl, trivial⟩ (fun w hw => hw) ?_
  rintro ⟨fu1, k9_1, k10_1, k11_1, vk9_1⟩ hJ1
  obtain ⟨hi1_0, hrk9_1, hmu1, hL1⟩ : (k11_1 ≤ ((F_spec_l6Perms (a.length : Int)).length)) ∧ (∀ w', Hp w [rowI 3 v1_3 ([] : List Int), tabI 25 3 r1_2.1 r1_2.2 (F_spec_l6Perms (a.length : Int))] w' → Hp w [rowI 3 vk9_1 k9_1] w') ∧ ((F_spec_l6Perms (a.length : Int)).length) - k11_1 < fu1 ∧ F_spec_l6Match_L1 m a b fu1 (k9_1, k10_1, k11_1) = c61 := hJ1
  change TC _ _ _ _ (Hp w [rowI 3 v1_3 ([] : List Int), tabI 25 3 r1_2.1 r1_2.2 (F_spec_l6Perms (a.length : Int)), .blk g0_0 29 [vm]]) [(1, va), (2, vb), (3, (.pointer (some ⟨g0_0, 0, none⟩))), (8, r1_2.1), (9, vk9_1), (10, (.int .i64 k10_1)), (11, (.int .i64 (k11_1 : Int)))]
  obtain ⟨mf1, rfl⟩ : ∃ m, fu1 = m + 1 := ⟨fu1 - 1, by omega⟩
  rw [F_spec_l6Match_L1_s] at hL1
  have hoj := hor.2.2 k11_1
  refine TC.seq ?_
  refine TC.seq ?_
  refine TC.region ?_
  refine TL.op (yq (y_move (ev_t rfl))) rfl rfl rfl ?_
  refine TL.op (yq (y_move (ev_t rfl))) rfl rfl rfl ?_
  refine TL.op (yq (y_len (ev_t rfl) Try.underlying22 (fun w hw => ((fun w hw => ((rii_tab 1 rfl) w hw).1) w hw).ln))) rfl rfl rfl ?_
  refine TL.op (yq (y_lss (ev_t rfl) (ev_t rfl))) rfl rfl rfl ?_
  refine TL.nil ?_
  refine TN.seq ?_
  refine TC.cond (b := decide ((k11_1 : Int) < ((F_spec_l6Perms (a.length : Int)).length : Int))) (ev_t rfl) (fun h63 => ?_) (fun h63 => ?_)
  · rw [bif_pos h63] at hL1
    have q64 := (of_decide_eq_true h63)
    refine TC.skip ?_
    refine TN.seq ?_
    refine TC.seq ?_
    refine TC.block ?_
    refine TC.seq ?_
    refine TC.region ?_
    refine TL.op (yq (y_assign ev_c)) rfl rfl rfl ?_
    refine TL.nil ?_
    refine TN.seq ?_
    refine TC.seq ?_
    refine TC.seq ?_
    refine TC.region ?_
    refine TL.op (yq (y_assign ev_c)) rfl rfl rfl ?_
    refine TL.nil ?_
    refine TN.seq ?_
    refine TC.block ?_
    obtain ⟨c65, hc66⟩ : ∃ c, F_spec_l6Match_L2 m a b k11_1 ((a.length - 0) + 1) (0, 0) = c := ⟨_, rfl⟩
    rw [hc66] at hL1
    refine TC.loop (ι := Nat × Int × Nat) (fun (fu2, k12_2, k13_2) => [(1, va), (2, vb), (3, (.pointer (some ⟨g0_0, 0, none⟩))), (8, r1_2.1), (9, vk9_1), (10, (.int .i64 k10_1)), (11, (.int .i64 (k11_1 : Int))), (12, (.int .i64 k12_2)), (13, (.int .i64 (k13_2 : Int)))]) (fun (fu2, k12_2, k13_2) => Hp w [rowI 3 v1_3 ([] : List Int), tabI 25 3 r1_2.1 r1_2.2 (F_spec_l6Perms (a.length : Int)), .blk g0_0 29 [vm]]) (fun (fu2, k12_2, k13_2) => (k13_2 ≤ a.length) ∧ (-99 * (k13_2 : Int) ≤ k12_2) ∧ (k12_2 ≤ 99 * (k13_2 : Int)) ∧ a.length - k13_2 < fu2 ∧ F_spec_l6Match_L2 m a b k11_1 fu2 (k12_2, k13_2) = c65) (fun (fu2, k12_2, k13_2) => fu2) ((a.length - 0) + 1, 0, 0) ⟨(by first | omega | (simp [-List.getD_eq_getElem?_getD] <;> omega)), (by first | omega | (simp [-List.getD_eq_getElem?_getD] <;> omega)), (by first | omega | (simp [-List.getD_eq_getElem?_getD] <;> omega)), (by omega), hc66⟩ ⟨rfl, rfl, rfl, rfl, rfl, rfl, rfl, rfl, rfl, trivial⟩ (fun w hw => hw) ?_
    rintro ⟨fu2, k12_2, k13_2⟩ hJ2
    obtain ⟨hi2_0, hi2_1, hi2_2, hmu2, hL2⟩ : (k13_2 ≤ a.length) ∧ (-99 * (k13_2 : Int) ≤ k12_2) ∧ (k12_2 ≤ 99 * (k13_2 : Int)) ∧ a.length - k13_2 < fu2 ∧ F_spec_l6Match_L2 m a b k11_1 fu2 (k12_2, k13_2) = c65 := hJ2
    change TC _ _ _ _ (Hp w [rowI 3 v1_3 ([] : List Int), tabI 25 3 r1_2.1 r1_2.2 (F_spec_l6Perms (a.length : Int)), .blk g0_0 29 [vm]]) [(1, va), (2, vb), (3, (.pointer (some ⟨g0_0, 0, none⟩))), (8, r1_2.1), (9, vk9_1), (10, (.int .i64 k10_1)), (11, (.int .i64 (k11_1 : Int))), (12, (.int .i64 k12_2)), (13, (.int .i64 (k13_2 : Int)))]
    obtain ⟨mf2, rfl⟩ : ∃ m, fu2 = m + 1 := ⟨fu2 - 1, by omega⟩
    rw [F_spec_l6Match_L2_s] at hL2
    have hoe := hoj (by omega)
    have hoe2 := hoe.2 k13_2
    have ha1 := hp1.el k13_2
    have hb1 := hp2.el ((((F_spec_l6Perms (a.length : Int)).getD k11_1 []).getD k13_2 0).toNat)
    have hrw := hp0.rows ((a.getD k13_2 0).toNat)
    have hme := hp0.el ((a.getD k13_2 0).toNat) ((b.getD ((((F_spec_l6Perms (a.length : Int)).getD k11_1 []).getD k13_2 0).toNat) 0).toNat)
    refine TC.seq ?_
    refine TC.seq ?_
    refine TC.region ?_
    refine TL.op (yq (y_move (ev_t rfl))) rfl rfl rfl ?_
    refine TL.op (yq (y_move (ev_t rfl))) rfl rfl rfl ?_
    refine TL.op (yq (y_len (ev_t rfl) Try.underlying25 (fun w hw => ((ri_arg ha) w hw).ln))) rfl rfl rfl ?_
    refine TL.op (yq (y_lss (ev_t rfl) (ev_t rfl))) rfl rfl rfl ?_
    refine TL.nil ?_
    refine TN.seq ?_
    refine TC.cond (b := decide ((k13_2 : Int) < (a.length : Int))) (ev_t rfl) (fun h67 => ?_) (fun h67 => ?_)
    · rw [bif_pos h67] at hL2
      have q68 := (of_decide_eq_true h67)
      refine TC.skip ?_
      refine TN.seq ?_
      refine TC.seq ?_
      refine TC.block ?_
      refine TC.regionQ (by kernel_rfl) (by kernel_rfl) dr_hp ?_
      refine TQ.op (yq (y_move (ev_t rfl))) rfl rfl rfl ?_
      refine TQ.op (yq (y_fa (fa_29_0 g0_0) (ev_t rfl))) rfl rfl rfl ?_
      refine TQ.op (yq (y_ldb 2 (ev_t rfl) one_22 rfl rfl)) rfl rfl rfl ?_
      refine TQ.op (yq (y_move (ev_t rfl))) rfl rfl rfl ?_
      refine TQ.op (yq (y_move (ev_t rfl))) rfl rfl rfl ?_
      have hb69 : k13_2 < a.length := (by first | omega | (simp only [List.length_set, List.length_append, List.length_cons, List.length_nil, List.length_replicate]; omega) | (rw [sortI_length]; simp only [List.length_cons, List.length_nil]; omega))
      refine TQ.op (yq (y_idx (k := k13_2) (ev_t rfl) (ev_t rfl) (by first | omega | simp) slT_25 (ri_arg ha) hb69)) rfl rfl rfl ?_
      refine TQ.op (yq (y_ldi (ev_t rfl) one_3 (ri_arg ha) hb69)) rfl rfl rfl ?_
      have hb70 : ((a.getD k13_2 0)).toNat < m.length := (by first | omega | (simp only [List.length_set, List.length_append, List.length_cons, List.length_nil, List.length_replicate]; omega) | (rw [sortI_length]; simp only [List.length_cons, List.length_nil]; omega))
      refine TQ.op (yq (y_idx (k := ((a.getD k13_2 0)).toNat) (ev_t rfl) (ev_t rfl) (by first | omega | simp) slT_22 (fun w hw => ((rii_arg hm) w hw).1) hb70)) rfl rfl rfl ?_
      have ha71 := hm.row (i := ((a.getD k13_2 0)).toNat) hb70
      refine TQ.op (yq (y_ldA (ev_t rfl) one_25 (rii_arg hm) hb70)) rfl rfl rfl ?_
      refine TQ.op (yq (y_move (ev_t rfl))) rfl rfl rfl ?_
      refine TQ.op (yq (y_move (ev_t rfl))) rfl rfl rfl ?_
      refine TQ.op (yq (y_move (ev_t rfl))) rfl rfl rfl ?_
      have hb72 : k11_1 < (F_spec_l6Perms (a.length : Int)).length := (by first | omega | (simp only [List.length_set, List.length_append, List.length_cons, List.length_nil, List.length_replicate]; omega) | (rw [sortI_length]; simp only [List.length_cons, List.length_nil]; omega))
      refine TQ.op (yq (y_idx (k := k11_1) (ev_t rfl) (ev_t rfl) (by first | omega | simp) slT_22 (fun w hw => ((rii_tab 1 rfl) w hw).1) hb72)) rfl rfl rfl ?_
      refine TQ.op (yq (y_ldT 1 (ev_t rfl) one_25 rfl hb72)) rfl rfl rfl ?_
      refine TQ.op (yq (y_move (ev_t rfl))) rfl rfl rfl ?_
      have hb73 : k13_2 < ((F_spec_l6Perms (a.length : Int)).getD k11_1 []).length := (by first | omega | (simp only [List.length_set, List.length_append, List.length_cons, List.length_nil, List.length_replicate]; omega) | (rw [sortI_length]; simp only [List.length_cons, List.length_nil]; omega))
      refine TQ.op (yq (y_idx (k := k13_2) (ev_t rfl) (ev_t rfl) (by first | omega | simp) slT_25 (ri_tab 1 k11_1 rfl hb72) hb73)) rfl rfl rfl ?_
      refine TQ.op (yq (y_ldi (ev_t rfl) one_3 (ri_tab 1 k11_1 rfl hb72) hb73)) rfl rfl rfl ?_
      have hb74 : ((((F_spec_l6Perms (a.length : Int)).getD k11_1 []).getD k13_2 0)).toNat < b.length := (by first | omega | (simp only [List.length_set, List.length_append, List.length_cons, List.length_nil, List.length_replicate]; omega) | (rw [sortI_length]; simp only [List.length_cons, List.length_nil]; omega))
      refine TQ.op (yq (y_idx (k := ((((F_spec_l6Perms (a.length : Int)).getD k11_1 []).getD k13_2 0)).toNat) (ev_t rfl) (ev_t rfl) (by first | omega | simp) slT_25 (ri_arg hb) hb74)) rfl rfl rfl ?_
      refine TQ.op (yq (y_ldi (ev_t rfl) one_3 (ri_arg hb) hb74)) rfl rfl rfl ?_
      have hb75 : ((b.getD (((((F_spec_l6Perms (a.length : Int)).getD k11_1 []).getD k13_2 0)).toNat) 0)).toNat < (m.getD (((a.getD k13_2 0)).toNat) []).length := (by first | omega | (simp only [List.length_set, List.length_append, List.length_cons, List.length_nil, List.length_replicate]; omega) | (rw [sortI_length]; simp only [List.length_cons, List.length_nil]; omega))
      refine TQ.op (yq (y_idx (k := ((b.getD (((((F_spec_l6Perms (a.length : Int)).getD k11_1 []).getD k13_2 0)).toNat) 0)).toNat) (ev_t rfl) (ev_t rfl) (by first | omega | simp) slT_25 (ri_arg ha71) hb75)) rfl rfl rfl ?_
      refine TQ.op (yq (y_ldi (ev_t rfl) one_3 (ri_arg ha71) hb75)) rfl rfl rfl ?_
      refine TQ.op (yq (y_add (ev_t rfl) (ev_t rfl) (by unfold In64; omega))) rfl rfl rfl ?_
      refine TQ.op (yq (y_assign (ev_t rfl))) rfl rfl rfl ?_
      refine TQ.nil ?_
      refine TN.blockN ?_
      refine TN.seq ?_
      refine TC.region ?_
      refine TL.op (yq (y_move (ev_t rfl))) rfl rfl rfl ?_
      refine TL.op (yq (y_add (ev_t rfl) ev_c (by unfold In64; omega))) rfl rfl rfl ?_
      refine TL.op (yq (y_assign (ev_t rfl))) rfl rfl rfl ?_
      refine TL.nil ?_
      exact TN.hand (mf2, k12_2 + ((m.getD (((a.getD k13_2 0)).toNat) []).getD (((b.getD (((((F_spec_l6Perms (a.length : Int)).getD k11_1 []).getD k13_2 0)).toNat) 0)).toNat) 0), (k13_2 + 1)) ⟨(by first | omega | (simp [-List.getD_eq_getElem?_getD] <;> omega)), (by first | omega | (simp [-List.getD_eq_getElem?_getD] <;> omega)), (by first | omega | (simp [-List.getD_eq_getElem?_getD] <;> omega)), (by omega), hL2⟩ (Nat.lt_succ_self _) ⟨rfl, rfl, rfl, rfl, rfl, rfl, rfl, rfl, rfl, trivial⟩ (fun w hw => hw)
    · rw [bif_neg h67] at hL2
      have q68 := (of_decide_eq_false h67)
      refine TC.exit ?_
      refine TN.thenE ?_
      refine TN.thenE ?_
      rw [← hL2, elim_next] at hL1
      try dsimp only at hL1
      refine TN.blockH ?_
      refine TN.seq ?_
      refine TC.seq ?_
      refine TC.region ?_
      refine TL.op (yq (y_move (ev_t rfl))) rfl rfl rfl ?_
      refine TL.op (yq (y_lss (ev_t rfl) ev_c)) rfl rfl rfl ?_
      refine TL.op (yq (y_move (ev_t rfl))) rfl rfl rfl ?_
      refine TL.opw (w_f rfl rfl rfl) (fun hg => yq (y_move (ev_t rfl))) rfl rfl ?_
      refine TL.opw (w_f rfl rfl rfl) (fun hg => yq (y_move (ev_t rfl))) rfl rfl ?_
      refine TL.opw (w_f rfl rfl rfl) (fun hg => yq (y_lss (ev_g rfl hg) (ev_g rfl hg))) rfl rfl ?_
      refine TL.op (yq (y_or (ev_t rfl) (fun hq => (ev_g rfl hq)))) rfl rfl rfl ?_
      refine TL.nil ?_
      refine TN.seq ?_
      refine TC.cond (b := ((decide (k10_1 < 0)) || (decide (k12_2 < k10_1)))) (ev_t rfl) (fun h76 => ?_) (fun h76 => ?_)
      · rw [bif_pos h76] at hL1
        have q77 := ((or_t h76).imp (fun h => (of_decide_eq_true h)) (fun h => (of_decide_eq_true h)))
        refine TC.seq ?_
        refine TC.region ?_
        refine TL.op (yq (y_move (ev_t rfl))) rfl rfl rfl ?_
        refine TL.op (yq (y_move (ev_t rfl))) rfl rfl rfl ?_
        have hb78 : k11_1 < (F_spec_l6Perms (a.length : Int)).length := (by first | omega | (simp only [List.length_set, List.length_append, List.length_cons, List.length_nil, List.length_replicate]; omega) | (rw [sortI_length]; simp only [List.length_cons, List.length_nil]; omega))
        refine TL.op (yq (y_idx (k := k11_1) (ev_t rfl) (ev_t rfl) (by first | omega | simp) slT_22 (fun w hw => ((rii_tab 1 rfl) w hw).1) hb78)) rfl rfl rfl ?_
        refine TL.op (yq (y_ldT 1 (ev_t rfl) one_25 rfl hb78)) rfl rfl rfl ?_
        refine TL.op (yq (y_assign (ev_t rfl))) rfl rfl rfl ?_
        refine TL.nil ?_
        refine TN.seq ?_
        refine TC.region ?_
        refine TL.op (yq (y_move (ev_t rfl))) rfl rfl rfl ?_
        refine TL.op (yq (y_assign (ev_t rfl))) rfl rfl rfl ?_
        refine TL.nil ?_
        refine TN.blockN ?_
        refine TN.seq ?_
        refine TC.region ?_
        refine TL.op (yq (y_move (ev_t rfl))) rfl rfl rfl ?_
        refine TL.op (yq (y_add (ev_t rfl) ev_c (by unfold In64; omega))) rfl rfl rfl ?_
        refine TL.op (yq (y_assign (ev_t rfl))) rfl rfl rfl ?_
        refine TL.nil ?_
        exact TN.hand (mf1, ((F_spec_l6Perms (a.length : Int)).getD k11_1 []), k12_2, (k11_1 + 1), (r1_2.2.getD k11_1 undef)) ⟨(by first | omega | (simp [-List.getD_eq_getElem?_getD] <;> omega)), (fun w hw => ext_row 1 rfl hb78 hw), (by omega), hL1⟩ (Nat.lt_succ_self _) ⟨rfl, rfl, rfl, rfl, rfl, rfl, rfl, trivial⟩ (fun w hw => hw)
      · rw [bif_neg h76] at hL1
        have q77 := (and_imp (or_f h76) (fun h => (of_decide_eq_false h)) (fun h => (of_decide_eq_false h)))
        refine TC.skip ?_
        refine TN.blockN ?_
        refine TN.seq ?_
        refine TC.region ?_
        refine TL.op (yq (y_move (ev_t rfl))) rfl rfl rfl ?_
        refine TL.op (yq (y_add (ev_t rfl) ev_c (by unfold In64; omega))) rfl rfl rfl ?_
        refine TL.op (yq (y_assign (ev_t rfl))) rfl rfl rfl ?_
        refine TL.nil ?_
        exact TN.hand (mf1, k9_1, k10_1, (k11_1 + 1), vk9_1) ⟨(by first | omega | (simp [-List.getD_eq_getElem?_getD] <;> omega)), hrk9_1, (by omega), hL1⟩ (Nat.lt_succ_self _) ⟨rfl, rfl, rfl, rfl, rfl, rfl, rfl, trivial⟩ (fun w hw => hw)
  · rw [bif_neg h63] at hL1
    have q64 := (of_decide_eq_false h63)
    refine TC.exit ?_
    refine TN.thenE ?_
    refine TN.thenE ?_
    rw [← hL1, elim_next] at hF
    try dsimp only at hF
    refine TN.blockH ?_
    refine TN.seq ?_
    refine TC.seq ?_
    refine TC.region ?_
    refine TL.op (yq (y_move (ev_t rfl))) rfl rfl rfl ?_
    refine TL.op (yq (y_move (ev_t rfl))) rfl rfl rfl ?_
    refine TL.op (yq (y_assign (ev_t rfl))) rfl rfl rfl ?_
    refine TL.op (yq (y_assign (ev_t rfl))) rfl rfl rfl ?_
    refine TL.nil ?_
    refine TN.seq ?_
    refine TC.ret ?_
    subst hF
    refine TN.cls (fun w hw => hrk9_1 w (Hp.sublist hw (.cons_cons _ (.cons_cons _ (.cons _ .slnil))))) ?_
    exact TN.ret2 rfl (ev_t rfl) (ev_t rfl) (fun w' hw => ⟨vk9_1, rfl, hw⟩)

set_option maxRecDepth 4000 in
set_option maxHeartbeats 1000000 in
theorem spec_l6Move_ok (w : World) (vm : Value) (um : List Value) (m : List (List Int)) (hm : RII w vm um m) (va : Value) (a : List Int) (ha : RI w va a) (vb : Value) (b : List Int) (hb : RI w vb b) (hp0 : Tab m) (hp1 : Cf m.length a) (hp2 : Cf m.length b) (hp3 : a.length = b.length) :
    Calls Try.prog 76 ([(.agg #[vm]), va, vb] : List Value).toArray w (Ret (.int .i64 (F_spec_l6Move m a b)) (Hp w [])) := by
  obtain ⟨rz, hF⟩ : ∃ rz, (F_spec_l6Move m a b) = rz := ⟨_, rfl⟩
  rw [hF]
  unfold F_spec_l6Move at hF
  have hlen_m := argT_len hm
  have hlen_a := arg_len ha
  have hlen_b := arg_len hb
  refine calls_tc Try.func76 rfl rfl rfl ?_
  change TC _ _ _ _ (Hp w []) [(0, (.agg #[vm])), (1, va), (2, vb)]
  refine TC.seq ?_
  refine TC.region ?_
  refine TL.box (ev_t rfl) rfl (fun g0_0 => ?_)
  refine TL.op (yq (y_assign ev_c)) rfl rfl rfl ?_
  refine TL.nil ?_
  refine TN.seq ?_
  refine TC.seq ?_
  refine TC.region ?_
  refine TL.op (yq (y_ldagg (cs := [vm]) 0 (ev_t rfl) agg_29 rfl)) rfl rfl rfl ?_
  refine TL.op (yq (y_move (ev_t rfl))) rfl rfl rfl ?_
  refine TL.op (yq (y_move (ev_t rfl))) rfl rfl rfl ?_
  refine TL.callr (ι := Value) (vs := [(.agg #[vm]), va, vb]) (fun i => (.tuple #[i, (.int .i64 ((F_spec_l6Match m a b).2))])) (fun i => [rowI 3 i ((F_spec_l6Match m a b).1)]) en_113 ⟨(ev_t rfl), (ev_t rfl), (ev_t rfl), trivial⟩ rfl (fun w hw => spec_l6Match_ok w vm um m ((rii_arg hm) w hw) va a ((ri_arg ha) w hw) vb b ((ri_arg hb) w hw) (by first | assumption | omega | grind) (by first | assumption | omega | grind) (by first | assumption | omega | grind) (by first | assumption | omega | grind)) (fun r1_3 => ?_)
  refine TL.op (yq (y_move (ev_t rfl))) rfl rfl rfl ?_
  refine TL.op (yq (y_extract (ev_t rfl) rfl)) rfl rfl rfl ?_
  refine TL.op (yq (y_extract (ev_t rfl) rfl)) rfl rfl rfl ?_
  refine TL.op (yq (y_assign (ev_t rfl))) rfl rfl rfl ?_
  refine TL.op (yq (y_assign (ev_t rfl))) rfl rfl rfl ?_
  refine TL.nil ?_
  refine TN.seq ?_
  refine TC.seq ?_
  refine TC.region ?_
  refine TL.op (yq (y_move (ev_t rfl))) rfl rfl rfl ?_
  refine TL.op (yq (y_assign (ev_t rfl))) rfl rfl rfl ?_
  refine TL.nil ?_
  refine TN.seq ?_
  refine TC.ret ?_
  subst hF
  exact TN.ret1 rfl (ev_t rfl) (fun w' hw => ⟨rfl, Hp.sublist hw (List.nil_sublist _)⟩)

set_option maxRecDepth 4000 in
set_option maxHeartbeats 1000000 in
theorem impl_isServed_ok (w : World) (vm : Value) (um : List Value) (m : List (List Int)) (hm : RII w vm um m) (va : Value) (a : List Int) (ha : RI w va a) (vreqs : Value) (reqs : List Int) (hreqs : RI w vreqs reqs)  :
    Calls Try.prog 67 ([(.agg #[vm]), va, vreqs] : List Value).toArray w (Ret (.bool (F_impl_isServed m a reqs)) (Hp w [])) := by
  obtain ⟨rz, hF⟩ : ∃ rz, (F_impl_isServed m a reqs) = rz := ⟨_, rfl⟩
  rw [hF]
  unfold F_impl_isServed at hF
  have hlen_m := argT_len hm
  have hlen_a := arg_len ha
  have hlen_reqs := arg_len hreqs
  refine calls_tc Try.func67 rfl rfl rfl ?_
  change TC _ _ _ _ (Hp w []) [(0, (.agg #[vm])), (1, va), (2, vreqs)]
  refine TC.seq ?_
  refine TC.region ?_
  refine TL.box (ev_t rfl) rfl (fun g0_0 => ?_)
  refine TL.op (yq (y_assign ev_c)) rfl rfl rfl ?_
  refine TL.nil ?_
  refine TN.seq ?_
  refine TC.seq ?_
  refine TC.region ?_
  refine TL.op (yq (y_ldagg (cs := [vm]) 0 (ev_t rfl) agg_29 rfl)) rfl rfl rfl ?_
  refine TL.op (y_call (vs := [(.agg #[vm])]) (v := (.bool (F_impl_IsMetric m))) en_77 ⟨(ev_t rfl), trivial⟩ (fun w hw => impl_IsMetric_ok w vm um m ((rii_arg hm) w hw))) rfl rfl rfl ?_
  refine TL.op (yq (y_move (ev_t rfl))) rfl rfl rfl ?_
  refine TL.opw (w_t rfl rfl rfl) (fun hg => yq (y_ldagg (cs := [vm]) 0 (ev_t rfl) agg_29 rfl)) rfl rfl ?_
  refine TL.opw (w_t rfl rfl rfl) (fun hg => yq (y_move (ev_t rfl))) rfl rfl ?_
  refine TL.opw (w_t rfl rfl rfl) (fun hg => y_call (vs := [(.agg #[vm]), va]) (v := (.bool (F_impl_Metric_isConfig m a))) en_70 ⟨(ev_g rfl hg), (ev_g rfl hg), trivial⟩ (fun w hw => impl_Metric_isConfig_ok w vm um m ((rii_arg hm) w hw) va a ((ri_arg ha) w hw))) rfl rfl ?_
  refine TL.op (yq (y_and (ev_t rfl) (fun hq => (ev_g rfl hq)))) rfl rfl rfl ?_
  refine TL.op (yq (y_move (ev_t rfl))) rfl rfl rfl ?_
  refine TL.opw (w_t rfl rfl rfl) (fun hg => yq (y_move (ev_t rfl))) rfl rfl ?_
  refine TL.opw (w_t rfl rfl rfl) (fun hg => yq (y_len (ev_g rfl hg) Try.underlying25 (fun w hw => ((ri_arg hreqs) w hw).ln))) rfl rfl ?_
  refine TL.opw (w_t rfl rfl rfl) (fun hg => yq (y_leq (ev_g rfl hg) ev_c)) rfl rfl ?_
  refine TL.op (yq (y_and (ev_t rfl) (fun hq => (ev_g rfl hq)))) rfl rfl rfl ?_
  refine TL.op (yq (y_move (ev_t rfl))) rfl rfl rfl ?_
  refine TL.opw (w_t rfl rfl rfl) (fun hg => yq (y_fa (fa_29_0 g0_0) (ev_t rfl))) rfl rfl ?_
  refine TL.opw (w_t rfl rfl rfl) (fun hg => yq (y_ldb 0 (ev_g rfl hg) one_22 rfl rfl)) rfl rfl ?_
  refine TL.opw (w_t rfl rfl rfl) (fun hg => yq (y_len (ev_g rfl hg) Try.underlying22 (fun w hw => ((fun w hw => ((rii_arg hm) w hw).1) w hw).ln))) rfl rfl ?_
  refine TL.opw (w_t rfl rfl rfl) (fun hg => yq (y_move (ev_t rfl))) rfl rfl ?_
  refine TL.opw (w_t rfl rfl rfl) (fun hg => y_call (vs := [(.int .i64 (m.length : Int)), vreqs]) (v := (.bool (F_impl_areBelow (m.length : Int) reqs))) en_101 ⟨(ev_g rfl hg), (ev_g rfl hg), trivial⟩ (fun w hw => impl_areBelow_ok w (m.length : Int) vreqs reqs ((ri_arg hreqs) w hw) (by have hgf := (and_imp (and_t hg) (fun h => (and_imp (and_t h) (fun h => (isMetric_t h)) (fun h => (isConfig_t h)))) (fun h => (of_decide_eq_true h))); first | assumption | omega | (have hq := hgf.n6; omega) | (have hq := hgf.1.n6; omega) | grind) (by have hgf := (and_imp (and_t hg) (fun h => (and_imp (and_t h) (fun h => (isMetric_t h)) (fun h => (isConfig_t h)))) (fun h => (of_decide_eq_true h))); first | assumption | omega | (have hq := hgf.n6; omega) | (have hq := hgf.1.n6; omega) | grind))) rfl rfl ?_
  refine TL.op (yq (y_and (ev_t rfl) (fun hq => (ev_g rfl hq)))) rfl rfl rfl ?_
  refine TL.op (yq (y_assign (ev_t rfl))) rfl rfl rfl ?_
  refine TL.nil ?_
  refine TN.seq ?_
  refine TC.ret ?_
  subst hF
  exact TN.ret1 rfl (ev_t rfl) (fun w' hw => ⟨rfl, Hp.sublist hw (List.nil_sublist _)⟩)

set_option maxRecDepth 4000 in
set_option maxHeartbeats 1000000 in
theorem spec_l6Start_ok (w : World) (vm : Value) (um : List Value) (m : List (List Int)) (hm : RII w vm um m) (vstart : Value) (start : List Int) (hstart : RI w vstart start) (vreqs : Value) (reqs : List Int) (hreqs : RI w vreqs reqs)  :
    Calls Try.prog 84 ([(.agg #[vm]), vstart, vreqs] : List Value).toArray w (Ret (.bool (F_spec_l6Start m start reqs)) (Hp w [])) := by
  obtain ⟨rz, hF⟩ : ∃ rz, (F_spec_l6Start m start reqs) = rz := ⟨_, rfl⟩
  rw [hF]
  unfold F_spec_l6Start at hF
  have hlen_m := argT_len hm
  have hlen_start := arg_len hstart
  have hlen_reqs := arg_len hreqs
  refine calls_tc Try.func84 rfl rfl rfl ?_
  change TC _ _ _ _ (Hp w []) [(0, (.agg #[vm])), (1, vstart), (2, vreqs)]
  refine TC.seq ?_
  refine TC.region ?_
  refine TL.box (ev_t rfl) rfl (fun g0_0 => ?_)
  refine TL.op (yq (y_assign ev_c)) rfl rfl rfl ?_
  refine TL.nil ?_
  refine TN.seq ?_
  refine TC.seq ?_
  refine TC.region ?_
  refine TL.op (yq (y_ldagg (cs := [vm]) 0 (ev_t rfl) agg_29 rfl)) rfl rfl rfl ?_
  refine TL.op (y_call (vs := [(.agg #[vm])]) (v := (.bool (F_spec_l6Good m))) en_64 ⟨(ev_t rfl), trivial⟩ (fun w hw => spec_l6Good_ok w vm um m ((rii_arg hm) w hw))) rfl rfl rfl ?_
  refine TL.op (yq (y_move (ev_t rfl))) rfl rfl rfl ?_
  refine TL.opw (w_t rfl rfl rfl) (fun hg => yq (y_fa (fa_29_0 g0_0) (ev_t rfl))) rfl rfl ?_
  refine TL.opw (w_t rfl rfl rfl) (fun hg => yq (y_ldb 0 (ev_g rfl hg) one_22 rfl rfl)) rfl rfl ?_
  refine TL.opw (w_t rfl rfl rfl) (fun hg => yq (y_len (ev_g rfl hg) Try.underlying22 (fun w hw => ((fun w hw => ((rii_arg hm) w hw).1) w hw).ln))) rfl rfl ?_
  refine TL.opw (w_t rfl rfl rfl) (fun hg => yq (y_move (ev_t rfl))) rfl rfl ?_
  refine TL.opw (w_t rfl rfl rfl) (fun hg => y_call (vs := [(.int .i64 (m.length : Int)), vstart]) (v := (.bool (F_spec_l6Config (m.length : Int) start))) en_65 ⟨(ev_g rfl hg), (ev_g rfl hg), trivial⟩ (fun w hw => spec_l6Config_ok w (m.length : Int) vstart start ((ri_arg hstart) w hw) (by have hgf := (l6Good_t hg); first | assumption | omega | (have hq := hgf.n6; omega) | (have hq := hgf.1.n6; omega) | grind) (by have hgf := (l6Good_t hg); first | assumption | omega | (have hq := hgf.n6; omega) | (have hq := hgf.1.n6; omega) | grind))) rfl rfl ?_
  refine TL.op (yq (y_and (ev_t rfl) (fun hq => (ev_g rfl hq)))) rfl rfl rfl ?_
  refine TL.op (yq (y_move (ev_t rfl))) rfl rfl rfl ?_
  refine TL.opw (w_t rfl rfl rfl) (fun hg => yq (y_move (ev_t rfl))) rfl rfl ?_
  refine TL.opw (w_t rfl rfl rfl) (fun hg => yq (y_len (ev_g rfl hg) Try.underlying25 (fun w hw => ((ri_arg hreqs) w hw).ln))) rfl rfl ?_
  refine TL.opw (w_t rfl rfl rfl) (fun hg => yq (y_leq (ev_g rfl hg) ev_c)) rfl rfl ?_
  refine TL.op (yq (y_and (ev_t rfl) (fun hq => (ev_g rfl hq)))) rfl rfl rfl ?_
  refine TL.op (yq (y_move (ev_t rfl))) rfl rfl rfl ?_
  refine TL.opw (w_t rfl rfl rfl) (fun hg => yq (y_fa (fa_29_0 g0_0) (ev_t rfl))) rfl rfl ?_
  refine TL.opw (w_t rfl rfl rfl) (fun hg => yq (y_ldb 0 (ev_g rfl hg) one_22 rfl rfl)) rfl rfl ?_
  refine TL.opw (w_t rfl rfl rfl) (fun hg => yq (y_len (ev_g rfl hg) Try.underlying22 (fun w hw => ((fun w hw => ((rii_arg hm) w hw).1) w hw).ln))) rfl rfl ?_
  refine TL.opw (w_t rfl rfl rfl) (fun hg => yq (y_move (ev_t rfl))) rfl rfl ?_
  refine TL.opw (w_t rfl rfl rfl) (fun hg => y_call (vs := [(.int .i64 (m.length : Int)), vreqs]) (v := (.bool (F_spec_l6List (m.length : Int) reqs))) en_105 ⟨(ev_g rfl hg), (ev_g rfl hg), trivial⟩ (fun w hw => spec_l6List_ok w (m.length : Int) vreqs reqs ((ri_arg hreqs) w hw) (by have hgf := (and_imp (and_t hg) (fun h => (and_imp (and_t h) (fun h => (l6Good_t h)) (fun h => (l6Config_t h)))) (fun h => (of_decide_eq_true h))); first | assumption | omega | (have hq := hgf.n6; omega) | (have hq := hgf.1.n6; omega) | grind) (by have hgf := (and_imp (and_t hg) (fun h => (and_imp (and_t h) (fun h => (l6Good_t h)) (fun h => (l6Config_t h)))) (fun h => (of_decide_eq_true h))); first | assumption | omega | (have hq := hgf.n6; omega) | (have hq := hgf.1.n6; omega) | grind))) rfl rfl ?_
  refine TL.op (yq (y_and (ev_t rfl) (fun hq => (ev_g rfl hq)))) rfl rfl rfl ?_
  refine TL.op (yq (y_assign (ev_t rfl))) rfl rfl rfl ?_
  refine TL.nil ?_
  refine TN.seq ?_
  refine TC.ret ?_
  subst hF
  exact TN.ret1 rfl (ev_t rfl) (fun w' hw => ⟨rfl, Hp.sublist hw (List.nil_sublist _)⟩)

set_option maxRecDepth 4000 in
set_option maxHeartbeats 1000000 in
theorem spec_l6Sort_ok (w : World) (vlist : Value) (list : List Int) (hlist : RI w vlist list) (hp0 : list.length ≤ 100000) :
    Calls Try.prog 129 ([vlist] : List Value).toArray w (fun e w' => ∃ i : Value, e = .returned i ∧ Hp w [rowI 3 i (F_spec_l6Sort list)] w') := by
  obtain ⟨rz, hF⟩ : ∃ rz, (F_spec_l6Sort list) = rz := ⟨_, rfl⟩
  rw [hF]
  unfold F_spec_l6Sort at hF
  have hlen_list := arg_len hlist
  refine calls_tc Try.func129 rfl rfl rfl ?_
  change TC _ _ _ _ (Hp w []) [(0, vlist)]
  refine TC.seq ?_
  refine TC.region ?_
  refine TL.op (yq (y_assign ev_c)) rfl rfl rfl ?_
  refine TL.nil ?_
  refine TN.seq ?_
  refine TC.seq ?_
  refine TC.region ?_
  refine TL.buildI (zs := []) (qs := []) slT_25 rfl trivial rfl (by decide) rfl (fun v1_0 => ?_)
  refine TL.op (yq (y_assign (ev_t rfl))) rfl rfl rfl ?_
  refine TL.nil ?_
  refine TN.seq ?_
  refine TC.seq ?_
  refine TC.seq ?_
  refine TC.region ?_
  refine TL.op (yq (y_assign ev_c)) rfl rfl rfl ?_
  refine TL.nil ?_
  refine TN.seq ?_
  refine TC.block ?_
  obtain ⟨c21, hc22⟩ : ∃ c, F_spec_l6Sort_L1 list ((list.length - 0) + 1) (([] : List Int), 0) = c := ⟨_, rfl⟩
  rw [hc22] at hF
  refine TC.loop (ι := Nat × List Int × Nat × Value) (fun (fu1, out1, i1, vout1) => [(0, vlist), (3, vout1), (4, (.int .i64 (i1 : Int)))]) (fun (fu1, out1, i1, vout1) => Hp w [rowI 3 vout1 out1]) (fun (fu1, out1, i1, vout1) => (i1 ≤ list.length) ∧ (out1.length = i1) ∧ list.length - i1 < fu1 ∧ F_spec_l6Sort_L1 list fu1 (out1, i1) = c21) (fun (fu1, out1, i1, vout1) => fu1) ((list.length - 0) + 1, ([] : List Int), 0, v1_0) ⟨(by first | omega | (simp [-List.getD_eq_getElem?_getD] <;> omega)), (by first | omega | (simp [-List.getD_eq_getElem?_getD] <;> omega)), (by omega), hc22⟩ ⟨rfl, rfl, rfl, trivial⟩ (fun w hw => hw) ?_
  rintro ⟨fu1, out1, i1, vout1⟩ hJ1
  obtain ⟨hi1_0, hi1_1, hmu1, hL1⟩ : (i1 ≤ list.length) ∧ (out1.length = i1) ∧ list.length - i1 < fu1 ∧ F_spec_l6Sort_L1 list fu1 (out1, i1) = c21 := hJ1
  change TC _ _ _ _ (Hp w [rowI 3 vout1 out1]) [(0, vlist), (3, vout1), (4, (.int .i64 (i1 : Int)))]
  obtain ⟨mf1, rfl⟩ : ∃ m, fu1 = m + 1 := ⟨fu1 - 1, by omega⟩
  rw [F_spec_l6Sort_L1_s] at hL1
  refine TC.seq ?_
  refine TC.seq ?_
  refine TC.region ?_
  refine TL.op (yq (y_move (ev_t rfl))) rfl rfl rfl ?_
  refine TL.op (yq (y_move (ev_t rfl))) rfl rfl rfl ?_
  refine TL.op (yq (y_len (ev_t rfl) Try.underlying25 (fun w hw => ((ri_arg hlist) w hw).ln))) rfl rfl rfl ?_
  refine TL.op (yq (y_lss (ev_t rfl) (ev_t rfl))) rfl rfl rfl ?_
  refine TL.nil ?_
  refine TN.seq ?_
  refine TC.cond (b := decide ((i1 : Int) < (list.length : Int))) (ev_t rfl) (fun h23 => ?_) (fun h23 => ?_)
  · rw [bif_pos h23] at hL1
    have q24 := (of_decide_eq_true h23)
    refine TC.skip ?_
    refine TN.seq ?_
    refine TC.seq ?_
    refine TC.block ?_
    refine TC.seq ?_
    refine TC.region ?_
    refine TL.op (yq (y_assign ev_c)) rfl rfl rfl ?_
    refine TL.nil ?_
    refine TN.seq ?_
    refine TC.seq ?_
    refine TC.block ?_
    obtain ⟨c25, hc26⟩ : ∃ c, F_spec_l6Sort_L2 list out1 i1 ((out1.length - 0) + 1) 0 = c := ⟨_, rfl⟩
    rw [hc26] at hL1
    refine TC.loop (ι := Nat × Nat) (fun (fu2, k2) => [(0, vlist), (3, vout1), (4, (.int .i64 (i1 : Int))), (5, (.int .i64 (k2 : Int)))]) (fun (fu2, k2) => Hp w [rowI 3 vout1 out1]) (fun (fu2, k2) => (k2 ≤ out1.length) ∧ out1.length - k2 < fu2 ∧ F_spec_l6Sort_L2 list out1 i1 fu2 k2 = c25) (fun (fu2, k2) => fu2) ((out1.length - 0) + 1, 0) ⟨(by first | omega | (simp [-List.getD_eq_getElem?_getD] <;> omega)), (by omega), hc26⟩ ⟨rfl, rfl, rfl, rfl, trivial⟩ (fun w hw => hw) ?_
    rintro ⟨fu2, k2⟩ hJ2
    obtain ⟨hi2_0, hmu2, hL2⟩ : (k2 ≤ out1.length) ∧ out1.length - k2 < fu2 ∧ F_spec_l6Sort_L2 list out1 i1 fu2 k2 = c25 := hJ2
    change TC _ _ _ _ (Hp w [rowI 3 vout1 out1]) [(0, vlist), (3, vout1), (4, (.int .i64 (i1 : Int))), (5, (.int .i64 (k2 : Int)))]
    obtain ⟨mf2, rfl⟩ : ∃ m, fu2 = m + 1 := ⟨fu2 - 1, by omega⟩
    rw [F_spec_l6Sort_L2_s] at hL2
    refine TC.seq ?_
    refine TC.seq ?_
    refine TC.regionQ (by kernel_rfl) (by kernel_rfl) dr_hp ?_
    refine TQ.op (yq (y_move (ev_t rfl))) rfl rfl rfl ?_
    refine TQ.op (yq (y_move (ev_t rfl))) rfl rfl rfl ?_
    refine TQ.op (yq (y_len (ev_t rfl) Try.underlying25 (fun w hw => ((ri_row 0 rfl) w hw).ln))) rfl rfl rfl ?_
    refine TQ.op (yq (y_lss (ev_t rfl) (ev_t rfl))) rfl rfl rfl ?_
    refine TQ.op (yq (y_move (ev_t rfl))) rfl rfl rfl ?_
    refine TQ.opw (w_t rfl rfl rfl) (fun hg => yq (y_move (ev_t rfl))) rfl rfl ?_
    refine TQ.opw (w_t rfl rfl rfl) (fun hg => yq (y_move (ev_t rfl))) rfl rfl ?_
    refine TQ.opw (w_t rfl rfl rfl) (fun hg => yq (y_idx (k := k2) (ev_g rfl hg) (ev_g rfl hg) (by first | omega | simp) slT_25 (ri_row 0 rfl) (show k2 < out1.length by have hgf := (of_decide_eq_true hg); omega))) rfl rfl ?_
    refine TQ.opw (w_t rfl rfl rfl) (fun hg => yq (y_ldi (ev_g rfl hg) one_3 (ri_row 0 rfl) (show k2 < out1.length by have hgf := (of_decide_eq_true hg); omega))) rfl rfl ?_
    refine TQ.opw (w_t rfl rfl rfl) (fun hg => yq (y_move (ev_t rfl))) rfl rfl ?_
    refine TQ.opw (w_t rfl rfl rfl) (fun hg => yq (y_move (ev_t rfl))) rfl rfl ?_
    refine TQ.opw (w_t rfl rfl rfl) (fun hg => yq (y_idx (k := i1) (ev_g rfl hg) (ev_g rfl hg) (by first | omega | simp) slT_25 (ri_arg hlist) (show i1 < list.length by have hgf := (of_decide_eq_true hg); omega))) rfl rfl ?_
    refine TQ.opw (w_t rfl rfl rfl) (fun hg => yq (y_ldi (ev_g rfl hg) one_3 (ri_arg hlist) (show i1 < list.length by have hgf := (of_decide_eq_true hg); omega))) rfl rfl ?_
    refine TQ.opw (w_t rfl rfl rfl) (fun hg => yq (y_leq (ev_g rfl hg) (ev_g rfl hg))) rfl rfl ?_
    refine TQ.op (yq (y_and (ev_t rfl) (fun hq => (ev_g rfl hq)))) rfl rfl rfl ?_
    refine TQ.nil ?_
    refine TN.seq ?_
    refine TC.cond (b := ((decide ((k2 : Int) < (out1.length : Int))) && (decide ((out1.getD k2 0) ≤ (list.getD i1 0))))) (ev_t rfl) (fun h27 => ?_) (fun h27 => ?_)
    · rw [bif_pos h27] at hL2
      have q28 := (and_imp (and_t h27) (fun h => (of_decide_eq_true h)) (fun h => (of_decide_eq_true h)))
      refine TC.skip ?_
      refine TN.seq ?_
      refine TC.block ?_
      refine TC.region ?_
      refine TL.op (yq (y_move (ev_t rfl))) rfl rfl rfl ?_
      refine TL.op (yq (y_add (ev_t rfl) ev_c (by unfold In64; omega))) rfl rfl rfl ?_
      refine TL.op (yq (y_assign (ev_t rfl))) rfl rfl rfl ?_
      refine TL.nil ?_
      refine TN.blockN ?_
      exact TN.hand (mf2, (k2 + 1)) ⟨(by first | omega | (simp [-List.getD_eq_getElem?_getD] <;> omega)), (by omega), hL2⟩ (Nat.lt_succ_self _) ⟨rfl, rfl, rfl, rfl, trivial⟩ (fun w hw => hw)
    · rw [bif_neg h27] at hL2
      have q28 := ((and_f h27).imp (fun h => (of_decide_eq_false h)) (fun h => (of_decide_eq_false h)))
      refine TC.exit ?_
      refine TN.thenE ?_
      refine TN.thenE ?_
      rw [← hL2, elim_next] at hL1
      try dsimp only at hL1
      refine TN.blockH ?_
      refine TN.seq ?_
      refine TC.mid (fun a' w' => ∃ v8_14 : Value, Slots 46 [(0, vlist), (3, v8_14), (4, (.int .i64 (i1 : Int)))] a' ∧ Hp w [rowI 3 v8_14 (((([] : List Int) ++ ((out1.take k2).drop 0)) ++ ([(list.getD i1 0)])) ++ ((out1.take out1.length).drop k2))] w') ?_ ?_
      · refine TC.regionH 16 (Hp w [rowI 3 vout1 out1]) rfl (by kernel_rfl) dr_hp (fun w hw => hw) ?_
        refine TH.take 1 rfl (by kernel_rfl) (y_move (ev_t rfl)) rfl rfl rfl ?_
        refine TH.take 2 rfl (by kernel_rfl) (y_move (ev_t rfl)) rfl rfl rfl ?_
        have hs29 : 0 ≤ k2 := (by first | omega | (simp only [List.length_set, List.length_append, List.length_cons, List.length_nil, List.length_replicate]; omega) | (rw [sortI_length]; simp only [List.length_cons, List.length_nil]; omega))
        have hs30 : k2 ≤ out1.length := (by first | omega | (simp only [List.length_set, List.length_append, List.length_cons, List.length_nil, List.length_replicate]; omega) | (rw [sortI_length]; simp only [List.length_cons, List.length_nil]; omega))
        refine TH.take 3 rfl (by kernel_rfl) (y_slice_hi (ev_t rfl) (ev_t rfl) (hi := k2) (by omega) slT_25 (ri_row 0 rfl) hs30) rfl rfl rfl ?_
        refine TH.take 5 rfl (by kernel_rfl) (y_move (ev_t rfl)) rfl rfl rfl ?_
        refine TH.take 6 rfl (by kernel_rfl) (y_move (ev_t rfl)) rfl rfl rfl ?_
        have hb31 : i1 < list.length := (by first | omega | (simp only [List.length_set, List.length_append, List.length_cons, List.length_nil, List.length_replicate]; omega) | (rw [sortI_length]; simp only [List.length_cons, List.length_nil]; omega))
        refine TH.take 7 rfl (by kernel_rfl) (y_idx (k := i1) (ev_t rfl) (ev_t rfl) (by first | omega | simp) slT_25 (ri_arg hlist) hb31) rfl rfl rfl ?_
        refine TH.take 8 rfl (by kernel_rfl) (y_ldi (ev_t rfl) one_3 (ri_arg hlist) hb31) rfl rfl rfl ?_
        refine TH.take 11 rfl (by kernel_rfl) (y_move (ev_t rfl)) rfl rfl rfl ?_
        refine TH.take 12 rfl (by kernel_rfl) (y_move (ev_t rfl)) rfl rfl rfl ?_
        have hs32 : k2 ≤ out1.length := (by first | omega | (simp only [List.length_set, List.length_append, List.length_cons, List.length_nil, List.length_replicate]; omega) | (rw [sortI_length]; simp only [List.length_cons, List.length_nil]; omega))
        have hs33 : out1.length ≤ out1.length := (by first | omega | (simp only [List.length_set, List.length_append, List.length_cons, List.length_nil, List.length_replicate]; omega) | (rw [sortI_length]; simp only [List.length_cons, List.length_nil]; omega))
        refine TH.take 13 rfl (by kernel_rfl) (y_slice_lo (ev_t rfl) (ev_t rfl) (lo := k2) (by omega) slT_25 (ri_row 0 rfl) hs32) rfl rfl rfl ?_
        refine TH.loud2 0 9 rfl rfl (by kernel_rfl) ?_ ?_
        · refine TL.buildI (zs := []) (qs := []) slT_25 rfl trivial rfl (by decide) rfl (fun v8_0 => ?_)
          refine TL.nil ?_
          refine TH.back (fun w hw => Hp.sublist hw (.cons _ (.cons_cons _ .slnil))) ?_
          refine TH.loud2 4 9 rfl rfl (by kernel_rfl) ?_ ?_
          · refine TL.appendI 0 (ev_t rfl) (ev_t rfl) rfl slT_25 (fun w hw => ri_resl ((ri_row 1 rfl) w hw) hs29 hs30) (by first | omega | (simp [-List.getD_eq_getElem?_getD] <;> omega)) rfl (fun v8_4 => ?_)
            refine TL.nil ?_
            refine TH.back (fun w hw => Hp.sublist hw (.cons _ (.cons_cons _ .slnil))) ?_
            refine TH.loud 9 rfl (by kernel_rfl) ?_
            refine TL.buildI (zs := [.tmp 38]) (qs := [(list.getD i1 0)]) slT_25 rfl ⟨(ev_t rfl), trivial⟩ rfl (by decide) rfl (fun v8_9 => ?_)
            refine TL.nil ?_
            refine TH.back (fun w hw => Hp.sublist hw (.cons _ (.cons _ (.cons_cons _ .slnil)))) ?_
            refine TH.loud 10 rfl (by kernel_rfl) ?_
            refine TL.appendI 1 (ev_t rfl) (ev_t rfl) rfl slT_25 (ri_row 0 rfl) (by first | omega | (simp [-List.getD_eq_getElem?_getD] <;> omega)) rfl (fun v8_10 => ?_)
            refine TL.nil ?_
            refine TH.back (fun w hw => Hp.sublist hw (.cons _ (.cons _ (.cons_cons _ .slnil)))) ?_
            refine TH.loud 14 rfl (by kernel_rfl) ?_
            refine TL.appendI 1 (ev_t rfl) (ev_t rfl) rfl slT_25 (fun w hw => ri_resl ((ri_row 2 rfl) w hw) hs32 hs33) (by first | omega | (simp [-List.getD_eq_getElem?_getD] <;> omega)) rfl (fun v8_14 => ?_)
            refine TL.nil ?_
            refine TH.back (fun w hw => Hp.sublist hw (.cons _ (.cons _ (.cons_cons _ .slnil)))) ?_
            refine TH.take 15 rfl (by kernel_rfl) (y_assign (ev_t rfl)) rfl rfl rfl ?_
            refine TH.done (by kernel_rfl) ?_
            exact fun a' w' hs hw => ⟨v8_14, hs.sub ⟨rfl, rfl, rfl, trivial⟩, Hp.sublist hw (.cons _ (.cons_cons _ (.cons _ .slnil)))⟩
          · refine TL.buildI (zs := [.tmp 38]) (qs := [(list.getD i1 0)]) slT_25 rfl ⟨(ev_t rfl), trivial⟩ rfl (by decide) rfl (fun v8_9 => ?_)
            refine TL.nil ?_
            refine TH.back (fun w hw => Hp.sublist hw (.cons _ (.cons _ (.cons_cons _ .slnil)))) ?_
            refine TH.loud 4 rfl (by kernel_rfl) ?_
            refine TL.appendI 1 (ev_t rfl) (ev_t rfl) rfl slT_25 (fun w hw => ri_resl ((ri_row 2 rfl) w hw) hs29 hs30) (by first | omega | (simp [-List.getD_eq_getElem?_getD] <;> omega)) rfl (fun v8_4 => ?_)
            refine TL.nil ?_
            refine TH.back (fun w hw => Hp.sublist hw (.cons _ (.cons _ (.cons_cons _ .slnil)))) ?_
            refine TH.loud 10 rfl (by kernel_rfl) ?_
            refine TL.appendI 1 (ev_t rfl) (ev_t rfl) rfl slT_25 (ri_row 0 rfl) (by first | omega | (simp [-List.getD_eq_getElem?_getD] <;> omega)) rfl (fun v8_10 => ?_)
            refine TL.nil ?_
            refine TH.back (fun w hw => Hp.sublist hw (.cons _ (.cons _ (.cons_cons _ .slnil)))) ?_
            refine TH.loud 14 rfl (by kernel_rfl) ?_
            refine TL.appendI 1 (ev_t rfl) (ev_t rfl) rfl slT_25 (fun w hw => ri_resl ((ri_row 2 rfl) w hw) hs32 hs33) (by first | omega | (simp [-List.getD_eq_getElem?_getD] <;> omega)) rfl (fun v8_14 => ?_)
            refine TL.nil ?_
            refine TH.back (fun w hw => Hp.sublist hw (.cons _ (.cons _ (.cons_cons _ .slnil)))) ?_
            refine TH.take 15 rfl (by kernel_rfl) (y_assign (ev_t rfl)) rfl rfl rfl ?_
            refine TH.done (by kernel_rfl) ?_
            exact fun a' w' hs hw => ⟨v8_14, hs.sub ⟨rfl, rfl, rfl, trivial⟩, Hp.sublist hw (.cons _ (.cons_cons _ (.cons _ .slnil)))⟩
        · refine TL.buildI (zs := [.tmp 38]) (qs := [(list.getD i1 0)]) slT_25 rfl ⟨(ev_t rfl), trivial⟩ rfl (by decide) rfl (fun v8_9 => ?_)
          refine TL.nil ?_
          refine TH.back (fun w hw => Hp.sublist hw (.cons _ (.cons_cons _ .slnil))) ?_
          refine TH.loud 0 rfl (by kernel_rfl) ?_
          refine TL.buildI (zs := []) (qs := []) slT_25 rfl trivial rfl (by decide) rfl (fun v8_0 => ?_)
          refine TL.nil ?_
          refine TH.back (fun w hw => Hp.sublist hw (.cons _ (.cons _ (.cons_cons _ .slnil)))) ?_
          refine TH.loud 4 rfl (by kernel_rfl) ?_
          refine TL.appendI 0 (ev_t rfl) (ev_t rfl) rfl slT_25 (fun w hw => ri_resl ((ri_row 2 rfl) w hw) hs29 hs30) (by first | omega | (simp [-List.getD_eq_getElem?_getD] <;> omega)) rfl (fun v8_4 => ?_)
          refine TL.nil ?_
          refine TH.back (fun w hw => Hp.sublist hw (.cons _ (.cons _ (.cons_cons _ .slnil)))) ?_
          refine TH.loud 10 rfl (by kernel_rfl) ?_
          refine TL.appendI 0 (ev_t rfl) (ev_t rfl) rfl slT_25 (ri_row 1 rfl) (by first | omega | (simp [-List.getD_eq_getElem?_getD] <;> omega)) rfl (fun v8_10 => ?_)
          refine TL.nil ?_
          refine TH.back (fun w hw => Hp.sublist hw (.cons _ (.cons _ (.cons_cons _ .slnil)))) ?_
          refine TH.loud 14 rfl (by kernel_rfl) ?_
          refine TL.appendI 0 (ev_t rfl) (ev_t rfl) rfl slT_25 (fun w hw => ri_resl ((ri_row 2 rfl) w hw) hs32 hs33) (by first | omega | (simp [-List.getD_eq_getElem?_getD] <;> omega)) rfl (fun v8_14 => ?_)
          refine TL.nil ?_
          refine TH.back (fun w hw => Hp.sublist hw (.cons _ (.cons _ (.cons_cons _ .slnil)))) ?_
          refine TH.take 15 rfl (by kernel_rfl) (y_assign (ev_t rfl)) rfl rfl rfl ?_
          refine TH.done (by kernel_rfl) ?_
          exact fun a' w' hs hw => ⟨v8_14, hs.sub ⟨rfl, rfl, rfl, trivial⟩, Hp.sublist hw (.cons_cons _ (.cons _ (.cons _ .slnil)))⟩
      · rintro a' w' ⟨v8_14, hs', hw'⟩
        refine (?_ : TN _ .normal 46 (Hp w [rowI 3 v8_14 (((([] : List Int) ++ ((out1.take k2).drop 0)) ++ ([(list.getD i1 0)])) ++ ((out1.take out1.length).drop k2))]) [(0, vlist), (3, v8_14), (4, (.int .i64 (i1 : Int)))]) a' w' hs' hw'
        clear hs' hw'
        refine TN.blockN ?_
        refine TN.seq ?_
        refine TC.region ?_
        refine TL.op (yq (y_move (ev_t rfl))) rfl rfl rfl ?_
        refine TL.op (yq (y_add (ev_t rfl) ev_c (by unfold In64; omega))) rfl rfl rfl ?_
        refine TL.op (yq (y_assign (ev_t rfl))) rfl rfl rfl ?_
        refine TL.nil ?_
        exact TN.hand (mf1, (((([] : List Int) ++ ((out1.take k2).drop 0)) ++ ([(list.getD i1 0)])) ++ ((out1.take out1.length).drop k2)), (i1 + 1), v8_14) ⟨(by first | omega | (simp [-List.getD_eq_getElem?_getD] <;> omega)), (by first | omega | (simp [-List.getD_eq_getElem?_getD] <;> omega)), (by omega), hL1⟩ (Nat.lt_succ_self _) ⟨rfl, rfl, rfl, trivial⟩ (fun w hw => hw)
  · rw [bif_neg h23] at hL1
    have q24 := (of_decide_eq_false h23)
    refine TC.exit ?_
    refine TN.thenE ?_
    refine TN.thenE ?_
    rw [← hL1, elim_next] at hF
    try dsimp only at hF
    refine TN.blockH ?_
    refine TN.seq ?_
    refine TC.seq ?_
    refine TC.region ?_
    refine TL.op (yq (y_move (ev_t rfl))) rfl rfl rfl ?_
    refine TL.op (yq (y_assign (ev_t rfl))) rfl rfl rfl ?_
    refine TL.nil ?_
    refine TN.seq ?_
    refine TC.ret ?_
    subst hF
    exact TN.ret1 rfl (ev_t rfl) (fun w' hw => ⟨vout1, rfl, hw⟩)

set_option maxRecDepth 4000 in
set_option maxHeartbeats 1000000 in
theorem slices_Repeat_Sint_int_ok (w : World) (vx : Value) (x : List Int) (hx : RI w vx x) (count : Int) (hp0 : x.length = 1) (hp1 : 0 ≤ count) (hp2 : count ≤ 1000000) :
    Calls Try.prog 82 ([vx, (.int .i64 count)] : List Value).toArray w (fun e w' => ∃ i : Value, e = .returned i ∧ Hp w [rowI 3 i (F_slices_Repeat_Sint_int x count)] w') := by
  obtain ⟨rz, hF⟩ : ∃ rz, (F_slices_Repeat_Sint_int x count) = rz := ⟨_, rfl⟩
  rw [hF]
  unfold F_slices_Repeat_Sint_int at hF
  have hmu := mulU_one hp0 hp1 hp2
  have hmu1 := hmu.1
  have hmu2 := hmu.2
  have hlen_x := arg_len hx
  refine calls_tc Try.func82 rfl rfl rfl ?_
  change TC _ _ _ _ (Hp w []) [(0, vx), (1, (.int .i64 count))]
  refine TC.seq ?_
  refine TC.region ?_
  refine TL.op (yq (y_assign ev_c)) rfl rfl rfl ?_
  refine TL.nil ?_
  refine TN.seq ?_
  obtain ⟨c57, hcj1⟩ : ∃ c, ((bif decide (count < 0) then default else (Ctl.next ())) : Ctl (Unit) (List Int)) = c := ⟨_, rfl⟩
  rw [hcj1] at hF
  refine TC.cut (fun a' w' => Slots 48 [(0, vx), (1, (.int .i64 count))] a' ∧ Hp w [] w' ∧ (Ctl.next () : Ctl (Unit) (List Int)) = c57) ?_ ?_
  · refine TC.seq ?_
    refine TC.region ?_
    refine TL.op (yq (y_move (ev_t rfl))) rfl rfl rfl ?_
    refine TL.op (yq (y_lss (ev_t rfl) ev_c)) rfl rfl rfl ?_
    refine TL.nil ?_
    refine TN.seq ?_
    refine TC.cond (b := decide (count < 0)) (ev_t rfl) (fun h58 => ?_) (fun h58 => ?_)
    · rw [bif_pos h58] at hcj1
      have q59 := (of_decide_eq_true h58)
      exfalso; omega
    · rw [bif_neg h58] at hcj1
      have q59 := (of_decide_eq_false h58)
      refine TC.skip ?_
      exact fun a' w' hs hw => ⟨hs.sub ⟨rfl, rfl, trivial⟩, hw, hcj1⟩
  · rintro a' w' ⟨hs', hw', hdj1⟩
    rw [← hdj1, elim_next] at hF
    try dsimp only at hF
    refine (?_ : TC _ _ _ 48 (Hp w []) [(0, vx), (1, (.int .i64 count))]) a' w' hs' hw'
    clear hs' hw' hcj1
    refine TC.seq ?_
    refine TC.region ?_
    refine TL.op (yq (y_move (ev_t rfl))) rfl rfl rfl ?_
    refine TL.op (yq (y_len (ev_t rfl) Try.underlying25 (fun w hw => ((ri_arg hx) w hw).ln))) rfl rfl rfl ?_
    refine TL.op (yq (y_conv_u64 (ev_t rfl) Try.underlying3 Try.underlying106 (by first | omega | (simp only [List.length_set, List.length_append, List.length_cons, List.length_nil, List.length_replicate]; omega) | (rw [sortI_length]; simp only [List.length_cons, List.length_nil]; omega)))) rfl rfl rfl ?_
    refine TL.op (yq (y_move (ev_t rfl))) rfl rfl rfl ?_
    refine TL.op (yq (y_conv_u64 (ev_t rfl) Try.underlying3 Try.underlying106 (by first | omega | (simp only [List.length_set, List.length_append, List.length_cons, List.length_nil, List.length_replicate]; omega) | (rw [sortI_length]; simp only [List.length_cons, List.length_nil]; omega)))) rfl rfl rfl ?_
    refine TL.op (y_call (vs := [(.int .u64 (x.length : Int)), (.int .u64 count)]) (v := (.tuple #[(.int .u64 ((mulU (x.length : Int) count).1)), (.int .u64 ((mulU (x.length : Int) count).2))])) en_117 ⟨(ev_t rfl), (ev_t rfl), trivial⟩ (fun w hw => bits_Mul_ok w (x.length : Int) count (by omega) (by omega) (by omega) (by omega))) rfl rfl rfl ?_
    refine TL.op (yq (y_move (ev_t rfl))) rfl rfl rfl ?_
    refine TL.op (yq (y_extract (ev_t rfl) rfl)) rfl rfl rfl ?_
    refine TL.op (yq (y_extract (ev_t rfl) rfl)) rfl rfl rfl ?_
    refine TL.op (yq (y_assign (ev_t rfl))) rfl rfl rfl ?_
    refine TL.op (yq (y_assign (ev_t rfl))) rfl rfl rfl ?_
    refine TL.nil ?_
    refine TN.seq ?_
    obtain ⟨c62, hcj4⟩ : ∃ c, ((bif ((decide (0 < (mulU (x.length : Int) count).1)) || (decide (9223372036854775807 < (mulU (x.length : Int) count).2))) then default else (Ctl.next ())) : Ctl (Unit) (List Int)) = c := ⟨_, rfl⟩
    rw [hcj4] at hF
    refine TC.cut (fun a' w' => Slots 48 [(0, vx), (6, (.int .u64 ((mulU (x.length : Int) count).2)))] a' ∧ Hp w [] w' ∧ (Ctl.next () : Ctl (Unit) (List Int)) = c62) ?_ ?_
    · refine TC.seq ?_
      refine TC.region ?_
      refine TL.op (yq (y_move (ev_t rfl))) rfl rfl rfl ?_
      refine TL.op (yq (y_gtr (ev_t rfl) ev_c)) rfl rfl rfl ?_
      refine TL.op (yq (y_move (ev_t rfl))) rfl rfl rfl ?_
      refine TL.opw (w_f rfl rfl rfl) (fun hg => yq (y_move (ev_t rfl))) rfl rfl ?_
      refine TL.opw (w_f rfl rfl rfl) (fun hg => yq (y_gtr (ev_g rfl hg) ev_c)) rfl rfl ?_
      refine TL.op (yq (y_or (ev_t rfl) (fun hq => (ev_g rfl hq)))) rfl rfl rfl ?_
      refine TL.nil ?_
      refine TN.seq ?_
      refine TC.cond (b := ((decide (0 < (mulU (x.length : Int) count).1)) || (decide (9223372036854775807 < (mulU (x.length : Int) count).2)))) (ev_t rfl) (fun h63 => ?_) (fun h63 => ?_)
      · rw [bif_pos h63] at hcj4
        have q64 := ((or_t h63).imp (fun h => (of_decide_eq_true h)) (fun h => (of_decide_eq_true h)))
        exfalso; omega
      · rw [bif_neg h63] at hcj4
        have q64 := (and_imp (or_f h63) (fun h => (of_decide_eq_false h)) (fun h => (of_decide_eq_false h)))
        refine TC.skip ?_
        exact fun a' w' hs hw => ⟨hs.sub ⟨rfl, rfl, trivial⟩, hw, hcj4⟩
    · rintro a' w' ⟨hs', hw', hdj4⟩
      rw [← hdj4, elim_next] at hF
      try dsimp only at hF
      refine (?_ : TC _ _ _ 48 (Hp w []) [(0, vx), (6, (.int .u64 ((mulU (x.length : Int) count).2)))]) a' w' hs' hw'
      clear hs' hw' hcj4
      refine TC.seq ?_
      refine TC.region ?_
      refine TL.op (yq (y_move (ev_t rfl))) rfl rfl rfl ?_
      refine TL.op (yq (y_conv_i64 (ev_t rfl) Try.underlying106 Try.underlying3 (by first | omega | (simp only [List.length_set, List.length_append, List.length_cons, List.length_nil, List.length_replicate]; omega) | (rw [sortI_length]; simp only [List.length_cons, List.length_nil]; omega)))) rfl rfl rfl ?_
      refine TL.makeSlice (n := ((mulU (x.length : Int) count).2).toNat) (ev_t rfl) (ev_t rfl) (by omega) slT_25 rfl (by omega) (by unfold maxLen; omega) rfl (fun v6_2 => ?_)
      refine TL.cls (fun w hw => hw.zeros) ?_
      refine TL.op (yq (y_assign (ev_t rfl))) rfl rfl rfl ?_
      refine TL.nil ?_
      refine TN.seq ?_
      refine TC.seq ?_
      refine TC.region ?_
      refine TL.op (yq (y_move (ev_t rfl))) rfl rfl rfl ?_
      refine TL.op (yq (y_move (ev_t rfl))) rfl rfl rfl ?_
      refine TL.copyW 0 (qs := x) (ev_t rfl) (ev_t rfl) rfl slT_25 (ri_arg hx) rfl ?_
      refine TL.op (yq (y_assign (ev_t rfl))) rfl rfl rfl ?_
      refine TL.nil ?_
      refine TN.seq ?_
      refine TC.seq ?_
      refine TC.block ?_
      have hd0 : (x.take (List.replicate (((mulU (x.length : Int) count).2).toNat) (0 : Int)).length ++ (List.replicate (((mulU (x.length : Int) count).2).toNat) (0 : Int)).drop (min x.length (List.replicate (((mulU (x.length : Int) count).2).toNat) (0 : Int)).length)).length = count.toNat := by simp; omega
      have hd3 : (List.replicate (((mulU (x.length : Int) count).2).toNat) (0 : Int)).length = count.toNat := by simp; omega
      obtain ⟨c65, hc66⟩ : ∃ c, F_slices_Repeat_Sint_int_L1  (((x.take (List.replicate (((mulU (x.length : Int) count).2).toNat) (0 : Int)).length ++ (List.replicate (((mulU (x.length : Int) count).2).toNat) (0 : Int)).drop (min x.length (List.replicate (((mulU (x.length : Int) count).2).toNat) (0 : Int)).length)).length - (min x.length (List.replicate (((mulU (x.length : Int) count).2).toNat) (0 : Int)).length)) + 1) ((min x.length (List.replicate (((mulU (x.length : Int) count).2).toNat) (0 : Int)).length), (x.take (List.replicate (((mulU (x.length : Int) count).2).toNat) (0 : Int)).length ++ (List.replicate (((mulU (x.length : Int) count).2).toNat) (0 : Int)).drop (min x.length (List.replicate (((mulU (x.length : Int) count).2).toNat) (0 : Int)).length))) = c := ⟨_, rfl⟩
      rw [hc66] at hF
      refine TC.loop (ι := Nat × Nat × List Int) (fun (fu1, n1, newslice1) => [(7, v6_2), (8, (.int .i64 (n1 : Int)))]) (fun (fu1, n1, newslice1) => Hp w [rowI 3 v6_2 newslice1]) (fun (fu1, n1, newslice1) => (n1 ≤ newslice1.length) ∧ (0 < n1 ∨ newslice1.length = 0) ∧ (newslice1.length ≤ 1000000) ∧ newslice1.length - n1 < fu1 ∧ F_slices_Repeat_Sint_int_L1  fu1 (n1, newslice1) = c65) (fun (fu1, n1, newslice1) => fu1) (((x.take (List.replicate (((mulU (x.length : Int) count).2).toNat) (0 : Int)).length ++ (List.replicate (((mulU (x.length : Int) count).2).toNat) (0 : Int)).drop (min x.length (List.replicate (((mulU (x.length : Int) count).2).toNat) (0 : Int)).length)).length - (min x.length (List.replicate (((mulU (x.length : Int) count).2).toNat) (0 : Int)).length)) + 1, (min x.length (List.replicate (((mulU (x.length : Int) count).2).toNat) (0 : Int)).length), (x.take (List.replicate (((mulU (x.length : Int) count).2).toNat) (0 : Int)).length ++ (List.replicate (((mulU (x.length : Int) count).2).toNat) (0 : Int)).drop (min x.length (List.replicate (((mulU (x.length : Int) count).2).toNat) (0 : Int)).length))) ⟨(by first | omega | (simp [-List.getD_eq_getElem?_getD] <;> omega)), (by first | omega | (simp [-List.getD_eq_getElem?_getD] <;> omega)), (by first | omega | (simp [-List.getD_eq_getElem?_getD] <;> omega)), (by omega), hc66⟩ ⟨rfl, rfl, trivial⟩ (fun w hw => hw) ?_
      rintro ⟨fu1, n1, newslice1⟩ hJ1
      obtain ⟨hi1_0, hi1_1, hi1_2, hmu1, hL1⟩ : (n1 ≤ newslice1.length) ∧ (0 < n1 ∨ newslice1.length = 0) ∧ (newslice1.length ≤ 1000000) ∧ newslice1.length - n1 < fu1 ∧ F_slices_Repeat_Sint_int_L1  fu1 (n1, newslice1) = c65 := hJ1
      change TC _ _ _ _ (Hp w [rowI 3 v6_2 newslice1]) [(7, v6_2), (8, (.int .i64 (n1 : Int)))]
      obtain ⟨mf1, rfl⟩ : ∃ m, fu1 = m + 1 := ⟨fu1 - 1, by omega⟩
      rw [F_slices_Repeat_Sint_int_L1_s] at hL1
      have hd1 : ((newslice1.take n1).drop 0).length = n1 := by simp; omega
      have hd2 : (newslice1.take n1 ++ ((newslice1.take n1).drop 0).take (newslice1.length - n1) ++ newslice1.drop (n1 + (min ((newslice1.take n1).drop 0).length (newslice1.length - n1)))).length = newslice1.length := by simp; omega
      refine TC.seq ?_
      refine TC.seq ?_
      refine TC.region ?_
      refine TL.op (yq (y_move (ev_t rfl))) rfl rfl rfl ?_
      refine TL.op (yq (y_move (ev_t rfl))) rfl rfl rfl ?_
      refine TL.op (yq (y_len (ev_t rfl) Try.underlying25 (fun w hw => ((ri_row 0 rfl) w hw).ln))) rfl rfl rfl ?_
      refine TL.op (yq (y_lss (ev_t rfl) (ev_t rfl))) rfl rfl rfl ?_
      refine TL.nil ?_
      refine TN.seq ?_
      refine TC.cond (b := decide ((n1 : Int) < (newslice1.length : Int))) (ev_t rfl) (fun h67 => ?_) (fun h67 => ?_)
      · rw [bif_pos h67] at hL1
        have q68 := (of_decide_eq_true h67)
        refine TC.skip ?_
        refine TN.seq ?_
        refine TC.block ?_
        refine TC.mid (fun a' w' => Slots 48 [(7, v6_2), (8, (.int .i64 ((n1 : Int) + ((min ((newslice1.take n1).drop 0).length (newslice1.length - n1)) : Nat))))] a' ∧ Hp w [rowI 3 v6_2 (newslice1.take n1 ++ ((newslice1.take n1).drop 0).take (newslice1.length - n1) ++ newslice1.drop (n1 + (min ((newslice1.take n1).drop 0).length (newslice1.length - n1))))] w') ?_ ?_
        · refine TC.regionH 10 (Hp w []) rfl (by kernel_rfl) dr_hp (fun w hw => Hp.sublist hw (List.nil_sublist _)) ?_
          refine TH.take 0 rfl (by kernel_rfl) (y_move (ev_t rfl)) rfl rfl rfl ?_
          refine TH.take 1 rfl (by kernel_rfl) (y_move (ev_t rfl)) rfl rfl rfl ?_
          refine TH.take 2 rfl (by kernel_rfl) (y_move (ev_t rfl)) rfl rfl rfl ?_
          refine TH.take 4 rfl (by kernel_rfl) (y_move (ev_t rfl)) rfl rfl rfl ?_
          refine TH.take 5 rfl (by kernel_rfl) (y_move (ev_t rfl)) rfl rfl rfl ?_
          refine TH.loud2 3 6 rfl rfl (by kernel_rfl) ?_ ?_
          · have hs73 : n1 ≤ newslice1.length := (by first | omega | (simp only [List.length_set, List.length_append, List.length_cons, List.length_nil, List.length_replicate]; omega) | (rw [sortI_length]; simp only [List.length_cons, List.length_nil]; omega))
            have hs74 : newslice1.length ≤ newslice1.length := (by first | omega | (simp only [List.length_set, List.length_append, List.length_cons, List.length_nil, List.length_replicate]; omega) | (rw [sortI_length]; simp only [List.length_cons, List.length_nil]; omega))
            refine TL.op (yq (y_slice_lo (ev_t rfl) (ev_t rfl) (lo := n1) (by omega) slT_25 (ri_row 0 rfl) hs73)) rfl rfl rfl ?_
            refine TL.nil ?_
            refine TH.back (fun w hw => Hp.sublist hw (List.nil_sublist _)) ?_
            refine TH.loud 6 rfl (by kernel_rfl) ?_
            have hs75 : 0 ≤ n1 := (by first | omega | (simp only [List.length_set, List.length_append, List.length_cons, List.length_nil, List.length_replicate]; omega) | (rw [sortI_length]; simp only [List.length_cons, List.length_nil]; omega))
            have hs76 : n1 ≤ newslice1.length := (by first | omega | (simp only [List.length_set, List.length_append, List.length_cons, List.length_nil, List.length_replicate]; omega) | (rw [sortI_length]; simp only [List.length_cons, List.length_nil]; omega))
            refine TL.op (yq (y_slice_hi (ev_t rfl) (ev_t rfl) (hi := n1) (by omega) slT_25 (ri_row 0 rfl) hs76)) rfl rfl rfl ?_
            refine TL.nil ?_
            refine TH.back (fun w hw => Hp.sublist hw (List.nil_sublist _)) ?_
            refine TH.loud 7 rfl (by kernel_rfl) ?_
            refine TL.copyI 0 (lo := n1) (hi := newslice1.length) (qs := ((newslice1.take n1).drop 0)) (ev_t rfl) (ev_t rfl) rfl slT_25 (fun w hw => ri_resl ((ri_row 0 rfl) w hw) hs75 hs76) hs73 hs74 rfl ?_
            refine TL.nil ?_
            refine TH.back (fun w hw => Hp.sublist hw (List.nil_sublist _)) ?_
            refine TH.take 8 rfl (by kernel_rfl) (y_add (ev_t rfl) (ev_t rfl) (by unfold In64; omega)) rfl rfl rfl ?_
            refine TH.take 9 rfl (by kernel_rfl) (y_assign (ev_t rfl)) rfl rfl rfl ?_
            refine TH.done (by kernel_rfl) ?_
            exact fun a' w' hs hw => ⟨hs.sub ⟨rfl, rfl, trivial⟩, hw⟩
          · have hs77 : 0 ≤ n1 := (by first | omega | (simp only [List.length_set, List.length_append, List.length_cons, List.length_nil, List.length_replicate]; omega) | (rw [sortI_length]; simp only [List.length_cons, List.length_nil]; omega))
            have hs78 : n1 ≤ newslice1.length := (by first | omega | (simp only [List.length_set, List.length_append, List.length_cons, List.length_nil, List.length_replicate]; omega) | (rw [sortI_length]; simp only [List.length_cons, List.length_nil]; omega))
            refine TL.op (yq (y_slice_hi (ev_t rfl) (ev_t rfl) (hi := n1) (by omega) slT_25 (ri_row 0 rfl) hs78)) rfl rfl rfl ?_
            refine TL.nil ?_
            refine TH.back (fun w hw => Hp.sublist hw (List.nil_sublist _)) ?_
            refine TH.loud 3 rfl (by kernel_rfl) ?_
            have hs79 : n1 ≤ newslice1.length := (by first | omega | (simp only [List.length_set, List.length_append, List.length_cons, List.length_nil, List.length_replicate]; omega) | (rw [sortI_length]; simp only [List.length_cons, List.length_nil]; omega))
            have hs80 : newslice1.length ≤ newslice1.length := (by first | omega | (simp only [List.length_set, List.length_append, List.length_cons, List.length_nil, List.length_replicate]; omega) | (rw [sortI_length]; simp only [List.length_cons, List.length_nil]; omega))
            refine TL.op (yq (y_slice_lo (ev_t rfl) (ev_t rfl) (lo := n1) (by omega) slT_25 (ri_row 0 rfl) hs79)) rfl rfl rfl ?_
            refine TL.nil ?_
            refine TH.back (fun w hw => Hp.sublist hw (List.nil_sublist _)) ?_
            refine TH.loud 7 rfl (by kernel_rfl) ?_
            refine TL.copyI 0 (lo := n1) (hi := newslice1.length) (qs := ((newslice1.take n1).drop 0)) (ev_t rfl) (ev_t rfl) rfl slT_25 (fun w hw => ri_resl ((ri_row 0 rfl) w hw) hs77 hs78) hs79 hs80 rfl ?_
            refine TL.nil ?_
            refine TH.back (fun w hw => Hp.sublist hw (List.nil_sublist _)) ?_
            refine TH.take 8 rfl (by kernel_rfl) (y_add (ev_t rfl) (ev_t rfl) (by unfold In64; omega)) rfl rfl rfl ?_
            refine TH.take 9 rfl (by kernel_rfl) (y_assign (ev_t rfl)) rfl rfl rfl ?_
            refine TH.done (by kernel_rfl) ?_
            exact fun a' w' hs hw => ⟨hs.sub ⟨rfl, rfl, trivial⟩, hw⟩
        · rintro a' w' ⟨hs', hw'⟩
          refine (?_ : TN _ .normal 48 (Hp w [rowI 3 v6_2 (newslice1.take n1 ++ ((newslice1.take n1).drop 0).take (newslice1.length - n1) ++ newslice1.drop (n1 + (min ((newslice1.take n1).drop 0).length (newslice1.length - n1))))]) [(7, v6_2), (8, (.int .i64 ((n1 : Int) + ((min ((newslice1.take n1).drop 0).length (newslice1.length - n1)) : Nat))))]) a' w' hs' hw'
          clear hs' hw'
          refine TN.blockN ?_
          exact TN.hand (mf1, (n1 + (min ((newslice1.take n1).drop 0).length (newslice1.length - n1))), (newslice1.take n1 ++ ((newslice1.take n1).drop 0).take (newslice1.length - n1) ++ newslice1.drop (n1 + (min ((newslice1.take n1).drop 0).length (newslice1.length - n1))))) ⟨(by first | omega | (simp [-List.getD_eq_getElem?_getD] <;> omega)), (by first | omega | (simp [-List.getD_eq_getElem?_getD] <;> omega)), (by first | omega | (simp [-List.getD_eq_getElem?_getD] <;> omega)), (by omega), hL1⟩ (Nat.lt_succ_self _) ⟨rfl, rfl, trivial⟩ (fun w hw => hw)
      · rw [bif_neg h67] at hL1
        have q68 := (of_decide_eq_false h67)
        refine TC.exit ?_
        refine TN.thenE ?_
        refine TN.thenE ?_
        rw [← hL1, elim_next] at hF
        try dsimp only at hF
        refine TN.blockH ?_
        refine TN.seq ?_
        refine TC.seq ?_
        refine TC.region ?_
        refine TL.op (yq (y_move (ev_t rfl))) rfl rfl rfl ?_
        refine TL.op (yq (y_assign (ev_t rfl))) rfl rfl rfl ?_
        refine TL.nil ?_
        refine TN.seq ?_
        refine TC.ret ?_
        subst hF
        exact TN.ret1 rfl (ev_t rfl) (fun w' hw => ⟨v6_2, rfl, hw⟩)

set_option maxRecDepth 4000 in
set_option maxHeartbeats 1000000 in
theorem cmp_Compare_int_ok (w : World) (x : Int) (y : Int)  :
    Calls Try.prog 127 ([(.int .i64 x), (.int .i64 y)] : List Value).toArray w (Ret (.int .i64 (F_cmp_Compare_int x y)) (Hp w [])) := by
  obtain ⟨rz, hF⟩ : ∃ rz, (F_cmp_Compare_int x y) = rz := ⟨_, rfl⟩
  rw [hF]
  unfold F_cmp_Compare_int at hF
  refine calls_tc Try.func127 rfl rfl rfl ?_
  change TC _ _ _ _ (Hp w []) [(0, (.int .i64 x)), (1, (.int .i64 y))]
  refine TC.seq ?_
  refine TC.region ?_
  refine TL.op (yq (y_assign ev_c)) rfl rfl rfl ?_
  refine TL.nil ?_
  refine TN.seq ?_
  refine TC.seq ?_
  refine TC.region ?_
  refine TL.op (yq (y_move (ev_t rfl))) rfl rfl rfl ?_
  refine TL.op (y_call (vs := [(.int .i64 x)]) (v := (.bool (!decide (x = x)))) en_140 ⟨(ev_t rfl), trivial⟩ (fun w hw => cmp_isNaN_int_ok w x)) rfl rfl rfl ?_
  refine TL.op (yq (y_assign (ev_t rfl))) rfl rfl rfl ?_
  refine TL.nil ?_
  refine TN.seq ?_
  refine TC.seq ?_
  refine TC.region ?_
  refine TL.op (yq (y_move (ev_t rfl))) rfl rfl rfl ?_
  refine TL.op (y_call (vs := [(.int .i64 y)]) (v := (.bool (!decide (y = y)))) en_140 ⟨(ev_t rfl), trivial⟩ (fun w hw => cmp_isNaN_int_ok w y)) rfl rfl rfl ?_
  refine TL.op (yq (y_assign (ev_t rfl))) rfl rfl rfl ?_
  refine TL.nil ?_
  refine TN.seq ?_
  refine TC.seq ?_
  refine TC.seq ?_
  refine TC.region ?_
  refine TL.op (yq (y_move (ev_t rfl))) rfl rfl rfl ?_
  refine TL.nil ?_
  refine TN.seq ?_
  refine TC.cond (b := !decide (x = x)) (ev_t rfl) (fun h11 => ?_) (fun h11 => ?_)
  · rw [bif_pos h11] at hF
    have q12 := (of_decide_eq_false (not_t h11))
    refine TC.seq ?_
    refine TC.seq ?_
    refine TC.region ?_
    refine TL.op (yq (y_move (ev_t rfl))) rfl rfl rfl ?_
    refine TL.nil ?_
    refine TN.seq ?_
    refine TC.cond (b := !decide (y = y)) (ev_t rfl) (fun h13 => ?_) (fun h13 => ?_)
    · rw [bif_pos h13] at hF
      have q14 := (of_decide_eq_false (not_t h13))
      refine TC.seq ?_
      refine TC.region ?_
      refine TL.op (yq (y_assign ev_c)) rfl rfl rfl ?_
      refine TL.nil ?_
      refine TN.seq ?_
      refine TC.ret ?_
      refine TN.thenR ?_
      refine TN.thenR ?_
      subst hF
      exact TN.ret1 rfl (ev_t rfl) (fun w' hw => ⟨rfl, hw⟩)
    · rw [bif_neg h13] at hF
      have q14 := (of_decide_eq_true (not_f h13))
      refine TC.skip ?_
      refine TN.seq ?_
      refine TC.seq ?_
      refine TC.region ?_
      refine TL.op (yq (y_assign ev_c)) rfl rfl rfl ?_
      refine TL.nil ?_
      refine TN.seq ?_
      refine TC.ret ?_
      refine TN.thenR ?_
      subst hF
      exact TN.ret1 rfl (ev_t rfl) (fun w' hw => ⟨rfl, hw⟩)
  · rw [bif_neg h11] at hF
    have q12 := (of_decide_eq_true (not_f h11))
    refine TC.skip ?_
    refine TN.seq ?_
    refine TC.seq ?_
    refine TC.seq ?_
    refine TC.region ?_
    refine TL.op (yq (y_move (ev_t rfl))) rfl rfl rfl ?_
    refine TL.nil ?_
    refine TN.seq ?_
    refine TC.cond (b := !decide (y = y)) (ev_t rfl) (fun h15 => ?_) (fun h15 => ?_)
    · rw [bif_pos h15] at hF
      have q16 := (of_decide_eq_false (not_t h15))
      refine TC.seq ?_
      refine TC.region ?_
      refine TL.op (yq (y_assign ev_c)) rfl rfl rfl ?_
      refine TL.nil ?_
      refine TN.seq ?_
      refine TC.ret ?_
      refine TN.thenR ?_
      subst hF
      exact TN.ret1 rfl (ev_t rfl) (fun w' hw => ⟨rfl, hw⟩)
    · rw [bif_neg h15] at hF
      have q16 := (of_decide_eq_true (not_f h15))
      refine TC.skip ?_
      refine TN.seq ?_
      refine TC.seq ?_
      refine TC.seq ?_
      refine TC.region ?_
      refine TL.op (yq (y_move (ev_t rfl))) rfl rfl rfl ?_
      refine TL.op (yq (y_move (ev_t rfl))) rfl rfl rfl ?_
      refine TL.op (yq (y_lss (ev_t rfl) (ev_t rfl))) rfl rfl rfl ?_
      refine TL.nil ?_
      refine TN.seq ?_
      refine TC.cond (b := decide (x < y)) (ev_t rfl) (fun h17 => ?_) (fun h17 => ?_)
      · rw [bif_pos h17] at hF
        have q18 := (of_decide_eq_true h17)
        refine TC.seq ?_
        refine TC.region ?_
        refine TL.op (yq (y_assign ev_c)) rfl rfl rfl ?_
        refine TL.nil ?_
        refine TN.seq ?_
        refine TC.ret ?_
        refine TN.thenR ?_
        subst hF
        exact TN.ret1 rfl (ev_t rfl) (fun w' hw => ⟨rfl, hw⟩)
      · rw [bif_neg h17] at hF
        have q18 := (of_decide_eq_false h17)
        refine TC.skip ?_
        refine TN.seq ?_
        refine TC.seq ?_
        refine TC.seq ?_
        refine TC.region ?_
        refine TL.op (yq (y_move (ev_t rfl))) rfl rfl rfl ?_
        refine TL.op (yq (y_move (ev_t rfl))) rfl rfl rfl ?_
        refine TL.op (yq (y_gtr (ev_t rfl) (ev_t rfl))) rfl rfl rfl ?_
        refine TL.nil ?_
        refine TN.seq ?_
        refine TC.cond (b := decide (y < x)) (ev_t rfl) (fun h19 => ?_) (fun h19 => ?_)
        · rw [bif_pos h19] at hF
          have q20 := (of_decide_eq_true h19)
          refine TC.seq ?_
          refine TC.region ?_
          refine TL.op (yq (y_assign ev_c)) rfl rfl rfl ?_
          refine TL.nil ?_
          refine TN.seq ?_
          refine TC.ret ?_
          refine TN.thenR ?_
          subst hF
          exact TN.ret1 rfl (ev_t rfl) (fun w' hw => ⟨rfl, hw⟩)
        · rw [bif_neg h19] at hF
          have q20 := (of_decide_eq_false h19)
          refine TC.skip ?_
          refine TN.seq ?_
          refine TC.seq ?_
          refine TC.region ?_
          refine TL.op (yq (y_assign ev_c)) rfl rfl rfl ?_
          refine TL.nil ?_
          refine TN.seq ?_
          refine TC.ret ?_
          subst hF
          exact TN.ret1 rfl (ev_t rfl) (fun w' hw => ⟨rfl, hw⟩)

set_option maxRecDepth 4000 in
set_option maxHeartbeats 1000000 in
theorem slices_Compare_Sint_int_ok (w : World) (vs1 : Value) (s1 : List Int) (hs1 : RI w vs1 s1) (vs2 : Value) (s2 : List Int) (hs2 : RI w vs2 s2)  :
    Calls Try.prog 109 ([vs1, vs2] : List Value).toArray w (Ret (.int .i64 (F_slices_Compare_Sint_int s1 s2)) (Hp w [])) := by
  obtain ⟨rz, hF⟩ : ∃ rz, (F_slices_Compare_Sint_int s1 s2) = rz := ⟨_, rfl⟩
  rw [hF]
  unfold F_slices_Compare_Sint_int at hF
  have hlen_s1 := arg_len hs1
  have hlen_s2 := arg_len hs2
  refine calls_tc Try.func109 rfl rfl rfl ?_
  change TC _ _ _ _ (Hp w []) [(0, vs1), (1, vs2)]
  refine TC.seq ?_
  refine TC.region ?_
  refine TL.op (yq (y_assign ev_c)) rfl rfl rfl ?_
  refine TL.nil ?_
  refine TN.seq ?_
  refine TC.seq ?_
  refine TC.seq ?_
  refine TC.region ?_
  refine TL.op (yq (y_move (ev_t rfl))) rfl rfl rfl ?_
  refine TL.op (yq (y_len (ev_t rfl) Try.underlying25 (fun w hw => ((ri_arg hs1) w hw).ln))) rfl rfl rfl ?_
  refine TL.op (yq (y_move ev_c)) rfl rfl rfl ?_
  refine TL.nil ?_
  refine TN.seq ?_
  refine TC.block ?_
  obtain ⟨c19, hc20⟩ : ∃ c, F_slices_Compare_Sint_int_L1 s1 s2 ((s1.length - 0) + 1) 0 = c := ⟨_, rfl⟩
  rw [hc20] at hF
  refine TC.loop (ι := Nat × Nat) (fun (fu1, k11_1) => [(0, vs1), (1, vs2), (9, vs1), (10, (.int .i64 (s1.length : Int))), (11, (.int .i64 (k11_1 : Int)))]) (fun (fu1, k11_1) => Hp w []) (fun (fu1, k11_1) => (k11_1 ≤ s1.length) ∧ s1.length - k11_1 < fu1 ∧ F_slices_Compare_Sint_int_L1 s1 s2 fu1 k11_1 = c19) (fun (fu1, k11_1) => fu1) ((s1.length - 0) + 1, 0) ⟨(by first | omega | (simp [-List.getD_eq_getElem?_getD] <;> omega)), (by omega), hc20⟩ ⟨rfl, rfl, rfl, rfl, rfl, trivial⟩ (fun w hw => hw) ?_
  rintro ⟨fu1, k11_1⟩ hJ1
  obtain ⟨hi1_0, hmu1, hL1⟩ : (k11_1 ≤ s1.length) ∧ s1.length - k11_1 < fu1 ∧ F_slices_Compare_Sint_int_L1 s1 s2 fu1 k11_1 = c19 := hJ1
  change TC _ _ _ _ (Hp w []) [(0, vs1), (1, vs2), (9, vs1), (10, (.int .i64 (s1.length : Int))), (11, (.int .i64 (k11_1 : Int)))]
  obtain ⟨mf1, rfl⟩ : ∃ m, fu1 = m + 1 := ⟨fu1 - 1, by omega⟩
  rw [F_slices_Compare_Sint_int_L1_s] at hL1
  refine TC.seq ?_
  refine TC.region ?_
  refine TL.op (yq (y_lss (ev_t rfl) (ev_t rfl))) rfl rfl rfl ?_
  refine TL.nil ?_
  refine TN.seq ?_
  refine TC.seq ?_
  refine TC.cond (b := decide ((k11_1 : Int) < (s1.length : Int))) (ev_t rfl) (fun h21 => ?_) (fun h21 => ?_)
  · rw [bif_pos h21] at hL1
    have q22 := (of_decide_eq_true h21)
    refine TC.skip ?_
    refine TN.seq ?_
    refine TC.seq ?_
    refine TC.block ?_
    refine TC.seq ?_
    refine TC.region ?_
    refine TL.op (yq (y_move (ev_t rfl))) rfl rfl rfl ?_
    have hb23 : k11_1 < s1.length := (by first | omega | (simp only [List.length_set, List.length_append, List.length_cons, List.length_nil, List.length_replicate]; omega) | (rw [sortI_length]; simp only [List.length_cons, List.length_nil]; omega))
    refine TL.op (yq (y_idx (k := k11_1) (ev_t rfl) (ev_t rfl) (by first | omega | simp) slT_25 (ri_arg hs1) hb23)) rfl rfl rfl ?_
    refine TL.op (yq (y_ldi (ev_t rfl) one_3 (ri_arg hs1) hb23)) rfl rfl rfl ?_
    refine TL.op (yq (y_assign (ev_t rfl))) rfl rfl rfl ?_
    refine TL.op (yq (y_assign (ev_t rfl))) rfl rfl rfl ?_
    refine TL.nil ?_
    refine TN.seq ?_
    refine TC.seq ?_
    refine TC.seq ?_
    refine TC.region ?_
    refine TL.op (yq (y_move (ev_t rfl))) rfl rfl rfl ?_
    refine TL.op (yq (y_move (ev_t rfl))) rfl rfl rfl ?_
    refine TL.op (yq (y_len (ev_t rfl) Try.underlying25 (fun w hw => ((ri_arg hs2) w hw).ln))) rfl rfl rfl ?_
    refine TL.op (yq (y_geq (ev_t rfl) (ev_t rfl))) rfl rfl rfl ?_
    refine TL.nil ?_
    refine TN.seq ?_
    refine TC.cond (b := decide ((s2.length : Int) ≤ (k11_1 : Int))) (ev_t rfl) (fun h24 => ?_) (fun h24 => ?_)
    · rw [bif_pos h24] at hL1
      have q25 := (of_decide_eq_true h24)
      refine TC.seq ?_
      refine TC.region ?_
      refine TL.op (yq (y_assign ev_c)) rfl rfl rfl ?_
      refine TL.nil ?_
      refine TN.seq ?_
      refine TC.ret ?_
      refine TN.thenR ?_
      refine TN.blockR ?_
      refine TN.thenR ?_
      refine TN.thenR ?_
      rw [← hL1, elim_ret] at hF
      refine TN.blockR ?_
      refine TN.thenR ?_
      subst hF
      exact TN.ret1 rfl (ev_t rfl) (fun w' hw => ⟨rfl, hw⟩)
    · rw [bif_neg h24] at hL1
      have q25 := (of_decide_eq_false h24)
      refine TC.skip ?_
      refine TN.seq ?_
      refine TC.seq ?_
      refine TC.region ?_
      refine TL.op (yq (y_move (ev_t rfl))) rfl rfl rfl ?_
      refine TL.op (yq (y_move (ev_t rfl))) rfl rfl rfl ?_
      have hb26 : k11_1 < s2.length := (by first | omega | (simp only [List.length_set, List.length_append, List.length_cons, List.length_nil, List.length_replicate]; omega) | (rw [sortI_length]; simp only [List.length_cons, List.length_nil]; omega))
      refine TL.op (yq (y_idx (k := k11_1) (ev_t rfl) (ev_t rfl) (by first | omega | simp) slT_25 (ri_arg hs2) hb26)) rfl rfl rfl ?_
      refine TL.op (yq (y_ldi (ev_t rfl) one_3 (ri_arg hs2) hb26)) rfl rfl rfl ?_
      refine TL.op (yq (y_assign (ev_t rfl))) rfl rfl rfl ?_
      refine TL.nil ?_
      refine TN.seq ?_
      refine TC.seq ?_
      refine TC.region ?_
      refine TL.op (yq (y_move (ev_t rfl))) rfl rfl rfl ?_
      refine TL.op (yq (y_move (ev_t rfl))) rfl rfl rfl ?_
      refine TL.op (y_call (vs := [(.int .i64 (s1.getD k11_1 0)), (.int .i64 (s2.getD k11_1 0))]) (v := (.int .i64 (F_cmp_Compare_int (s1.getD k11_1 0) (s2.getD k11_1 0)))) en_127 ⟨(ev_t rfl), (ev_t rfl), trivial⟩ (fun w hw => cmp_Compare_int_ok w (s1.getD k11_1 0) (s2.getD k11_1 0))) rfl rfl rfl ?_
      refine TL.op (yq (y_assign (ev_t rfl))) rfl rfl rfl ?_
      refine TL.nil ?_
      refine TN.seq ?_
      refine TC.seq ?_
      refine TC.region ?_
      refine TL.op (yq (y_move (ev_t rfl))) rfl rfl rfl ?_
      refine TL.op (yq (y_neq (ev_t rfl) ev_c)) rfl rfl rfl ?_
      refine TL.nil ?_
      refine TN.seq ?_
      refine TC.cond (b := !decide ((F_cmp_Compare_int (s1.getD k11_1 0) (s2.getD k11_1 0)) = 0)) (ev_t rfl) (fun h27 => ?_) (fun h27 => ?_)
      · rw [bif_pos h27] at hL1
        have q28 := (of_decide_eq_false (not_t h27))
        refine TC.seq ?_
        refine TC.region ?_
        refine TL.op (yq (y_move (ev_t rfl))) rfl rfl rfl ?_
        refine TL.op (yq (y_assign (ev_t rfl))) rfl rfl rfl ?_
        refine TL.nil ?_
        refine TN.seq ?_
        refine TC.ret ?_
        refine TN.blockR ?_
        refine TN.thenR ?_
        refine TN.thenR ?_
        rw [← hL1, elim_ret] at hF
        refine TN.blockR ?_
        refine TN.thenR ?_
        subst hF
        exact TN.ret1 rfl (ev_t rfl) (fun w' hw => ⟨rfl, hw⟩)
      · rw [bif_neg h27] at hL1
        have q28 := (of_decide_eq_true (not_f h27))
        refine TC.skip ?_
        refine TN.blockN ?_
        refine TN.seq ?_
        refine TC.region ?_
        refine TL.op (yq (y_add (ev_t rfl) ev_c (by unfold In64; omega))) rfl rfl rfl ?_
        refine TL.op (yq (y_move (ev_t rfl))) rfl rfl rfl ?_
        refine TL.nil ?_
        exact TN.hand (mf1, (k11_1 + 1)) ⟨(by first | omega | (simp [-List.getD_eq_getElem?_getD] <;> omega)), (by omega), hL1⟩ (Nat.lt_succ_self _) ⟨rfl, rfl, rfl, rfl, rfl, trivial⟩ (fun w hw => hw)
  · rw [bif_neg h21] at hL1
    have q22 := (of_decide_eq_false h21)
    refine TC.exit ?_
    refine TN.thenE ?_
    refine TN.thenE ?_
    rw [← hL1, elim_next] at hF
    try dsimp only at hF
    refine TN.blockH ?_
    refine TN.seq ?_
    refine TC.seq ?_
    refine TC.seq ?_
    refine TC.region ?_
    refine TL.op (yq (y_move (ev_t rfl))) rfl rfl rfl ?_
    refine TL.op (yq (y_len (ev_t rfl) Try.underlying25 (fun w hw => ((ri_arg hs1) w hw).ln))) rfl rfl rfl ?_
    refine TL.op (yq (y_move (ev_t rfl))) rfl rfl rfl ?_
    refine TL.op (yq (y_len (ev_t rfl) Try.underlying25 (fun w hw => ((ri_arg hs2) w hw).ln))) rfl rfl rfl ?_
    refine TL.op (yq (y_lss (ev_t rfl) (ev_t rfl))) rfl rfl rfl ?_
    refine TL.nil ?_
    refine TN.seq ?_
    refine TC.cond (b := decide ((s1.length : Int) < (s2.length : Int))) (ev_t rfl) (fun h29 => ?_) (fun h29 => ?_)
    · rw [bif_pos h29] at hF
      have q30 := (of_decide_eq_true h29)
      refine TC.seq ?_
      refine TC.region ?_
      refine TL.op (yq (y_assign ev_c)) rfl rfl rfl ?_
      refine TL.nil ?_
      refine TN.seq ?_
      refine TC.ret ?_
      refine TN.thenR ?_
      subst hF
      exact TN.ret1 rfl (ev_t rfl) (fun w' hw => ⟨rfl, hw⟩)
    · rw [bif_neg h29] at hF
      have q30 := (of_decide_eq_false h29)
      refine TC.skip ?_
      refine TN.seq ?_
      refine TC.seq ?_
      refine TC.region ?_
      refine TL.op (yq (y_assign ev_c)) rfl rfl rfl ?_
      refine TL.nil ?_
      refine TN.seq ?_
      refine TC.ret ?_
      subst hF
      exact TN.ret1 rfl (ev_t rfl) (fun w' hw => ⟨rfl, hw⟩)

set_option maxRecDepth 4000 in
set_option maxHeartbeats 1000000 in
theorem impl_works_index_1_ok (w : World) (vb : Value) (b : List Int) (hb : RI w vb b) (vc : Value) (c : List Int) (hc : RI w vc c)  :
    Calls Try.prog 108 ([vb, vc] : List Value).toArray w (Ret (.int .i64 (F_impl_works_index_1 b c)) (Hp w [])) := by
  obtain ⟨rz, hF⟩ : ∃ rz, (F_impl_works_index_1 b c) = rz := ⟨_, rfl⟩
  rw [hF]
  unfold F_impl_works_index_1 at hF
  have hlen_b := arg_len hb
  have hlen_c := arg_len hc
  refine calls_tc Try.func108 rfl rfl rfl ?_
  change TC _ _ _ _ (Hp w []) [(0, vb), (1, vc)]
  refine TC.seq ?_
  refine TC.region ?_
  refine TL.op (yq (y_assign ev_c)) rfl rfl rfl ?_
  refine TL.nil ?_
  refine TN.seq ?_
  refine TC.seq ?_
  refine TC.region ?_
  refine TL.op (yq (y_move (ev_t rfl))) rfl rfl rfl ?_
  refine TL.op (yq (y_move (ev_t rfl))) rfl rfl rfl ?_
  refine TL.op (y_call (vs := [vb, vc]) (v := (.int .i64 (F_slices_Compare_Sint_int b c))) en_109 ⟨(ev_t rfl), (ev_t rfl), trivial⟩ (fun w hw => slices_Compare_Sint_int_ok w vb b ((ri_arg hb) w hw) vc c ((ri_arg hc) w hw))) rfl rfl rfl ?_
  refine TL.op (yq (y_assign (ev_t rfl))) rfl rfl rfl ?_
  refine TL.nil ?_
  refine TN.seq ?_
  refine TC.ret ?_
  subst hF
  exact TN.ret1 rfl (ev_t rfl) (fun w' hw => ⟨rfl, hw⟩)

set_option maxRecDepth 4000 in
set_option maxHeartbeats 1000000 in
theorem slices_BinarySearchFunc_SSint_Sint_Sint_ok (w : World) (vx : Value) (ux : List Value) (x : List (List Int)) (hx : RII w vx ux x) (vtgt : Value) (tgt : List Int) (htgt : RI w vtgt tgt) (kf : Nat) (cf : List Value) (f : List Int → List Int → Int) (ef : En Try.prog kf) (hf : ∀ (w' : World) (_ : Below w.heap.size w w') (vx0 : Value) (x0 : List Int) (_ : RI w' vx0 x0) (vx1 : Value) (x1 : List Int) (_ : RI w' vx1 x1), Calls Try.prog kf ([vx0, vx1] ++ cf : List Value).toArray w' (Ret (.int .i64 (f x0 x1)) (Hp w' []))) (hp0 : x.length ≤ 1000000) :
    Calls Try.prog 107 ([vx, vtgt, (.func (.func kf) #[] cf.toArray)] : List Value).toArray w (Ret (.tuple #[(.int .i64 ((F_slices_BinarySearchFunc_SSint_Sint_Sint x tgt f).1)), (.bool ((F_slices_BinarySearchFunc_SSint_Sint_Sint x tgt f).2))]) (Hp w [])) := by
  obtain ⟨rz, hF⟩ : ∃ rz, (F_slices_BinarySearchFunc_SSint_Sint_Sint x tgt f) = rz := ⟨_, rfl⟩
  rw [hF]
  unfold F_slices_BinarySearchFunc_SSint_Sint_Sint at hF
  have hlen_x := argT_len hx
  have hlen_tgt := arg_len htgt
  refine calls_tc Try.func107 rfl rfl rfl ?_
  change TC _ _ _ _ (Hp w []) [(0, vx), (1, vtgt), (2, (.func (.func kf) #[] cf.toArray))]
  refine TC.seq ?_
  refine TC.region ?_
  refine TL.op (yq (y_assign ev_c)) rfl rfl rfl ?_
  refine TL.op (yq (y_assign ev_c)) rfl rfl rfl ?_
  refine TL.nil ?_
  refine TN.seq ?_
  refine TC.seq ?_
  refine TC.region ?_
  refine TL.op (yq (y_move (ev_t rfl))) rfl rfl rfl ?_
  refine TL.op (yq (y_len (ev_t rfl) Try.underlying22 (fun w hw => ((fun w hw => ((rii_arg hx) w hw).1) w hw).ln))) rfl rfl rfl ?_
  refine TL.op (yq (y_assign (ev_t rfl))) rfl rfl rfl ?_
  refine TL.nil ?_
  refine TN.seq ?_
  refine TC.seq ?_
  refine TC.region ?_
  refine TL.op (yq (y_move (ev_t rfl))) rfl rfl rfl ?_
  refine TL.op (yq (y_assign ev_c)) rfl rfl rfl ?_
  refine TL.op (yq (y_assign (ev_t rfl))) rfl rfl rfl ?_
  refine TL.nil ?_
  refine TN.seq ?_
  refine TC.seq ?_
  refine TC.block ?_
  obtain ⟨c13, hc14⟩ : ∃ c, F_slices_BinarySearchFunc_SSint_Sint_Sint_L1 x tgt f ((x.length - 0) + 1) (0, x.length) = c := ⟨_, rfl⟩
  rw [hc14] at hF
  refine TC.loop (ι := Nat × Nat × Nat) (fun (fu1, i1, j1) => [(0, vx), (1, vtgt), (2, (.func (.func kf) #[] cf.toArray)), (8, (.int .i64 (x.length : Int))), (9, (.int .i64 (i1 : Int))), (10, (.int .i64 (j1 : Int)))]) (fun (fu1, i1, j1) => Hp w []) (fun (fu1, i1, j1) => (i1 ≤ j1) ∧ (j1 ≤ x.length) ∧ j1 - i1 < fu1 ∧ F_slices_BinarySearchFunc_SSint_Sint_Sint_L1 x tgt f fu1 (i1, j1) = c13) (fun (fu1, i1, j1) => fu1) ((x.length - 0) + 1, 0, x.length) ⟨(by first | omega | (simp [-List.getD_eq_getElem?_getD] <;> omega)), (by first | omega | (simp [-List.getD_eq_getElem?_getD] <;> omega)), (by omega), hc14⟩ ⟨rfl, rfl, rfl, rfl, rfl, rfl, trivial⟩ (fun w hw => hw) ?_
  rintro ⟨fu1, i1, j1⟩ hJ1
  obtain ⟨hi1_0, hi1_1, hmu1, hL1⟩ : (i1 ≤ j1) ∧ (j1 ≤ x.length) ∧ j1 - i1 < fu1 ∧ F_slices_BinarySearchFunc_SSint_Sint_Sint_L1 x tgt f fu1 (i1, j1) = c13 := hJ1
  change TC _ _ _ _ (Hp w []) [(0, vx), (1, vtgt), (2, (.func (.func kf) #[] cf.toArray)), (8, (.int .i64 (x.length : Int))), (9, (.int .i64 (i1 : Int))), (10, (.int .i64 (j1 : Int)))]
  obtain ⟨mf1, rfl⟩ : ∃ m, fu1 = m + 1 := ⟨fu1 - 1, by omega⟩
  rw [F_slices_BinarySearchFunc_SSint_Sint_Sint_L1_s] at hL1
  refine TC.seq ?_
  refine TC.seq ?_
  refine TC.region ?_
  refine TL.op (yq (y_move (ev_t rfl))) rfl rfl rfl ?_
  refine TL.op (yq (y_move (ev_t rfl))) rfl rfl rfl ?_
  refine TL.op (yq (y_lss (ev_t rfl) (ev_t rfl))) rfl rfl rfl ?_
  refine TL.nil ?_
  refine TN.seq ?_
  refine TC.cond (b := decide ((i1 : Int) < (j1 : Int))) (ev_t rfl) (fun h15 => ?_) (fun h15 => ?_)
  · rw [bif_pos h15] at hL1
    have q16 := (of_decide_eq_true h15)
    refine TC.skip ?_
    refine TN.seq ?_
    refine TC.block ?_
    refine TC.seq ?_
    refine TC.region ?_
    refine TL.op (yq (y_move (ev_t rfl))) rfl rfl rfl ?_
    refine TL.op (yq (y_move (ev_t rfl))) rfl rfl rfl ?_
    refine TL.op (yq (y_add (ev_t rfl) (ev_t rfl) (by unfold In64; omega))) rfl rfl rfl ?_
    refine TL.op (yq (y_conv_u64 (ev_t rfl) Try.underlying3 Try.underlying106 (by first | omega | (simp only [List.length_set, List.length_append, List.length_cons, List.length_nil, List.length_replicate]; omega) | (rw [sortI_length]; simp only [List.length_cons, List.length_nil]; omega)))) rfl rfl rfl ?_
    refine TL.op (yq (y_shr1 (ev_t rfl) ev_c (by first | omega | (simp only [List.length_set, List.length_append, List.length_cons, List.length_nil, List.length_replicate]; omega) | (rw [sortI_length]; simp only [List.length_cons, List.length_nil]; omega)))) rfl rfl rfl ?_
    refine TL.op (yq (y_conv_i64 (ev_t rfl) Try.underlying106 Try.underlying3 (by first | omega | (simp only [List.length_set, List.length_append, List.length_cons, List.length_nil, List.length_replicate]; omega) | (rw [sortI_length]; simp only [List.length_cons, List.length_nil]; omega)))) rfl rfl rfl ?_
    refine TL.op (yq (y_assign (ev_t rfl))) rfl rfl rfl ?_
    refine TL.nil ?_
    refine TN.seq ?_
    refine TC.seq ?_
    refine TC.region ?_
    refine TL.op (yq (y_move (ev_t rfl))) rfl rfl rfl ?_
    refine TL.op (yq (y_move (ev_t rfl))) rfl rfl rfl ?_
    refine TL.op (yq (y_move (ev_t rfl))) rfl rfl rfl ?_
    have hb17 : ((i1 + j1) / 2) < x.length := (by first | omega | (simp only [List.length_set, List.length_append, List.length_cons, List.length_nil, List.length_replicate]; omega) | (rw [sortI_length]; simp only [List.length_cons, List.length_nil]; omega))
    refine TL.op (yq (y_idx (k := ((i1 + j1) / 2)) (ev_t rfl) (ev_t rfl) (by first | omega | simp) slT_22 (fun w hw => ((rii_arg hx) w hw).1) hb17)) rfl rfl rfl ?_
    have ha18 := hx.row (i := ((i1 + j1) / 2)) hb17
    refine TL.op (yq (y_ldA (ev_t rfl) one_25 (rii_arg hx) hb17)) rfl rfl rfl ?_
    refine TL.op (yq (y_move (ev_t rfl))) rfl rfl rfl ?_
    refine TL.op (y_callv (vs := [(ux.getD ((i1 + j1) / 2) undef), vtgt]) (v := (.int .i64 (f (x.getD ((i1 + j1) / 2) []) tgt))) ef (ev_t rfl) ⟨(ev_t rfl), (ev_t rfl), trivial⟩ (fun w hw => hf w hw.1 (ux.getD ((i1 + j1) / 2) undef) (x.getD ((i1 + j1) / 2) []) ((ri_arg ha18) w hw) vtgt tgt ((ri_arg htgt) w hw))) rfl rfl rfl ?_
    refine TL.op (yq (y_lss (ev_t rfl) ev_c)) rfl rfl rfl ?_
    refine TL.nil ?_
    refine TN.seq ?_
    refine TC.cond (b := decide ((f (x.getD ((i1 + j1) / 2) []) tgt) < 0)) (ev_t rfl) (fun h19 => ?_) (fun h19 => ?_)
    · rw [bif_pos h19] at hL1
      have q20 := (of_decide_eq_true h19)
      refine TC.region ?_
      refine TL.op (yq (y_move (ev_t rfl))) rfl rfl rfl ?_
      refine TL.op (yq (y_add (ev_t rfl) ev_c (by unfold In64; omega))) rfl rfl rfl ?_
      refine TL.op (yq (y_assign (ev_t rfl))) rfl rfl rfl ?_
      refine TL.nil ?_
      refine TN.blockN ?_
      exact TN.hand (mf1, (((i1 + j1) / 2) + 1), j1) ⟨(by first | omega | (simp [-List.getD_eq_getElem?_getD] <;> omega)), (by first | omega | (simp [-List.getD_eq_getElem?_getD] <;> omega)), (by omega), hL1⟩ (Nat.lt_succ_self _) ⟨rfl, rfl, rfl, rfl, rfl, rfl, trivial⟩ (fun w hw => hw)
    · rw [bif_neg h19] at hL1
      have q20 := (of_decide_eq_false h19)
      refine TC.region ?_
      refine TL.op (yq (y_move (ev_t rfl))) rfl rfl rfl ?_
      refine TL.op (yq (y_assign (ev_t rfl))) rfl rfl rfl ?_
      refine TL.nil ?_
      refine TN.blockN ?_
      exact TN.hand (mf1, i1, ((i1 + j1) / 2)) ⟨(by first | omega | (simp [-List.getD_eq_getElem?_getD] <;> omega)), (by first | omega | (simp [-List.getD_eq_getElem?_getD] <;> omega)), (by omega), hL1⟩ (Nat.lt_succ_self _) ⟨rfl, rfl, rfl, rfl, rfl, rfl, trivial⟩ (fun w hw => hw)
  · rw [bif_neg h15] at hL1
    have q16 := (of_decide_eq_false h15)
    refine TC.exit ?_
    refine TN.thenE ?_
    refine TN.thenE ?_
    rw [← hL1, elim_next] at hF
    try dsimp only at hF
    refine TN.blockH ?_
    refine TN.seq ?_
    refine TC.seq ?_
    refine TC.region ?_
    refine TL.op (yq (y_move (ev_t rfl))) rfl rfl rfl ?_
    refine TL.op (yq (y_move (ev_t rfl))) rfl rfl rfl ?_
    refine TL.op (yq (y_move (ev_t rfl))) rfl rfl rfl ?_
    refine TL.op (yq (y_lss (ev_t rfl) (ev_t rfl))) rfl rfl rfl ?_
    refine TL.op (yq (y_move (ev_t rfl))) rfl rfl rfl ?_
    refine TL.opw (w_t rfl rfl rfl) (fun hg => yq (y_move (ev_t rfl))) rfl rfl ?_
    refine TL.opw (w_t rfl rfl rfl) (fun hg => yq (y_move (ev_t rfl))) rfl rfl ?_
    refine TL.opw (w_t rfl rfl rfl) (fun hg => yq (y_move (ev_t rfl))) rfl rfl ?_
    refine TL.opw (w_t rfl rfl rfl) (fun hg => yq (y_idx (k := i1) (ev_g rfl hg) (ev_g rfl hg) (by first | omega | simp) slT_22 (fun w hw => ((rii_arg hx) w hw).1) (show i1 < x.length by have hgf := (of_decide_eq_true hg); omega))) rfl rfl ?_
    refine TL.opw (w_t rfl rfl rfl) (fun hg => yq (y_ldA (ev_g rfl hg) one_25 (rii_arg hx) (show i1 < x.length by have hgf := (of_decide_eq_true hg); omega))) rfl rfl ?_
    refine TL.opw (w_t rfl rfl rfl) (fun hg => yq (y_move (ev_t rfl))) rfl rfl ?_
    refine TL.opw (w_t rfl rfl rfl) (fun hg => y_callv (vs := [(ux.getD i1 undef), vtgt]) (v := (.int .i64 (f (x.getD i1 []) tgt))) ef (ev_g rfl hg) ⟨(ev_g rfl hg), (ev_g rfl hg), trivial⟩ (fun w hw => hf w hw.1 (ux.getD i1 undef) (x.getD i1 []) ((ri_arg (hx.row (i := i1) (show i1 < x.length by have hgf := (of_decide_eq_true hg); omega))) w hw) vtgt tgt ((ri_arg htgt) w hw))) rfl rfl ?_
    refine TL.opw (w_t rfl rfl rfl) (fun hg => yq (y_eql (ev_g rfl hg) ev_c)) rfl rfl ?_
    refine TL.op (yq (y_and (ev_t rfl) (fun hq => (ev_g rfl hq)))) rfl rfl rfl ?_
    refine TL.op (yq (y_assign (ev_t rfl))) rfl rfl rfl ?_
    refine TL.op (yq (y_assign (ev_t rfl))) rfl rfl rfl ?_
    refine TL.nil ?_
    refine TN.seq ?_
    refine TC.ret ?_
    subst hF
    exact TN.ret2 rfl (ev_t rfl) (ev_t rfl) (fun w' hw => ⟨rfl, hw⟩)

set_option maxRecDepth 4000 in
set_option maxHeartbeats 1000000 in
theorem impl_worksOf_ok (w : World) (vm : Value) (um : List Value) (m : List (List Int)) (hm : RII w vm um m) (k : Int) (hp0 : Ks m k) :
    Calls Try.prog 56 ([(.agg #[vm]), (.int .i64 k)] : List Value).toArray w (fun e w' => ∃ i : Nat × Value × Value × List Value × Value × List Value, e = .returned (.pointer (some ⟨i.1, 0, none⟩)) ∧ Hp w [.blk i.1 70 [i.2.1, i.2.2.1, i.2.2.2.2.1], tabI 25 3 i.2.2.1 i.2.2.2.1 ((F_impl_worksOf m k).1), tabI 25 3 i.2.2.2.2.1 i.2.2.2.2.2 ((F_impl_worksOf m k).2)] w') := by
  obtain ⟨rz, hF⟩ : ∃ rz, (F_impl_worksOf m k) = rz := ⟨_, rfl⟩
  rw [hF]
  unfold F_impl_worksOf at hF
  have hn6 := hp0.tab.n6
  have hcs := hp0.cfgs
  have hc56 := hp0.c56
  have hTab := hp0.tab
  have hk1 := hp0.k1
  have hk3 := hp0.k3
  have hlen_m := argT_len hm
  refine calls_tc Try.func56 rfl rfl rfl ?_
  change TC _ _ _ _ (Hp w []) [(0, (.agg #[vm])), (1, (.int .i64 k))]
  refine TC.seq ?_
  refine TC.region ?_
  refine TL.box (ev_t rfl) rfl (fun g0_0 => ?_)
  refine TL.op (yq (y_assign ev_c)) rfl rfl rfl ?_
  refine TL.nil ?_
  refine TN.seq ?_
  refine TC.seq ?_
  refine TC.regionH 9 (Hp w [.blk g0_0 29 [vm]]) rfl (by kernel_rfl) dr_hp (fun w hw => hw) ?_
  refine TH.take 0 rfl (by kernel_rfl) (y_ldagg (cs := [vm]) 0 (ev_t rfl) agg_29 rfl) rfl rfl rfl ?_
  refine TH.take 1 rfl (by kernel_rfl) (y_fa (fa_29_0 g0_0) (ev_t rfl)) rfl rfl rfl ?_
  refine TH.take 2 rfl (by kernel_rfl) (y_ldb 0 (ev_t rfl) one_22 rfl rfl) rfl rfl rfl ?_
  refine TH.take 3 rfl (by kernel_rfl) (y_len (ev_t rfl) Try.underlying22 (fun w hw => ((fun w hw => ((rii_arg hm) w hw).1) w hw).ln)) rfl rfl rfl ?_
  refine TH.take 4 rfl (by kernel_rfl) (y_move (ev_t rfl)) rfl rfl rfl ?_
  refine TH.loud 5 rfl (by kernel_rfl) ?_
  refine TL.callr (ι := Value × List Value) (vs := [(.int .i64 (m.length : Int)), (.int .i64 k), (.int .i64 0)]) (fun i => i.1) (fun i => [tabI 25 3 i.1 i.2 (F_impl_configsOf (m.length : Int) k 0)]) en_99 ⟨(ev_t rfl), (ev_t rfl), ev_c, trivial⟩ rfl (fun w hw => impl_configsOf_ok w (m.length : Int) k 0 (by first | assumption | omega | grind) (by first | assumption | omega | grind) (by first | assumption | omega | grind) (by first | assumption | omega | grind)) (fun r1_5 => ?_)
  refine TL.nil ?_
  refine TH.back (fun w hw => Hp.sublist hw (.cons _ (.cons_cons _ .slnil))) ?_
  refine TH.loud 6 rfl (by kernel_rfl) ?_
  refine TL.op (yq (y_bldW (ev_t rfl) (ev_t rfl) bd_70_w (fun w hw => ((fun w hw => ((rii_arg hm) w hw).1) w hw).ln) (fun w hw => ((fun w hw => ((rii_tab 0 rfl) w hw).1) w hw).ln))) rfl rfl rfl ?_
  refine TL.nil ?_
  refine TH.back (fun w hw => Hp.sublist hw (.cons _ (.cons_cons _ .slnil))) ?_
  refine TH.loud 7 rfl (by kernel_rfl) ?_
  refine TL.boxW (ev_t rfl) (fun w hw => ((fun w hw => ((rii_arg hm) w hw).1) w hw).ln) (fun w hw => ((fun w hw => ((rii_tab 0 rfl) w hw).1) w hw).ln) rfl (fun g1_7 => ?_)
  refine TL.nil ?_
  refine TH.back (fun w hw => Hp.sublist hw (.cons _ (.cons _ (.cons_cons _ .slnil)))) ?_
  refine TH.take 8 rfl (by kernel_rfl) (y_assign (ev_t rfl)) rfl rfl rfl ?_
  refine TH.done (by kernel_rfl) ?_
  refine TN.seq ?_
  refine TC.seq ?_
  refine TC.seq ?_
  refine TC.region ?_
  refine TL.op (yq (y_move (ev_t rfl))) rfl rfl rfl ?_
  refine TL.op (yq (y_nilp (ev_t rfl))) rfl rfl rfl ?_
  refine TL.op (yq (y_fa (fa_70_1 g1_7) (ev_t rfl))) rfl rfl rfl ?_
  refine TL.op (yq (y_ldb 0 (ev_t rfl) one_22 rfl rfl)) rfl rfl rfl ?_
  refine TL.op (yq (y_len (ev_t rfl) Try.underlying22 (fun w hw => ((fun w hw => ((rii_tab 1 rfl) w hw).1) w hw).ln))) rfl rfl rfl ?_
  refine TL.op (yq (y_move ev_c)) rfl rfl rfl ?_
  refine TL.nil ?_
  refine TN.seq ?_
  refine TC.block ?_
  refine TC.cls (fun w hw => hw.nilTab 25 3) ?_
  obtain ⟨c28, hc29⟩ : ∃ c, F_impl_worksOf_L1 m k ((((F_impl_configsOf (m.length : Int) k 0).length) - 0) + 1) (0, ([])) = c := ⟨_, rfl⟩
  rw [hc29] at hF
  refine TC.loop (ι := Nat × Nat × List (List Int) × Value × List Value) (fun (fu1, k24_1, zg1_7_2_1, vzg1_7_2_1, uzg1_7_2_1) => [(2, (.pointer (some ⟨g0_0, 0, none⟩))), (5, (.pointer (some ⟨g1_7, 0, none⟩))), (22, r1_5.1), (23, (.int .i64 ((F_impl_configsOf (m.length : Int) k 0).length : Int))), (24, (.int .i64 (k24_1 : Int)))]) (fun (fu1, k24_1, zg1_7_2_1, vzg1_7_2_1, uzg1_7_2_1) => Hp w [tabI 25 3 vzg1_7_2_1 uzg1_7_2_1 zg1_7_2_1, .blk g1_7 70 [vm, r1_5.1, vzg1_7_2_1], tabI 25 3 r1_5.1 r1_5.2 (F_impl_configsOf (m.length : Int) k 0), .blk g0_0 29 [vm]]) (fun (fu1, k24_1, zg1_7_2_1, vzg1_7_2_1, uzg1_7_2_1) => (k24_1 ≤ ((F_impl_configsOf (m.length : Int) k 0).length)) ∧ (zg1_7_2_1.length = k24_1) ∧ ((F_impl_configsOf (m.length : Int) k 0).length) - k24_1 < fu1 ∧ F_impl_worksOf_L1 m k fu1 (k24_1, zg1_7_2_1) = c28) (fun (fu1, k24_1, zg1_7_2_1, vzg1_7_2_1, uzg1_7_2_1) => fu1) ((((F_impl_configsOf (m.length : Int) k 0).length) - 0) + 1, 0, [], (.slice none 0 0), []) ⟨(by first | omega | (simp [-List.getD_eq_getElem?_getD] <;> omega)), (by first | omega | (simp [-List.getD_eq_getElem?_getD] <;> omega)), (by omega), hc29⟩ ⟨rfl, rfl, rfl, rfl, rfl, trivial⟩ (fun w hw => hw) ?_
  rintro ⟨fu1, k24_1, zg1_7_2_1, vzg1_7_2_1, uzg1_7_2_1⟩ hJ1
  obtain ⟨hi1_0, hi1_1, hmu1, hL1⟩ : (k24_1 ≤ ((F_impl_configsOf (m.length : Int) k 0).length)) ∧ (zg1_7_2_1.length = k24_1) ∧ ((F_impl_configsOf (m.length : Int) k 0).length) - k24_1 < fu1 ∧ F_impl_worksOf_L1 m k fu1 (k24_1, zg1_7_2_1) = c28 := hJ1
  change TC _ _ _ _ (Hp w [tabI 25 3 vzg1_7_2_1 uzg1_7_2_1 zg1_7_2_1, .blk g1_7 70 [vm, r1_5.1, vzg1_7_2_1], tabI 25 3 r1_5.1 r1_5.2 (F_impl_configsOf (m.length : Int) k 0), .blk g0_0 29 [vm]]) [(2, (.pointer (some ⟨g0_0, 0, none⟩))), (5, (.pointer (some ⟨g1_7, 0, none⟩))), (22, r1_5.1), (23, (.int .i64 ((F_impl_configsOf (m.length : Int) k 0).length : Int))), (24, (.int .i64 (k24_1 : Int)))]
  obtain ⟨mf1, rfl⟩ : ∃ m, fu1 = m + 1 := ⟨fu1 - 1, by omega⟩
  rw [F_impl_worksOf_L1_s] at hL1
  have hca := (hcs k24_1)
  refine TC.seq ?_
  refine TC.region ?_
  refine TL.op (yq (y_lss (ev_t rfl) (ev_t rfl))) rfl rfl rfl ?_
  refine TL.nil ?_
  refine TN.seq ?_
  refine TC.seq ?_
  refine TC.cond (b := decide ((k24_1 : Int) < ((F_impl_configsOf (m.length : Int) k 0).length : Int))) (ev_t rfl) (fun h30 => ?_) (fun h30 => ?_)
  · rw [bif_pos h30] at hL1
    have q31 := (of_decide_eq_true h30)
    refine TC.skip ?_
    refine TN.seq ?_
    refine TC.seq ?_
    refine TC.block ?_
    refine TC.seq ?_
    refine TC.region ?_
    have hb32 : k24_1 < (F_impl_configsOf (m.length : Int) k 0).length := (by first | omega | (simp only [List.length_set, List.length_append, List.length_cons, List.length_nil, List.length_replicate]; omega) | (rw [sortI_length]; simp only [List.length_cons, List.length_nil]; omega))
    refine TL.op (yq (y_idx (k := k24_1) (ev_t rfl) (ev_t rfl) (by first | omega | simp) slT_22 (fun w hw => ((rii_tab 2 rfl) w hw).1) hb32)) rfl rfl rfl ?_
    refine TL.op (yq (y_ldT 2 (ev_t rfl) one_25 rfl hb32)) rfl rfl rfl ?_
    refine TL.op (yq (y_assign (ev_t rfl))) rfl rfl rfl ?_
    refine TL.nil ?_
    refine TN.seq ?_
    refine TC.seq ?_
    refine TC.region ?_
    refine TL.buildI (zs := []) (qs := []) slT_25 rfl trivial rfl (by decide) rfl (fun v5_0 => ?_)
    refine TL.op (yq (y_assign (ev_t rfl))) rfl rfl rfl ?_
    refine TL.nil ?_
    refine TN.seq ?_
    refine TC.seq ?_
    refine TC.seq ?_
    refine TC.region ?_
    refine TL.op (yq (y_move (ev_t rfl))) rfl rfl rfl ?_
    refine TL.op (yq (y_nilp (ev_t rfl))) rfl rfl rfl ?_
    refine TL.op (yq (y_fa (fa_70_1 g1_7) (ev_t rfl))) rfl rfl rfl ?_
    refine TL.op (yq (y_ldb 2 (ev_t rfl) one_22 rfl rfl)) rfl rfl rfl ?_
    refine TL.op (yq (y_len (ev_t rfl) Try.underlying22 (fun w hw => ((fun w hw => ((rii_tab 3 rfl) w hw).1) w hw).ln))) rfl rfl rfl ?_
    refine TL.op (yq (y_move ev_c)) rfl rfl rfl ?_
    refine TL.nil ?_
    refine TN.seq ?_
    refine TC.block ?_
    obtain ⟨c33, hc34⟩ : ∃ c, F_impl_worksOf_L2 m k k24_1 ((((F_impl_configsOf (m.length : Int) k 0).length) - 0) + 1) (([] : List Int), 0) = c := ⟨_, rfl⟩
    rw [hc34] at hL1
    refine TC.loop (ι := Nat × List Int × Nat × Value) (fun (fu2, row2, k34_2, vrow2) => [(2, (.pointer (some ⟨g0_0, 0, none⟩))), (5, (.pointer (some ⟨g1_7, 0, none⟩))), (7, (r1_5.2.getD k24_1 undef)), (8, vrow2), (22, r1_5.1), (23, (.int .i64 ((F_impl_configsOf (m.length : Int) k 0).length : Int))), (24, (.int .i64 (k24_1 : Int))), (32, r1_5.1), (33, (.int .i64 ((F_impl_configsOf (m.length : Int) k 0).length : Int))), (34, (.int .i64 (k34_2 : Int)))]) (fun (fu2, row2, k34_2, vrow2) => Hp w [rowI 3 vrow2 row2, tabI 25 3 vzg1_7_2_1 uzg1_7_2_1 zg1_7_2_1, .blk g1_7 70 [vm, r1_5.1, vzg1_7_2_1], tabI 25 3 r1_5.1 r1_5.2 (F_impl_configsOf (m.length : Int) k 0), .blk g0_0 29 [vm]]) (fun (fu2, row2, k34_2, vrow2) => (k34_2 ≤ ((F_impl_configsOf (m.length : Int) k 0).length)) ∧ (row2.length = k34_2) ∧ ((F_impl_configsOf (m.length : Int) k 0).length) - k34_2 < fu2 ∧ F_impl_worksOf_L2 m k k24_1 fu2 (row2, k34_2) = c33) (fun (fu2, row2, k34_2, vrow2) => fu2) ((((F_impl_configsOf (m.length : Int) k 0).length) - 0) + 1, ([] : List Int), 0, v5_0) ⟨(by first | omega | (simp [-List.getD_eq_getElem?_getD] <;> omega)), (by first | omega | (simp [-List.getD_eq_getElem?_getD] <;> omega)), (by omega), hc34⟩ ⟨rfl, rfl, rfl, rfl, rfl, rfl, rfl, rfl, rfl, rfl, trivial⟩ (fun w hw => hw) ?_
    rintro ⟨fu2, row2, k34_2, vrow2⟩ hJ2
    obtain ⟨hi2_0, hi2_1, hmu2, hL2⟩ : (k34_2 ≤ ((F_impl_configsOf (m.length : Int) k 0).length)) ∧ (row2.length = k34_2) ∧ ((F_impl_configsOf (m.length : Int) k 0).length) - k34_2 < fu2 ∧ F_impl_worksOf_L2 m k k24_1 fu2 (row2, k34_2) = c33 := hJ2
    change TC _ _ _ _ (Hp w [rowI 3 vrow2 row2, tabI 25 3 vzg1_7_2_1 uzg1_7_2_1 zg1_7_2_1, .blk g1_7 70 [vm, r1_5.1, vzg1_7_2_1], tabI 25 3 r1_5.1 r1_5.2 (F_impl_configsOf (m.length : Int) k 0), .blk g0_0 29 [vm]]) [(2, (.pointer (some ⟨g0_0, 0, none⟩))), (5, (.pointer (some ⟨g1_7, 0, none⟩))), (7, (r1_5.2.getD k24_1 undef)), (8, vrow2), (22, r1_5.1), (23, (.int .i64 ((F_impl_configsOf (m.length : Int) k 0).length : Int))), (24, (.int .i64 (k24_1 : Int))), (32, r1_5.1), (33, (.int .i64 ((F_impl_configsOf (m.length : Int) k 0).length : Int))), (34, (.int .i64 (k34_2 : Int)))]
    obtain ⟨mf2, rfl⟩ : ∃ m, fu2 = m + 1 := ⟨fu2 - 1, by omega⟩
    rw [F_impl_worksOf_L2_s] at hL2
    have hca1 := (hcs k24_1 (by omega)).1
    have hcb1 := fun h => (hcs k34_2 h).1
    have hcl := fun h => hp0.eqlen k24_1 k34_2 (by omega) h
    refine TC.seq ?_
    refine TC.region ?_
    refine TL.op (yq (y_lss (ev_t rfl) (ev_t rfl))) rfl rfl rfl ?_
    refine TL.nil ?_
    refine TN.seq ?_
    refine TC.seq ?_
    refine TC.cond (b := decide ((k34_2 : Int) < ((F_impl_configsOf (m.length : Int) k 0).length : Int))) (ev_t rfl) (fun h35 => ?_) (fun h35 => ?_)
    · rw [bif_pos h35] at hL2
      have q36 := (of_decide_eq_true h35)
      refine TC.skip ?_
      refine TN.seq ?_
      refine TC.seq ?_
      refine TC.block ?_
      refine TC.seq ?_
      refine TC.region ?_
      have hb37 : k34_2 < (F_impl_configsOf (m.length : Int) k 0).length := (by first | omega | (simp only [List.length_set, List.length_append, List.length_cons, List.length_nil, List.length_replicate]; omega) | (rw [sortI_length]; simp only [List.length_cons, List.length_nil]; omega))
      refine TL.op (yq (y_idx (k := k34_2) (ev_t rfl) (ev_t rfl) (by first | omega | simp) slT_22 (fun w hw => ((rii_tab 3 rfl) w hw).1) hb37)) rfl rfl rfl ?_
      refine TL.op (yq (y_ldT 3 (ev_t rfl) one_25 rfl hb37)) rfl rfl rfl ?_
      refine TL.op (yq (y_assign (ev_t rfl))) rfl rfl rfl ?_
      refine TL.nil ?_
      refine TN.seq ?_
      refine TC.region ?_
      refine TL.op (yq (y_move (ev_t rfl))) rfl rfl rfl ?_
      refine TL.op (yq (y_ldagg (cs := [vm]) 4 (ev_t rfl) agg_29 rfl)) rfl rfl rfl ?_
      refine TL.op (yq (y_move (ev_t rfl))) rfl rfl rfl ?_
      refine TL.op (yq (y_move (ev_t rfl))) rfl rfl rfl ?_
      refine TL.op (y_call (vs := [(.agg #[vm]), (r1_5.2.getD k24_1 undef), (r1_5.2.getD k34_2 undef)]) (v := (.int .i64 (F_impl_Metric_moveCost m ((F_impl_configsOf (m.length : Int) k 0).getD k24_1 []) ((F_impl_configsOf (m.length : Int) k 0).getD k34_2 [])))) en_100 ⟨(ev_t rfl), (ev_t rfl), (ev_t rfl), trivial⟩ (fun w hw => impl_Metric_moveCost_ok w vm um m ((rii_arg hm) w hw) (r1_5.2.getD k24_1 undef) ((F_impl_configsOf (m.length : Int) k 0).getD k24_1 []) ((ri_tab 3 k24_1 rfl hb32) w hw) (r1_5.2.getD k34_2 undef) ((F_impl_configsOf (m.length : Int) k 0).getD k34_2 []) ((ri_tab 3 k34_2 rfl hb37) w hw) (by first | assumption | omega | grind) (by first | assumption | omega | grind) (by first | assumption | omega | grind) (by first | assumption | omega | grind))) rfl rfl rfl ?_
      refine TL.buildI (zs := [.tmp 42]) (qs := [(F_impl_Metric_moveCost m ((F_impl_configsOf (m.length : Int) k 0).getD k24_1 []) ((F_impl_configsOf (m.length : Int) k 0).getD k34_2 []))]) slT_25 rfl ⟨(ev_t rfl), trivial⟩ rfl (by decide) rfl (fun v9_5 => ?_)
      refine TL.appendI 1 (ev_t rfl) (ev_t rfl) rfl slT_25 (ri_row 0 rfl) (by first | omega | (simp [-List.getD_eq_getElem?_getD] <;> omega)) rfl (fun v9_6 => ?_)
      refine TL.op (yq (y_assign (ev_t rfl))) rfl rfl rfl ?_
      refine TL.nil ?_
      refine TN.blockN ?_
      refine TN.seq ?_
      refine TC.region ?_
      refine TL.op (yq (y_add (ev_t rfl) ev_c (by unfold In64; omega))) rfl rfl rfl ?_
      refine TL.op (yq (y_move (ev_t rfl))) rfl rfl rfl ?_
      refine TL.nil ?_
      exact TN.hand (mf2, (row2 ++ ([(F_impl_Metric_moveCost m ((F_impl_configsOf (m.length : Int) k 0).getD k24_1 []) ((F_impl_configsOf (m.length : Int) k 0).getD k34_2 []))])), (k34_2 + 1), v9_6) ⟨(by first | omega | (simp [-List.getD_eq_getElem?_getD] <;> omega)), (by first | omega | (simp [-List.getD_eq_getElem?_getD] <;> omega)), (by omega), hL2⟩ (Nat.lt_succ_self _) ⟨rfl, rfl, rfl, rfl, rfl, rfl, rfl, rfl, rfl, rfl, trivial⟩ (fun w hw => Hp.sublist hw (.cons _ (.cons_cons _ (.cons_cons _ (.cons_cons _ (.cons_cons _ (.cons_cons _ .slnil)))))))
    · rw [bif_neg h35] at hL2
      have q36 := (of_decide_eq_false h35)
      refine TC.exit ?_
      refine TN.thenE ?_
      refine TN.thenE ?_
      rw [← hL2, elim_next] at hL1
      try dsimp only at hL1
      refine TN.blockH ?_
      refine TN.seq ?_
      refine TC.region ?_
      refine TL.op (yq (y_move (ev_t rfl))) rfl rfl rfl ?_
      refine TL.op (yq (y_move (ev_t rfl))) rfl rfl rfl ?_
      refine TL.op (yq (y_nilp (ev_t rfl))) rfl rfl rfl ?_
      refine TL.op (yq (y_fa (fa_70_2 g1_7) (ev_t rfl))) rfl rfl rfl ?_
      refine TL.op (yq (y_ldb 2 (ev_t rfl) one_22 rfl rfl)) rfl rfl rfl ?_
      refine TL.op (yq (y_move (ev_t rfl))) rfl rfl rfl ?_
      refine TL.buildU slT_22 (ev_t rfl) (fun w hw => ((ri_row 0 rfl) w hw).ln) rfl (fun v11_6 => ?_)
      refine TL.appendT 2 1 rfl (ev_t rfl) (ev_t rfl) rfl rfl slT_22 (rd_row 0 rfl) (by first | omega | (simp [-List.getD_eq_getElem?_getD] <;> omega)) rfl (fun v11_7 => ?_)
      refine TL.op (yq (y_nilp (ev_t rfl))) rfl rfl rfl ?_
      refine TL.op (yq (y_fa (fa_70_2 g1_7) (ev_t rfl))) rfl rfl rfl ?_
      refine TL.storeB 3 (ev_t rfl) (ev_t rfl) one_22 rfl (by first | decide | simp) (fun w hw => (ln_one ((fun w hw => ((rii_tab 2 rfl) w hw).1) w hw).ln)) ?_
      refine TL.nil ?_
      refine TN.blockN ?_
      refine TN.seq ?_
      refine TC.region ?_
      refine TL.op (yq (y_add (ev_t rfl) ev_c (by unfold In64; omega))) rfl rfl rfl ?_
      refine TL.op (yq (y_move (ev_t rfl))) rfl rfl rfl ?_
      refine TL.nil ?_
      exact TN.hand (mf1, (k24_1 + 1), (zg1_7_2_1 ++ [row2]), v11_7, (uzg1_7_2_1 ++ [vrow2])) ⟨(by first | omega | (simp [-List.getD_eq_getElem?_getD] <;> omega)), (by first | omega | (simp [-List.getD_eq_getElem?_getD] <;> omega)), (by omega), hL1⟩ (Nat.lt_succ_self _) ⟨rfl, rfl, rfl, rfl, rfl, trivial⟩ (fun w hw => Hp.sublist hw (.cons _ (.cons _ (.cons_cons _ (.cons_cons _ (.cons_cons _ (.cons_cons _ .slnil)))))))
  · rw [bif_neg h30] at hL1
    have q31 := (of_decide_eq_false h30)
    refine TC.exit ?_
    refine TN.thenE ?_
    refine TN.thenE ?_
    rw [← hL1, elim_next] at hF
    try dsimp only at hF
    refine TN.blockH ?_
    refine TN.seq ?_
    refine TC.seq ?_
    refine TC.region ?_
    refine TL.op (yq (y_move (ev_t rfl))) rfl rfl rfl ?_
    refine TL.op (yq (y_assign (ev_t rfl))) rfl rfl rfl ?_
    refine TL.nil ?_
    refine TN.seq ?_
    refine TC.ret ?_
    subst hF
    exact TN.ret1 rfl (ev_t rfl) (fun w' hw => ⟨(g1_7, vm, r1_5.1, r1_5.2, vzg1_7_2_1, uzg1_7_2_1), rfl, Hp.picks [1, 2, 0] (by decide) rfl hw⟩)

set_option maxRecDepth 4000 in
set_option maxHeartbeats 1000000 in
theorem impl_works_index_ok (w : World) (gx : Nat) (vx0 : Value) (vx1 : Value) (ux1 : List Value) (xc1 : List (List Int)) (vx2 : Value) (ux2 : List Value) (xc2 : List (List Int)) (hx : BlkAt w gx [vx0, vx1, vx2]) (hrx1 : RII w vx1 ux1 xc1) (hrx2 : RII w vx2 ux2 xc2) (va : Value) (a : List Int) (ha : RI w va a) (hp0 : xc1.length ≤ 1000000) :
    Calls Try.prog 68 ([(.pointer (some ⟨gx, 0, none⟩)), va] : List Value).toArray w (Ret (.int .i64 (F_impl_works_index xc1 xc2 a)) (Hp w [])) := by
  obtain ⟨rz, hF⟩ : ∃ rz, (F_impl_works_index xc1 xc2 a) = rz := ⟨_, rfl⟩
  rw [hF]
  unfold F_impl_works_index at hF
  have hlen_x1 := argT_len hrx1
  have hlen_x2 := argT_len hrx2
  have hlen_a := arg_len ha
  refine calls_tc Try.func68 rfl rfl rfl ?_
  change TC _ _ _ _ (Hp w []) [(0, (.pointer (some ⟨gx, 0, none⟩))), (1, va)]
  refine TC.seq ?_
  refine TC.region ?_
  refine TL.op (yq (y_assign ev_c)) rfl rfl rfl ?_
  refine TL.nil ?_
  refine TN.seq ?_
  refine TC.seq ?_
  refine TC.region ?_
  refine TL.op (yq (y_move (ev_t rfl))) rfl rfl rfl ?_
  refine TL.op (yq (y_nilp (ev_t rfl))) rfl rfl rfl ?_
  refine TL.op (yq (y_fa (fa_70_1 gx) (ev_t rfl))) rfl rfl rfl ?_
  refine TL.op (yq (y_ldk (ev_t rfl) one_22 hx rfl)) rfl rfl rfl ?_
  refine TL.op (yq (y_move (ev_t rfl))) rfl rfl rfl ?_
  refine TL.op (y_call (vs := [vx1, va, (.func (.func 108) #[] ([] : List Value).toArray)]) (v := (.tuple #[(.int .i64 ((F_slices_BinarySearchFunc_SSint_Sint_Sint xc1 a (fun b c => F_impl_works_index_1 b c )).1)), (.bool ((F_slices_BinarySearchFunc_SSint_Sint_Sint xc1 a (fun b c => F_impl_works_index_1 b c )).2))])) en_107 ⟨(ev_t rfl), (ev_t rfl), ev_f, trivial⟩ (fun w hw => slices_BinarySearchFunc_SSint_Sint_Sint_ok w vx1 ux1 xc1 ((rii_arg hrx1) w hw) va a ((ri_arg ha) w hw) 108 [] (fun b c => F_impl_works_index_1 b c ) en_108 (fun w2 hb vb b hb vc c hc => impl_works_index_1_ok w2 vb b hb vc c hc ) (by first | assumption | omega | grind))) rfl rfl rfl ?_
  refine TL.op (yq (y_move (ev_t rfl))) rfl rfl rfl ?_
  refine TL.op (yq (y_extract (ev_t rfl) rfl)) rfl rfl rfl ?_
  refine TL.op (yq (y_extract (ev_t rfl) rfl)) rfl rfl rfl ?_
  refine TL.op (yq (y_assign (ev_t rfl))) rfl rfl rfl ?_
  refine TL.op (yq (y_assign (ev_t rfl))) rfl rfl rfl ?_
  refine TL.nil ?_
  refine TN.seq ?_
  refine TC.seq ?_
  refine TC.region ?_
  refine TL.op (yq (y_move (ev_t rfl))) rfl rfl rfl ?_
  refine TL.op (yq (y_assign (ev_t rfl))) rfl rfl rfl ?_
  refine TL.nil ?_
  refine TN.seq ?_
  refine TC.ret ?_
  subst hF
  exact TN.ret1 rfl (ev_t rfl) (fun w' hw => ⟨rfl, hw⟩)

set_option maxRecDepth 4000 in
set_option maxHeartbeats 1000000 in
theorem impl_works_next_ok (w : World) (gx : Nat) (vx0 : Value) (vx1 : Value) (ux1 : List Value) (xc1 : List (List Int)) (vx2 : Value) (ux2 : List Value) (xc2 : List (List Int)) (hx : BlkAt w gx [vx0, vx1, vx2]) (hrx1 : RII w vx1 ux1 xc1) (hrx2 : RII w vx2 ux2 xc2) (vwk : Value) (wk : List Int) (hwk : RI w vwk wk) (r : Int) (hp0 : Wd xc1 xc2) (hp1 : wk.length = xc1.length) (hp2 : ∀ i, 0 ≤ wk.getD i 0 ∧ wk.getD i 0 ≤ 1073741824) :
    Calls Try.prog 83 ([(.pointer (some ⟨gx, 0, none⟩)), vwk, (.int .i64 r)] : List Value).toArray w (fun e w' => ∃ i : Value, e = .returned i ∧ Hp w [rowI 3 i (F_impl_works_next xc1 xc2 wk r)] w') := by
  obtain ⟨rz, hF⟩ : ∃ rz, (F_impl_works_next xc1 xc2 wk r) = rz := ⟨_, rfl⟩
  rw [hF]
  unfold F_impl_works_next at hF
  have hdl := hp0.len
  have h56 := hp0.n56
  have hlen_x1 := argT_len hrx1
  have hlen_x2 := argT_len hrx2
  have hlen_wk := arg_len hwk
  refine calls_tc Try.func83 rfl rfl rfl ?_
  change TC _ _ _ _ (Hp w []) [(0, (.pointer (some ⟨gx, 0, none⟩))), (1, vwk), (2, (.int .i64 r))]
  refine TC.seq ?_
  refine TC.region ?_
  refine TL.op (yq (y_assign ev_c)) rfl rfl rfl ?_
  refine TL.nil ?_
  refine TN.seq ?_
  refine TC.seq ?_
  refine TC.region ?_
  refine TL.buildI (zs := [.const (.int .i64 1073741824)]) (qs := [1073741824]) slT_25 rfl ⟨ev_c, trivial⟩ rfl (by decide) rfl (fun v1_0 => ?_)
  refine TL.op (yq (y_move (ev_t rfl))) rfl rfl rfl ?_
  refine TL.op (yq (y_len (ev_t rfl) Try.underlying25 (fun w hw => ((ri_arg hwk) w hw).ln))) rfl rfl rfl ?_
  refine TL.callr (ι := Value) (vs := [v1_0, (.int .i64 (wk.length : Int))]) (fun i => i) (fun i => [rowI 3 i (F_slices_Repeat_Sint_int ([1073741824]) (wk.length : Int))]) en_82 ⟨(ev_t rfl), (ev_t rfl), trivial⟩ rfl (fun w hw => slices_Repeat_Sint_int_ok w v1_0 ([1073741824]) ((ri_row 0 rfl) w hw) (wk.length : Int) (by first | omega | rfl) (by first | omega | rfl) (by first | omega | rfl)) (fun r1_3 => ?_)
  refine TL.op (yq (y_assign (ev_t rfl))) rfl rfl rfl ?_
  refine TL.nil ?_
  refine TN.seq ?_
  refine TC.seq ?_
  refine TC.seq ?_
  refine TC.region ?_
  refine TL.op (yq (y_move (ev_t rfl))) rfl rfl rfl ?_
  refine TL.op (yq (y_nilp (ev_t rfl))) rfl rfl rfl ?_
  refine TL.op (yq (y_fa (fa_70_1 gx) (ev_t rfl))) rfl rfl rfl ?_
  refine TL.op (yq (y_ldk (ev_t rfl) one_22 hx rfl)) rfl rfl rfl ?_
  refine TL.op (yq (y_len (ev_t rfl) Try.underlying22 (fun w hw => ((fun w hw => ((rii_arg hrx1) w hw).1) w hw).ln))) rfl rfl rfl ?_
  refine TL.op (yq (y_move ev_c)) rfl rfl rfl ?_
  refine TL.nil ?_
  refine TN.seq ?_
  refine TC.block ?_
  obtain ⟨c59, hc60⟩ : ∃ c, F_impl_works_next_L1 xc1 xc2 wk r ((xc1.length - 0) + 1) (0, (F_slices_Repeat_Sint_int ([1073741824]) (wk.length : Int))) = c := ⟨_, rfl⟩
  rw [hc60] at hF
  refine TC.loop (ι := Nat × Nat × List Int) (fun (fu1, k20_1, out1) => [(0, (.pointer (some ⟨gx, 0, none⟩))), (1, vwk), (2, (.int .i64 r)), (7, r1_3), (18, vx1), (19, (.int .i64 (xc1.length : Int))), (20, (.int .i64 (k20_1 : Int)))]) (fun (fu1, k20_1, out1) => Hp w [rowI 3 r1_3 out1]) (fun (fu1, k20_1, out1) => (k20_1 ≤ xc1.length) ∧ (out1.length = wk.length) ∧ (∀ i, 0 ≤ out1.getD i 0 ∧ out1.getD i 0 ≤ 1073741824) ∧ xc1.length - k20_1 < fu1 ∧ F_impl_works_next_L1 xc1 xc2 wk r fu1 (k20_1, out1) = c59) (fun (fu1, k20_1, out1) => fu1) ((xc1.length - 0) + 1, 0, (F_slices_Repeat_Sint_int ([1073741824]) (wk.length : Int))) ⟨(by first | omega | (simp [-List.getD_eq_getElem?_getD] <;> omega)), (by rw [repeat_eq _ _ (by omega) (by omega)]; simp), (rep_bd (by omega)), (by omega), hc60⟩ ⟨rfl, rfl, rfl, rfl, rfl, rfl, rfl, trivial⟩ (fun w hw => Hp.sublist hw (.cons_cons _ (.cons _ .slnil))) ?_
  rintro ⟨fu1, k20_1, out1⟩ hJ1
  obtain ⟨hi1_0, hi1_1, hi1_2, hmu1, hL1⟩ : (k20_1 ≤ xc1.length) ∧ (out1.length = wk.length) ∧ (∀ i, 0 ≤ out1.getD i 0 ∧ out1.getD i 0 ≤ 1073741824) ∧ xc1.length - k20_1 < fu1 ∧ F_impl_works_next_L1 xc1 xc2 wk r fu1 (k20_1, out1) = c59 := hJ1
  change TC _ _ _ _ (Hp w [rowI 3 r1_3 out1]) [(0, (.pointer (some ⟨gx, 0, none⟩))), (1, vwk), (2, (.int .i64 r)), (7, r1_3), (18, vx1), (19, (.int .i64 (xc1.length : Int))), (20, (.int .i64 (k20_1 : Int)))]
  obtain ⟨mf1, rfl⟩ : ∃ m, fu1 = m + 1 := ⟨fu1 - 1, by omega⟩
  rw [F_impl_works_next_L1_s] at hL1
  have hwj := hp2 k20_1
  have hrj := hp0.row k20_1
  refine TC.seq ?_
  refine TC.region ?_
  refine TL.op (yq (y_lss (ev_t rfl) (ev_t rfl))) rfl rfl rfl ?_
  refine TL.nil ?_
  refine TN.seq ?_
  refine TC.seq ?_
  refine TC.cond (b := decide ((k20_1 : Int) < (xc1.length : Int))) (ev_t rfl) (fun h61 => ?_) (fun h61 => ?_)
  · rw [bif_pos h61] at hL1
    have q62 := (of_decide_eq_true h61)
    refine TC.skip ?_
    refine TN.seq ?_
    refine TC.seq ?_
    refine TC.block ?_
    refine TC.seq ?_
    refine TC.region ?_
    refine TL.op (yq (y_move (ev_t rfl))) rfl rfl rfl ?_
    have hb63 : k20_1 < xc1.length := (by first | omega | (simp only [List.length_set, List.length_append, List.length_cons, List.length_nil, List.length_replicate]; omega) | (rw [sortI_length]; simp only [List.length_cons, List.length_nil]; omega))
    refine TL.op (yq (y_idx (k := k20_1) (ev_t rfl) (ev_t rfl) (by first | omega | simp) slT_22 (fun w hw => ((rii_arg hrx1) w hw).1) hb63)) rfl rfl rfl ?_
    have ha64 := hrx1.row (i := k20_1) hb63
    refine TL.op (yq (y_ldA (ev_t rfl) one_25 (rii_arg hrx1) hb63)) rfl rfl rfl ?_
    refine TL.op (yq (y_assign (ev_t rfl))) rfl rfl rfl ?_
    refine TL.op (yq (y_assign (ev_t rfl))) rfl rfl rfl ?_
    refine TL.nil ?_
    refine TN.seq ?_
    refine TC.seq ?_
    refine TC.seq ?_
    refine TC.region ?_
    refine TL.op (yq (y_move (ev_t rfl))) rfl rfl rfl ?_
    refine TL.op (yq (y_move (ev_t rfl))) rfl rfl rfl ?_
    refine TL.op (y_call (vs := [(ux1.getD k20_1 undef), (.int .i64 r)]) (v := (.bool (F_slices_Contains_Sint_int (xc1.getD k20_1 []) r))) en_92 ⟨(ev_t rfl), (ev_t rfl), trivial⟩ (fun w hw => slices_Contains_Sint_int_ok w (ux1.getD k20_1 undef) (xc1.getD k20_1 []) ((ri_arg ha64) w hw) r)) rfl rfl rfl ?_
    refine TL.op (yq (y_not (ev_t rfl))) rfl rfl rfl ?_
    refine TL.nil ?_
    refine TN.seq ?_
    refine TC.cond (b := !(F_slices_Contains_Sint_int (xc1.getD k20_1 []) r)) (ev_t rfl) (fun h65 => ?_) (fun h65 => ?_)
    · rw [bif_pos h65] at hL1
      have q66 := (not_t h65)
      refine TC.exit ?_
      refine TN.thenE ?_
      refine TN.blockH ?_
      refine TN.seq ?_
      refine TC.region ?_
      refine TL.op (yq (y_add (ev_t rfl) ev_c (by unfold In64; omega))) rfl rfl rfl ?_
      refine TL.op (yq (y_move (ev_t rfl))) rfl rfl rfl ?_
      refine TL.nil ?_
      exact TN.hand (mf1, (k20_1 + 1), out1) ⟨(by first | omega | (simp [-List.getD_eq_getElem?_getD] <;> omega)), (by first | exact hi1_1 | exact hi2_1), (by first | exact hi1_2 | exact hi2_2), (by omega), hL1⟩ (Nat.lt_succ_self _) ⟨rfl, rfl, rfl, rfl, rfl, rfl, rfl, trivial⟩ (fun w hw => hw)
    · rw [bif_neg h65] at hL1
      have q66 := (not_f h65)
      refine TC.skip ?_
      refine TN.seq ?_
      refine TC.seq ?_
      refine TC.region ?_
      refine TL.op (yq (y_move (ev_t rfl))) rfl rfl rfl ?_
      refine TL.op (yq (y_len (ev_t rfl) Try.underlying25 (fun w hw => ((ri_row 0 rfl) w hw).ln))) rfl rfl rfl ?_
      refine TL.op (yq (y_move ev_c)) rfl rfl rfl ?_
      refine TL.nil ?_
      refine TN.seq ?_
      refine TC.block ?_
      obtain ⟨c67, hc68⟩ : ∃ c, F_impl_works_next_L2 xc2 wk k20_1 out1 ((out1.length - 0) + 1) (0, out1) = c := ⟨_, rfl⟩
      rw [hc68] at hL1
      refine TC.loop (ι := Nat × Nat × List Int) (fun (fu2, k31_2, out2) => [(0, (.pointer (some ⟨gx, 0, none⟩))), (1, vwk), (2, (.int .i64 r)), (7, r1_3), (8, (.int .i64 (k20_1 : Int))), (18, vx1), (19, (.int .i64 (xc1.length : Int))), (20, (.int .i64 (k20_1 : Int))), (30, (.int .i64 (out1.length : Int))), (31, (.int .i64 (k31_2 : Int)))]) (fun (fu2, k31_2, out2) => Hp w [rowI 3 r1_3 out2]) (fun (fu2, k31_2, out2) => (k31_2 ≤ out1.length) ∧ (out2.length = wk.length) ∧ (∀ i, 0 ≤ out2.getD i 0 ∧ out2.getD i 0 ≤ 1073741824) ∧ out1.length - k31_2 < fu2 ∧ F_impl_works_next_L2 xc2 wk k20_1 out1 fu2 (k31_2, out2) = c67) (fun (fu2, k31_2, out2) => fu2) ((out1.length - 0) + 1, 0, out1) ⟨(by first | omega | (simp [-List.getD_eq_getElem?_getD] <;> omega)), hi1_1, hi1_2, (by omega), hc68⟩ ⟨rfl, rfl, rfl, rfl, rfl, rfl, rfl, rfl, rfl, rfl, trivial⟩ (fun w hw => hw) ?_
      rintro ⟨fu2, k31_2, out2⟩ hJ2
      obtain ⟨hi2_0, hi2_1, hi2_2, hmu2, hL2⟩ : (k31_2 ≤ out1.length) ∧ (out2.length = wk.length) ∧ (∀ i, 0 ≤ out2.getD i 0 ∧ out2.getD i 0 ≤ 1073741824) ∧ out1.length - k31_2 < fu2 ∧ F_impl_works_next_L2 xc2 wk k20_1 out1 fu2 (k31_2, out2) = c67 := hJ2
      change TC _ _ _ _ (Hp w [rowI 3 r1_3 out2]) [(0, (.pointer (some ⟨gx, 0, none⟩))), (1, vwk), (2, (.int .i64 r)), (7, r1_3), (8, (.int .i64 (k20_1 : Int))), (18, vx1), (19, (.int .i64 (xc1.length : Int))), (20, (.int .i64 (k20_1 : Int))), (30, (.int .i64 (out1.length : Int))), (31, (.int .i64 (k31_2 : Int)))]
      obtain ⟨mf2, rfl⟩ : ∃ m, fu2 = m + 1 := ⟨fu2 - 1, by omega⟩
      rw [F_impl_works_next_L2_s] at hL2
      have ho := hi2_2 k31_2
      have hke := hp0.el k20_1 k31_2
      refine TC.seq ?_
      refine TC.region ?_
      refine TL.op (yq (y_lss (ev_t rfl) (ev_t rfl))) rfl rfl rfl ?_
      refine TL.nil ?_
      refine TN.seq ?_
      refine TC.seq ?_
      refine TC.cond (b := decide ((k31_2 : Int) < (out1.length : Int))) (ev_t rfl) (fun h69 => ?_) (fun h69 => ?_)
      · rw [bif_pos h69] at hL2
        have q70 := (of_decide_eq_true h69)
        refine TC.skip ?_
        refine TN.seq ?_
        refine TC.seq ?_
        refine TC.block ?_
        refine TC.seq ?_
        refine TC.region ?_
        refine TL.op (yq (y_move (ev_t rfl))) rfl rfl rfl ?_
        refine TL.op (yq (y_assign (ev_t rfl))) rfl rfl rfl ?_
        refine TL.nil ?_
        refine TN.seq ?_
        refine TC.regionT 23 (by kernel_rfl) (by kernel_rfl) dr_hp ?_
        refine TQ.op (yq (y_move (ev_t rfl))) rfl rfl rfl ?_
        refine TQ.op (yq (y_move (ev_t rfl))) rfl rfl rfl ?_
        refine TQ.op (yq (y_move (ev_t rfl))) rfl rfl rfl ?_
        refine TQ.op (yq (y_move (ev_t rfl))) rfl rfl rfl ?_
        have hb71 : k31_2 < out2.length := (by first | omega | (simp only [List.length_set, List.length_append, List.length_cons, List.length_nil, List.length_replicate]; omega) | (rw [sortI_length]; simp only [List.length_cons, List.length_nil]; omega))
        refine TQ.op (yq (y_idx (k := k31_2) (ev_t rfl) (ev_t rfl) (by first | omega | simp) slT_25 (ri_row 0 rfl) hb71)) rfl rfl rfl ?_
        refine TQ.op (yq (y_ldi (ev_t rfl) one_3 (ri_row 0 rfl) hb71)) rfl rfl rfl ?_
        refine TQ.op (yq (y_move (ev_t rfl))) rfl rfl rfl ?_
        refine TQ.op (yq (y_move (ev_t rfl))) rfl rfl rfl ?_
        have hb72 : k20_1 < wk.length := (by first | omega | (simp only [List.length_set, List.length_append, List.length_cons, List.length_nil, List.length_replicate]; omega) | (rw [sortI_length]; simp only [List.length_cons, List.length_nil]; omega))
        refine TQ.op (yq (y_idx (k := k20_1) (ev_t rfl) (ev_t rfl) (by first | omega | simp) slT_25 (ri_arg hwk) hb72)) rfl rfl rfl ?_
        refine TQ.op (yq (y_ldi (ev_t rfl) one_3 (ri_arg hwk) hb72)) rfl rfl rfl ?_
        refine TQ.op (yq (y_move (ev_t rfl))) rfl rfl rfl ?_
        refine TQ.op (yq (y_nilp (ev_t rfl))) rfl rfl rfl ?_
        refine TQ.op (yq (y_fa (fa_70_2 gx) (ev_t rfl))) rfl rfl rfl ?_
        refine TQ.op (yq (y_ldk (ev_t rfl) one_22 hx rfl)) rfl rfl rfl ?_
        refine TQ.op (yq (y_move (ev_t rfl))) rfl rfl rfl ?_
        have hb73 : k20_1 < xc2.length := (by first | omega | (simp only [List.length_set, List.length_append, List.length_cons, List.length_nil, List.length_replicate]; omega) | (rw [sortI_length]; simp only [List.length_cons, List.length_nil]; omega))
        refine TQ.op (yq (y_idx (k := k20_1) (ev_t rfl) (ev_t rfl) (by first | omega | simp) slT_22 (fun w hw => ((rii_arg hrx2) w hw).1) hb73)) rfl rfl rfl ?_
        have ha74 := hrx2.row (i := k20_1) hb73
        refine TQ.op (yq (y_ldA (ev_t rfl) one_25 (rii_arg hrx2) hb73)) rfl rfl rfl ?_
        refine TQ.op (yq (y_move (ev_t rfl))) rfl rfl rfl ?_
        have hb75 : k31_2 < (xc2.getD k20_1 []).length := (by first | omega | (simp only [List.length_set, List.length_append, List.length_cons, List.length_nil, List.length_replicate]; omega) | (rw [sortI_length]; simp only [List.length_cons, List.length_nil]; omega))
        refine TQ.op (yq (y_idx (k := k31_2) (ev_t rfl) (ev_t rfl) (by first | omega | simp) slT_25 (ri_arg ha74) hb75)) rfl rfl rfl ?_
        refine TQ.op (yq (y_ldi (ev_t rfl) one_3 (ri_arg ha74) hb75)) rfl rfl rfl ?_
        refine TQ.op (yq (y_add (ev_t rfl) (ev_t rfl) (by unfold In64; omega))) rfl rfl rfl ?_
        refine TQ.op (yq (y_min (ev_t rfl) (ev_t rfl))) rfl rfl rfl ?_
        have hb76 : k31_2 < out2.length := (by first | omega | (simp only [List.length_set, List.length_append, List.length_cons, List.length_nil, List.length_replicate]; omega) | (rw [sortI_length]; simp only [List.length_cons, List.length_nil]; omega))
        refine TQ.op (yq (y_idx (k := k31_2) (ev_t rfl) (ev_t rfl) (by first | omega | simp) slT_25 (ri_row 0 rfl) hb76)) rfl rfl rfl ?_
        refine TQ.tail ?_
        refine TL.storeI 0 (ev_t rfl) (ev_t rfl) one_3 rfl hb76 ?_
        refine TL.nil ?_
        refine TN.blockN ?_
        refine TN.seq ?_
        refine TC.region ?_
        refine TL.op (yq (y_add (ev_t rfl) ev_c (by unfold In64; omega))) rfl rfl rfl ?_
        refine TL.op (yq (y_move (ev_t rfl))) rfl rfl rfl ?_
        refine TL.nil ?_
        exact TN.hand (mf2, (k31_2 + 1), (out2.set k31_2 (min (out2.getD k31_2 0) ((wk.getD k20_1 0) + ((xc2.getD k20_1 []).getD k31_2 0))))) ⟨(by first | omega | (simp [-List.getD_eq_getElem?_getD] <;> omega)), (by simp only [List.length_set]; exact hi2_1), (set_bd hi2_2 (by omega)), (by omega), hL2⟩ (Nat.lt_succ_self _) ⟨rfl, rfl, rfl, rfl, rfl, rfl, rfl, rfl, rfl, rfl, trivial⟩ (fun w hw => hw)
      · rw [bif_neg h69] at hL2
        have q70 := (of_decide_eq_false h69)
        refine TC.exit ?_
        refine TN.thenE ?_
        refine TN.thenE ?_
        rw [← hL2, elim_next] at hL1
        try dsimp only at hL1
        refine TN.blockH ?_
        refine TN.blockN ?_
        refine TN.seq ?_
        refine TC.region ?_
        refine TL.op (yq (y_add (ev_t rfl) ev_c (by unfold In64; omega))) rfl rfl rfl ?_
        refine TL.op (yq (y_move (ev_t rfl))) rfl rfl rfl ?_
        refine TL.nil ?_
        exact TN.hand (mf1, (k20_1 + 1), out2) ⟨(by first | omega | (simp [-List.getD_eq_getElem?_getD] <;> omega)), (by first | exact hi1_1 | exact hi2_1), (by first | exact hi1_2 | exact hi2_2), (by omega), hL1⟩ (Nat.lt_succ_self _) ⟨rfl, rfl, rfl, rfl, rfl, rfl, rfl, trivial⟩ (fun w hw => hw)
  · rw [bif_neg h61] at hL1
    have q62 := (of_decide_eq_false h61)
    refine TC.exit ?_
    refine TN.thenE ?_
    refine TN.thenE ?_
    rw [← hL1, elim_next] at hF
    try dsimp only at hF
    refine TN.blockH ?_
    refine TN.seq ?_
    refine TC.seq ?_
    refine TC.region ?_
    refine TL.op (yq (y_move (ev_t rfl))) rfl rfl rfl ?_
    refine TL.op (yq (y_assign (ev_t rfl))) rfl rfl rfl ?_
    refine TL.nil ?_
    refine TN.seq ?_
    refine TC.ret ?_
    subst hF
    exact TN.ret1 rfl (ev_t rfl) (fun w' hw => ⟨r1_3, rfl, hw⟩)

set_option maxRecDepth 4000 in
set_option maxHeartbeats 1000000 in
theorem impl_LeastSchedule_ok (w : World) (vm : Value) (um : List Value) (m : List (List Int)) (hm : RII w vm um m) (va : Value) (a : List Int) (ha : RI w va a) (vreqs : Value) (reqs : List Int) (hreqs : RI w vreqs reqs)  :
    Calls Try.prog 49 ([(.agg #[vm]), va, vreqs] : List Value).toArray w (fun e w' => ∃ i : Value × List Value, e = .returned (.tuple #[i.1, (.bool ((F_impl_LeastSchedule m a reqs).2))]) ∧ Hp w [tabI 25 3 i.1 i.2 ((F_impl_LeastSchedule m a reqs).1)] w') := by
  obtain ⟨rz, hF⟩ : ∃ rz, (F_impl_LeastSchedule m a reqs) = rz := ⟨_, rfl⟩
  rw [hF]
  unfold F_impl_LeastSchedule at hF
  have hlen_m := argT_len hm
  have hlen_a := arg_len ha
  have hlen_reqs := arg_len hreqs
  refine calls_tc Try.func49 rfl rfl rfl ?_
  change TC _ _ _ _ (Hp w []) [(0, (.agg #[vm])), (1, va), (2, vreqs)]
  refine TC.seq ?_
  refine TC.region ?_
  refine TL.box (ev_t rfl) rfl (fun g0_0 => ?_)
  refine TL.op (yq (y_assign ev_c)) rfl rfl rfl ?_
  refine TL.op (yq (y_assign ev_c)) rfl rfl rfl ?_
  refine TL.nil ?_
  refine TN.seq ?_
  refine TC.seq ?_
  refine TC.seq ?_
  refine TC.region ?_
  refine TL.op (yq (y_ldagg (cs := [vm]) 0 (ev_t rfl) agg_29 rfl)) rfl rfl rfl ?_
  refine TL.op (yq (y_move (ev_t rfl))) rfl rfl rfl ?_
  refine TL.op (yq (y_move (ev_t rfl))) rfl rfl rfl ?_
  refine TL.op (y_call (vs := [(.agg #[vm]), va, vreqs]) (v := (.bool (F_impl_isServed m a reqs))) en_67 ⟨(ev_t rfl), (ev_t rfl), (ev_t rfl), trivial⟩ (fun w hw => impl_isServed_ok w vm um m ((rii_arg hm) w hw) va a ((ri_arg ha) w hw) vreqs reqs ((ri_arg hreqs) w hw))) rfl rfl rfl ?_
  refine TL.op (yq (y_not (ev_t rfl))) rfl rfl rfl ?_
  refine TL.nil ?_
  refine TN.seq ?_
  refine TC.cond (b := !(F_impl_isServed m a reqs)) (ev_t rfl) (fun h51 => ?_) (fun h51 => ?_)
  · rw [bif_pos h51] at hF
    have q52 := (not_t h51)
    refine TC.seq ?_
    refine TC.region ?_
    refine TL.op (yq (y_assign ev_c)) rfl rfl rfl ?_
    refine TL.op (yq (y_assign ev_c)) rfl rfl rfl ?_
    refine TL.nil ?_
    refine TN.seq ?_
    refine TC.ret ?_
    refine TN.thenR ?_
    subst hF
    refine TN.cls (fun w hw => hw.nilTab 25 3) ?_
    exact TN.ret2 rfl (ev_t rfl) (ev_t rfl) (fun w' hw => ⟨((.slice none 0 0), []), rfl, Hp.sublist hw (.cons_cons _ (.cons _ .slnil))⟩)
  · rw [bif_neg h51] at hF
    have q52 := (isServed_t (not_f h51))
    have hS := q52
    have hKs := hS.ks
    have hWd := hKs.wd
    have hix := hKs.index_lt hS.cf rfl
    have h56 := hWd.n56
    have hn1 := hWd.n1
    have hdl := hWd.len
    have hr60 := hS.r60
    refine TC.skip ?_
    refine TN.seq ?_
    refine TC.seq ?_
    refine TC.region ?_
    refine TL.op (yq (y_ldagg (cs := [vm]) 0 (ev_t rfl) agg_29 rfl)) rfl rfl rfl ?_
    refine TL.op (yq (y_move (ev_t rfl))) rfl rfl rfl ?_
    refine TL.op (yq (y_len (ev_t rfl) Try.underlying25 (fun w hw => ((ri_arg ha) w hw).ln))) rfl rfl rfl ?_
    refine TL.callr (ι := Nat × Value × Value × List Value × Value × List Value) (vs := [(.agg #[vm]), (.int .i64 (a.length : Int))]) (fun i => (.pointer (some ⟨i.1, 0, none⟩))) (fun i => [.blk i.1 70 [i.2.1, i.2.2.1, i.2.2.2.2.1], tabI 25 3 i.2.2.1 i.2.2.2.1 ((F_impl_worksOf m (a.length : Int)).1), tabI 25 3 i.2.2.2.2.1 i.2.2.2.2.2 ((F_impl_worksOf m (a.length : Int)).2)]) en_56 ⟨(ev_t rfl), (ev_t rfl), trivial⟩ rfl (fun w hw => impl_worksOf_ok w vm um m ((rii_arg hm) w hw) (a.length : Int) (by first | assumption | omega | grind)) (fun r3_3 => ?_)
    refine TL.op (yq (y_assign (ev_t rfl))) rfl rfl rfl ?_
    refine TL.nil ?_
    refine TN.seq ?_
    refine TC.seq ?_
    refine TC.region ?_
    refine TL.op (yq (y_move (ev_t rfl))) rfl rfl rfl ?_
    refine TL.op (yq (y_len (ev_t rfl) Try.underlying25 (fun w hw => ((ri_arg hreqs) w hw).ln))) rfl rfl rfl ?_
    refine TL.op (yq (y_add (ev_t rfl) ev_c (by unfold In64; omega))) rfl rfl rfl ?_
    refine TL.makeSlice (n := (reqs.length + 1)) (ev_t rfl) (ev_t rfl) (by omega) slT_22 rfl (by omega) (by unfold maxLen; omega) rfl (fun v4_3 => ?_)
    refine TL.cls (fun w hw => hw.madeTab 3) ?_
    refine TL.op (yq (y_assign (ev_t rfl))) rfl rfl rfl ?_
    refine TL.nil ?_
    refine TN.seq ?_
    refine TC.seq ?_
    refine TC.region ?_
    refine TL.op (yq (y_move (ev_t rfl))) rfl rfl rfl ?_
    refine TL.op (yq (y_move (ev_t rfl))) rfl rfl rfl ?_
    refine TL.op (yq (y_len (ev_t rfl) Try.underlying25 (fun w hw => ((ri_arg hreqs) w hw).ln))) rfl rfl rfl ?_
    refine TL.op (yq (y_move (ev_t rfl))) rfl rfl rfl ?_
    refine TL.op (yq (y_nilp (ev_t rfl))) rfl rfl rfl ?_
    refine TL.op (yq (y_fa (fa_70_1 r3_3.1) (ev_t rfl))) rfl rfl rfl ?_
    refine TL.op (yq (y_ldb 1 (ev_t rfl) one_22 rfl rfl)) rfl rfl rfl ?_
    refine TL.op (yq (y_len (ev_t rfl) Try.underlying22 (fun w hw => ((fun w hw => ((rii_tab 2 rfl) w hw).1) w hw).ln))) rfl rfl rfl ?_
    refine TL.makeSlice (n := (F_impl_worksOf m (a.length : Int)).1.length) (ev_t rfl) (ev_t rfl) (by omega) slT_25 rfl (by omega) (by unfold maxLen; omega) rfl (fun v5_8 => ?_)
    refine TL.cls (fun w hw => hw.zeros) ?_
    have hb54 : reqs.length < (List.replicate (reqs.length + 1) ([] : List Int)).length := (by first | omega | (simp only [List.length_set, List.length_append, List.length_cons, List.length_nil, List.length_replicate]; omega) | (rw [sortI_length]; simp only [List.length_cons, List.length_nil]; omega))
    refine TL.op (yq (y_idx (k := reqs.length) (ev_t rfl) (ev_t rfl) (by first | omega | simp) slT_22 (fun w hw => ((rii_tab 1 rfl) w hw).1) hb54)) rfl rfl rfl ?_
    refine TL.storeU 1 0 rfl (ev_t rfl) (ev_t rfl) one_25 rfl rfl hb54 ?_
    refine TL.nil ?_
    refine TN.seq ?_
    refine TC.seq ?_
    refine TC.seq ?_
    refine TC.region ?_
    refine TL.op (yq (y_move (ev_t rfl))) rfl rfl rfl ?_
    refine TL.op (yq (y_len (ev_t rfl) Try.underlying25 (fun w hw => ((ri_arg hreqs) w hw).ln))) rfl rfl rfl ?_
    refine TL.op (yq (y_sub (ev_t rfl) ev_c (by unfold In64; omega))) rfl rfl rfl ?_
    refine TL.op (yq (y_assign (ev_t rfl))) rfl rfl rfl ?_
    refine TL.nil ?_
    refine TN.seq ?_
    refine TC.block ?_
    obtain ⟨c55, hc56⟩ : ∃ c, F_impl_LeastSchedule_L1 m a reqs (((((reqs.length : Int) - 1) + 1).toNat) + 1) (((reqs.length : Int) - 1), ((List.replicate (reqs.length + 1) ([] : List Int)).set reqs.length (List.replicate ((F_impl_worksOf m (a.length : Int)).1.length) (0 : Int)))) = c := ⟨_, rfl⟩
    rw [hc56] at hF
    refine TC.loop (ι := Nat × Int × List (List Int) × List Value) (fun (fu1, k10_1, m0_1, um0_1) => [(1, va), (2, vreqs), (8, (.pointer (some ⟨r3_3.1, 0, none⟩))), (9, v4_3), (10, (.int .i64 k10_1))]) (fun (fu1, k10_1, m0_1, um0_1) => Hp w [tabI 25 3 v4_3 um0_1 m0_1, .blk r3_3.1 70 [r3_3.2.1, r3_3.2.2.1, r3_3.2.2.2.2.1], tabI 25 3 r3_3.2.2.1 r3_3.2.2.2.1 ((F_impl_worksOf m (a.length : Int)).1), tabI 25 3 r3_3.2.2.2.2.1 r3_3.2.2.2.2.2 ((F_impl_worksOf m (a.length : Int)).2)]) (fun (fu1, k10_1, m0_1, um0_1) => (k10_1 < reqs.length) ∧ (-1 ≤ k10_1) ∧ (m0_1.length = reqs.length + 1) ∧ (Ltr (F_impl_worksOf m (a.length : Int)).1.length k10_1 reqs.length m0_1) ∧ (k10_1 + 1).toNat < fu1 ∧ F_impl_LeastSchedule_L1 m a reqs fu1 (k10_1, m0_1) = c55) (fun (fu1, k10_1, m0_1, um0_1) => fu1) (((((reqs.length : Int) - 1) + 1).toNat) + 1, (reqs.length : Int) - 1, ((List.replicate (reqs.length + 1) ([] : List Int)).set reqs.length (List.replicate ((F_impl_worksOf m (a.length : Int)).1.length) (0 : Int))), ((List.replicate (reqs.length + 1) (.slice none 0 0)).set reqs.length v5_8)) ⟨(by first | omega | (simp [-List.getD_eq_getElem?_getD] <;> omega)), (by first | omega | (simp [-List.getD_eq_getElem?_getD] <;> omega)), (by simp), (ltr_init _ _), (by omega), hc56⟩ ⟨rfl, rfl, rfl, rfl, rfl, trivial⟩ (fun w hw => Hp.sublist hw (.cons _ (.cons_cons _ (.cons_cons _ (.cons_cons _ (.cons_cons _ (.cons _ .slnil))))))) ?_
    rintro ⟨fu1, k10_1, m0_1, um0_1⟩ hJ1
    obtain ⟨hi1_0, hi1_1, hi1_2, hi1_3, hmu1, hL1⟩ : (k10_1 < reqs.length) ∧ (-1 ≤ k10_1) ∧ (m0_1.length = reqs.length + 1) ∧ (Ltr (F_impl_worksOf m (a.length : Int)).1.length k10_1 reqs.length m0_1) ∧ (k10_1 + 1).toNat < fu1 ∧ F_impl_LeastSchedule_L1 m a reqs fu1 (k10_1, m0_1) = c55 := hJ1
    change TC _ _ _ _ (Hp w [tabI 25 3 v4_3 um0_1 m0_1, .blk r3_3.1 70 [r3_3.2.1, r3_3.2.2.1, r3_3.2.2.2.2.1], tabI 25 3 r3_3.2.2.1 r3_3.2.2.2.1 ((F_impl_worksOf m (a.length : Int)).1), tabI 25 3 r3_3.2.2.2.2.1 r3_3.2.2.2.2.2 ((F_impl_worksOf m (a.length : Int)).2)]) [(1, va), (2, vreqs), (8, (.pointer (some ⟨r3_3.1, 0, none⟩))), (9, v4_3), (10, (.int .i64 k10_1))]
    obtain ⟨mf1, rfl⟩ : ∃ m, fu1 = m + 1 := ⟨fu1 - 1, by omega⟩
    rw [F_impl_LeastSchedule_L1_s] at hL1
    have hlr := hi1_3 (k10_1 + 1).toNat (by omega) (by omega)
    have hlr1 := hlr.1
    have hlr2 := hlr.2
    refine TC.seq ?_
    refine TC.seq ?_
    refine TC.region ?_
    refine TL.op (yq (y_move (ev_t rfl))) rfl rfl rfl ?_
    refine TL.op (yq (y_geq (ev_t rfl) ev_c)) rfl rfl rfl ?_
    refine TL.nil ?_
    refine TN.seq ?_
    refine TC.cond (b := decide (0 ≤ k10_1)) (ev_t rfl) (fun h57 => ?_) (fun h57 => ?_)
    · rw [bif_pos h57] at hL1
      have q58 := (of_decide_eq_true h57)
      refine TC.skip ?_
      refine TN.seq ?_
      refine TC.seq ?_
      refine TC.block ?_
      refine TC.regionH 15 (Hp w [.blk r3_3.1 70 [r3_3.2.1, r3_3.2.2.1, r3_3.2.2.2.2.1], tabI 25 3 r3_3.2.2.1 r3_3.2.2.2.1 ((F_impl_worksOf m (a.length : Int)).1), tabI 25 3 r3_3.2.2.2.2.1 r3_3.2.2.2.2.2 ((F_impl_worksOf m (a.length : Int)).2)]) rfl (by kernel_rfl) dr_hp (fun w hw => Hp.sublist hw (.cons _ (.cons_cons _ (.cons_cons _ (.cons_cons _ .slnil))))) ?_
      refine TH.take 0 rfl (by kernel_rfl) (y_move (ev_t rfl)) rfl rfl rfl ?_
      refine TH.take 1 rfl (by kernel_rfl) (y_move (ev_t rfl)) rfl rfl rfl ?_
      refine TH.take 2 rfl (by kernel_rfl) (y_move (ev_t rfl)) rfl rfl rfl ?_
      refine TH.take 3 rfl (by kernel_rfl) (y_move (ev_t rfl)) rfl rfl rfl ?_
      refine TH.take 4 rfl (by kernel_rfl) (y_move (ev_t rfl)) rfl rfl rfl ?_
      refine TH.take 5 rfl (by kernel_rfl) (y_add (ev_t rfl) ev_c (by unfold In64; omega)) rfl rfl rfl ?_
      refine TH.take 8 rfl (by kernel_rfl) (y_move (ev_t rfl)) rfl rfl rfl ?_
      refine TH.take 9 rfl (by kernel_rfl) (y_move (ev_t rfl)) rfl rfl rfl ?_
      have hb62 : (k10_1).toNat < reqs.length := (by first | omega | (simp only [List.length_set, List.length_append, List.length_cons, List.length_nil, List.length_replicate]; omega) | (rw [sortI_length]; simp only [List.length_cons, List.length_nil]; omega))
      refine TH.take 10 rfl (by kernel_rfl) (y_idx (k := (k10_1).toNat) (ev_t rfl) (ev_t rfl) (by first | omega | simp) slT_25 (ri_arg hreqs) hb62) rfl rfl rfl ?_
      refine TH.take 11 rfl (by kernel_rfl) (y_ldi (ev_t rfl) one_3 (ri_arg hreqs) hb62) rfl rfl rfl ?_
      refine TH.loud 6 rfl (by kernel_rfl) ?_
      have hb63 : (k10_1 + 1).toNat < m0_1.length := (by first | omega | (simp only [List.length_set, List.length_append, List.length_cons, List.length_nil, List.length_replicate]; omega) | (rw [sortI_length]; simp only [List.length_cons, List.length_nil]; omega))
      refine TL.op (yq (y_idx (k := (k10_1 + 1).toNat) (ev_t rfl) (ev_t rfl) (by first | omega | simp) slT_22 (fun w hw => ((rii_tab 0 rfl) w hw).1) hb63)) rfl rfl rfl ?_
      refine TL.nil ?_
      refine TH.back (fun w hw => Hp.sublist hw (.cons _ (.cons_cons _ (.cons_cons _ (.cons_cons _ .slnil))))) ?_
      refine TH.loud 7 rfl (by kernel_rfl) ?_
      refine TL.op (yq (y_ldT 0 (ev_t rfl) one_25 rfl hb63)) rfl rfl rfl ?_
      refine TL.nil ?_
      refine TH.back (fun w hw => Hp.sublist hw (.cons _ (.cons_cons _ (.cons_cons _ (.cons_cons _ .slnil))))) ?_
      refine TH.loud 12 rfl (by kernel_rfl) ?_
      refine TL.callr (ι := Value) (vs := [(.pointer (some ⟨r3_3.1, 0, none⟩)), (um0_1.getD ((k10_1 + 1).toNat) undef), (.int .i64 (reqs.getD ((k10_1).toNat) 0))]) (fun i => i) (fun i => [rowI 3 i (F_impl_works_next ((F_impl_worksOf m (a.length : Int)).1) ((F_impl_worksOf m (a.length : Int)).2) (m0_1.getD ((k10_1 + 1).toNat) []) (reqs.getD ((k10_1).toNat) 0))]) en_83 ⟨(ev_t rfl), (ev_t rfl), (ev_t rfl), trivial⟩ rfl (fun w hw => impl_works_next_ok w r3_3.1 r3_3.2.1 r3_3.2.2.1 r3_3.2.2.2.1 ((F_impl_worksOf m (a.length : Int)).1) r3_3.2.2.2.2.1 r3_3.2.2.2.2.2 ((F_impl_worksOf m (a.length : Int)).2) (blk_at 1 rfl hw) ((rii_tab 2 rfl) w hw) ((rii_tab 3 rfl) w hw) (um0_1.getD ((k10_1 + 1).toNat) undef) (m0_1.getD ((k10_1 + 1).toNat) []) ((ri_tab 0 ((k10_1 + 1).toNat) rfl hb63) w hw) (reqs.getD ((k10_1).toNat) 0) (by first | assumption | omega | grind) (by first | assumption | omega | grind) (by first | assumption | omega | grind)) (fun r9_12 => ?_)
      refine TL.nil ?_
      refine TH.back (fun w hw => Hp.sublist hw (.cons _ (.cons _ (.cons_cons _ (.cons_cons _ (.cons_cons _ .slnil)))))) ?_
      refine TH.loud 13 rfl (by kernel_rfl) ?_
      have hb64 : (k10_1).toNat < m0_1.length := (by first | omega | (simp only [List.length_set, List.length_append, List.length_cons, List.length_nil, List.length_replicate]; omega) | (rw [sortI_length]; simp only [List.length_cons, List.length_nil]; omega))
      refine TL.op (yq (y_idx (k := (k10_1).toNat) (ev_t rfl) (ev_t rfl) (by first | omega | simp) slT_22 (fun w hw => ((rii_tab 1 rfl) w hw).1) hb64)) rfl rfl rfl ?_
      refine TL.nil ?_
      refine TH.back (fun w hw => Hp.sublist hw (.cons _ (.cons _ (.cons_cons _ (.cons_cons _ (.cons_cons _ .slnil)))))) ?_
      refine TH.loud 14 rfl (by kernel_rfl) ?_
      refine TL.storeU 1 0 rfl (ev_t rfl) (ev_t rfl) one_25 rfl rfl hb64 ?_
      refine TL.nil ?_
      refine TH.back (fun w hw => Hp.sublist hw (.cons _ (.cons _ (.cons_cons _ (.cons_cons _ (.cons_cons _ .slnil)))))) ?_
      refine TH.done (by kernel_rfl) ?_
      refine TN.blockN ?_
      refine TN.seq ?_
      refine TC.region ?_
      refine TL.op (yq (y_move (ev_t rfl))) rfl rfl rfl ?_
      refine TL.op (yq (y_sub (ev_t rfl) ev_c (by unfold In64; omega))) rfl rfl rfl ?_
      refine TL.op (yq (y_assign (ev_t rfl))) rfl rfl rfl ?_
      refine TL.nil ?_
      exact TN.hand (mf1, k10_1 - 1, (m0_1.set ((k10_1).toNat) (F_impl_works_next ((F_impl_worksOf m (a.length : Int)).1) ((F_impl_worksOf m (a.length : Int)).2) (m0_1.getD ((k10_1 + 1).toNat) []) (reqs.getD ((k10_1).toNat) 0))), (um0_1.set ((k10_1).toNat) r9_12)) ⟨(by first | omega | (simp [-List.getD_eq_getElem?_getD] <;> omega)), (by first | omega | (simp [-List.getD_eq_getElem?_getD] <;> omega)), (by simp only [List.length_set]; exact hi1_2), (hi1_3.set (by omega) (by omega) (next_bd hWd hlr1 hlr2 _)), (by omega), hL1⟩ (Nat.lt_succ_self _) ⟨rfl, rfl, rfl, rfl, rfl, trivial⟩ (fun w hw => Hp.sublist hw (.cons _ (.cons_cons _ (.cons_cons _ (.cons_cons _ (.cons_cons _ .slnil))))))
    · rw [bif_neg h57] at hL1
      have q58 := (of_decide_eq_false h57)
      refine TC.exit ?_
      refine TN.thenE ?_
      refine TN.thenE ?_
      rw [← hL1, elim_next] at hF
      try dsimp only at hF
      have hlt : ∀ q : Nat, q ≤ reqs.length → _ := fun q hq => hi1_3 q (by omega) hq
      refine TN.blockH ?_
      refine TN.seq ?_
      refine TC.seq ?_
      refine TC.region ?_
      refine TL.buildSlice (zs := []) (vs := []) slT_22 rfl trivial (by simp) rfl (by decide) rfl (fun v10_0 => ?_)
      refine TL.cls (fun w hw => hw.emptyTab 3) ?_
      refine TL.op (yq (y_assign (ev_t rfl))) rfl rfl rfl ?_
      refine TL.nil ?_
      refine TN.seq ?_
      refine TC.seq ?_
      refine TC.region ?_
      refine TL.op (yq (y_move (ev_t rfl))) rfl rfl rfl ?_
      refine TL.op (yq (y_move (ev_t rfl))) rfl rfl rfl ?_
      refine TL.op (y_call (vs := [(.pointer (some ⟨r3_3.1, 0, none⟩)), va]) (v := (.int .i64 (F_impl_works_index ((F_impl_worksOf m (a.length : Int)).1) ((F_impl_worksOf m (a.length : Int)).2) a))) en_68 ⟨(ev_t rfl), (ev_t rfl), trivial⟩ (fun w hw => impl_works_index_ok w r3_3.1 r3_3.2.1 r3_3.2.2.1 r3_3.2.2.2.1 ((F_impl_worksOf m (a.length : Int)).1) r3_3.2.2.2.2.1 r3_3.2.2.2.2.2 ((F_impl_worksOf m (a.length : Int)).2) (blk_at 2 rfl hw) ((rii_tab 3 rfl) w hw) ((rii_tab 4 rfl) w hw) va a ((ri_arg ha) w hw) (by first | assumption | omega | grind))) rfl rfl rfl ?_
      refine TL.op (yq (y_assign (ev_t rfl))) rfl rfl rfl ?_
      refine TL.nil ?_
      refine TN.seq ?_
      refine TC.seq ?_
      refine TC.seq ?_
      refine TC.region ?_
      refine TL.op (yq (y_move (ev_t rfl))) rfl rfl rfl ?_
      refine TL.op (yq (y_len (ev_t rfl) Try.underlying25 (fun w hw => ((ri_arg hreqs) w hw).ln))) rfl rfl rfl ?_
      refine TL.op (yq (y_move ev_c)) rfl rfl rfl ?_
      refine TL.nil ?_
      refine TN.seq ?_
      refine TC.block ?_
      obtain ⟨c65, hc66⟩ : ∃ c, F_impl_LeastSchedule_L2 m a reqs m0_1 ((reqs.length - 0) + 1) (([]), (F_impl_works_index ((F_impl_worksOf m (a.length : Int)).1) ((F_impl_worksOf m (a.length : Int)).2) a), 0) = c := ⟨_, rfl⟩
      rw [hc66] at hF
      refine TC.loop (ι := Nat × List (List Int) × Int × Nat × Value × List Value) (fun (fu2, k11_2, k12_2, k67_2, vk11_2, uk11_2) => [(8, (.pointer (some ⟨r3_3.1, 0, none⟩))), (9, v4_3), (11, vk11_2), (12, (.int .i64 k12_2)), (65, vreqs), (66, (.int .i64 (reqs.length : Int))), (67, (.int .i64 (k67_2 : Int)))]) (fun (fu2, k11_2, k12_2, k67_2, vk11_2, uk11_2) => Hp w [tabI 25 3 vk11_2 uk11_2 k11_2, tabI 25 3 v4_3 um0_1 m0_1, .blk r3_3.1 70 [r3_3.2.1, r3_3.2.2.1, r3_3.2.2.2.2.1], tabI 25 3 r3_3.2.2.1 r3_3.2.2.2.1 ((F_impl_worksOf m (a.length : Int)).1), tabI 25 3 r3_3.2.2.2.2.1 r3_3.2.2.2.2.2 ((F_impl_worksOf m (a.length : Int)).2)]) (fun (fu2, k11_2, k12_2, k67_2, vk11_2, uk11_2) => (k67_2 ≤ reqs.length) ∧ (0 ≤ k12_2) ∧ (k12_2 < (F_impl_worksOf m (a.length : Int)).1.length) ∧ (k11_2.length ≤ k67_2) ∧ reqs.length - k67_2 < fu2 ∧ F_impl_LeastSchedule_L2 m a reqs m0_1 fu2 (k11_2, k12_2, k67_2) = c65) (fun (fu2, k11_2, k12_2, k67_2, vk11_2, uk11_2) => fu2) ((reqs.length - 0) + 1, [], (F_impl_works_index ((F_impl_worksOf m (a.length : Int)).1) ((F_impl_worksOf m (a.length : Int)).2) a), 0, v10_0, []) ⟨(by first | omega | (simp [-List.getD_eq_getElem?_getD] <;> omega)), (by first | omega | (simp [-List.getD_eq_getElem?_getD] <;> omega)), (by first | omega | (simp [-List.getD_eq_getElem?_getD] <;> omega)), (by first | omega | (simp [-List.getD_eq_getElem?_getD] <;> omega)), (by omega), hc66⟩ ⟨rfl, rfl, rfl, rfl, rfl, rfl, rfl, trivial⟩ (fun w hw => hw) ?_
      rintro ⟨fu2, k11_2, k12_2, k67_2, vk11_2, uk11_2⟩ hJ2
      obtain ⟨hi2_0, hi2_1, hi2_2, hi2_3, hmu2, hL2⟩ : (k67_2 ≤ reqs.length) ∧ (0 ≤ k12_2) ∧ (k12_2 < (F_impl_worksOf m (a.length : Int)).1.length) ∧ (k11_2.length ≤ k67_2) ∧ reqs.length - k67_2 < fu2 ∧ F_impl_LeastSchedule_L2 m a reqs m0_1 fu2 (k11_2, k12_2, k67_2) = c65 := hJ2
      change TC _ _ _ _ (Hp w [tabI 25 3 vk11_2 uk11_2 k11_2, tabI 25 3 v4_3 um0_1 m0_1, .blk r3_3.1 70 [r3_3.2.1, r3_3.2.2.1, r3_3.2.2.2.2.1], tabI 25 3 r3_3.2.2.1 r3_3.2.2.2.1 ((F_impl_worksOf m (a.length : Int)).1), tabI 25 3 r3_3.2.2.2.2.1 r3_3.2.2.2.2.2 ((F_impl_worksOf m (a.length : Int)).2)]) [(8, (.pointer (some ⟨r3_3.1, 0, none⟩))), (9, v4_3), (11, vk11_2), (12, (.int .i64 k12_2)), (65, vreqs), (66, (.int .i64 (reqs.length : Int))), (67, (.int .i64 (k67_2 : Int)))]
      obtain ⟨mf2, rfl⟩ : ∃ m, fu2 = m + 1 := ⟨fu2 - 1, by omega⟩
      rw [F_impl_LeastSchedule_L2_s] at hL2
      have hl0 := hlt k67_2
      have hl1 := fun h => hlt (k67_2 + 1) h
      refine TC.seq ?_
      refine TC.region ?_
      refine TL.op (yq (y_lss (ev_t rfl) (ev_t rfl))) rfl rfl rfl ?_
      refine TL.nil ?_
      refine TN.seq ?_
      refine TC.seq ?_
      refine TC.cond (b := decide ((k67_2 : Int) < (reqs.length : Int))) (ev_t rfl) (fun h67 => ?_) (fun h67 => ?_)
      · rw [bif_pos h67] at hL2
        have q68 := (of_decide_eq_true h67)
        refine TC.skip ?_
        refine TN.seq ?_
        refine TC.seq ?_
        refine TC.block ?_
        refine TC.seq ?_
        refine TC.region ?_
        refine TL.op (yq (y_move (ev_t rfl))) rfl rfl rfl ?_
        have hb69 : k67_2 < reqs.length := (by first | omega | (simp only [List.length_set, List.length_append, List.length_cons, List.length_nil, List.length_replicate]; omega) | (rw [sortI_length]; simp only [List.length_cons, List.length_nil]; omega))
        refine TL.op (yq (y_idx (k := k67_2) (ev_t rfl) (ev_t rfl) (by first | omega | simp) slT_25 (ri_arg hreqs) hb69)) rfl rfl rfl ?_
        refine TL.op (yq (y_ldi (ev_t rfl) one_3 (ri_arg hreqs) hb69)) rfl rfl rfl ?_
        refine TL.op (yq (y_assign (ev_t rfl))) rfl rfl rfl ?_
        refine TL.op (yq (y_assign (ev_t rfl))) rfl rfl rfl ?_
        refine TL.nil ?_
        refine TN.seq ?_
        refine TC.seq ?_
        refine TC.region ?_
        refine TL.op (yq (y_move (ev_t rfl))) rfl rfl rfl ?_
        refine TL.op (yq (y_nilp (ev_t rfl))) rfl rfl rfl ?_
        refine TL.op (yq (y_fa (fa_70_1 r3_3.1) (ev_t rfl))) rfl rfl rfl ?_
        refine TL.op (yq (y_ldb 2 (ev_t rfl) one_22 rfl rfl)) rfl rfl rfl ?_
        refine TL.op (yq (y_len (ev_t rfl) Try.underlying22 (fun w hw => ((fun w hw => ((rii_tab 3 rfl) w hw).1) w hw).ln))) rfl rfl rfl ?_
        refine TL.op (yq (y_move ev_c)) rfl rfl rfl ?_
        refine TL.nil ?_
        refine TN.seq ?_
        refine TC.block ?_
        obtain ⟨c70, hc71⟩ : ∃ c, F_impl_LeastSchedule_L3 m a reqs m0_1 k67_2 ((((F_impl_worksOf m (a.length : Int)).1.length) - 0) + 1) (k11_2, k12_2, 0) = c := ⟨_, rfl⟩
        rw [hc71] at hL2
        refine TC.loop (ι := Nat × List (List Int) × Int × Nat × Value × List Value) (fun (fu3, k11_3, k12_3, k77_3, vk11_3, uk11_3) => [(8, (.pointer (some ⟨r3_3.1, 0, none⟩))), (9, v4_3), (11, vk11_3), (12, (.int .i64 k12_3)), (13, (.int .i64 (k67_2 : Int))), (14, (.int .i64 (reqs.getD k67_2 0))), (65, vreqs), (66, (.int .i64 (reqs.length : Int))), (67, (.int .i64 (k67_2 : Int))), (75, r3_3.2.2.1), (76, (.int .i64 ((F_impl_worksOf m (a.length : Int)).1.length : Int))), (77, (.int .i64 (k77_3 : Int)))]) (fun (fu3, k11_3, k12_3, k77_3, vk11_3, uk11_3) => Hp w [tabI 25 3 vk11_3 uk11_3 k11_3, tabI 25 3 v4_3 um0_1 m0_1, .blk r3_3.1 70 [r3_3.2.1, r3_3.2.2.1, r3_3.2.2.2.2.1], tabI 25 3 r3_3.2.2.1 r3_3.2.2.2.1 ((F_impl_worksOf m (a.length : Int)).1), tabI 25 3 r3_3.2.2.2.2.1 r3_3.2.2.2.2.2 ((F_impl_worksOf m (a.length : Int)).2)]) (fun (fu3, k11_3, k12_3, k77_3, vk11_3, uk11_3) => (k77_3 ≤ ((F_impl_worksOf m (a.length : Int)).1.length)) ∧ (0 ≤ k12_3) ∧ (k12_3 < (F_impl_worksOf m (a.length : Int)).1.length) ∧ (k11_3.length ≤ k67_2) ∧ ((F_impl_worksOf m (a.length : Int)).1.length) - k77_3 < fu3 ∧ F_impl_LeastSchedule_L3 m a reqs m0_1 k67_2 fu3 (k11_3, k12_3, k77_3) = c70) (fun (fu3, k11_3, k12_3, k77_3, vk11_3, uk11_3) => fu3) ((((F_impl_worksOf m (a.length : Int)).1.length) - 0) + 1, k11_2, k12_2, 0, vk11_2, uk11_2) ⟨(by first | omega | (simp [-List.getD_eq_getElem?_getD] <;> omega)), (by first | omega | (simp [-List.getD_eq_getElem?_getD] <;> omega)), (by first | omega | (simp [-List.getD_eq_getElem?_getD] <;> omega)), (by first | omega | (simp [-List.getD_eq_getElem?_getD] <;> omega)), (by omega), hc71⟩ ⟨rfl, rfl, rfl, rfl, rfl, rfl, rfl, rfl, rfl, rfl, rfl, rfl, trivial⟩ (fun w hw => hw) ?_
        rintro ⟨fu3, k11_3, k12_3, k77_3, vk11_3, uk11_3⟩ hJ3
        obtain ⟨hi3_0, hi3_1, hi3_2, hi3_3, hmu3, hL3⟩ : (k77_3 ≤ ((F_impl_worksOf m (a.length : Int)).1.length)) ∧ (0 ≤ k12_3) ∧ (k12_3 < (F_impl_worksOf m (a.length : Int)).1.length) ∧ (k11_3.length ≤ k67_2) ∧ ((F_impl_worksOf m (a.length : Int)).1.length) - k77_3 < fu3 ∧ F_impl_LeastSchedule_L3 m a reqs m0_1 k67_2 fu3 (k11_3, k12_3, k77_3) = c70 := hJ3
        change TC _ _ _ _ (Hp w [tabI 25 3 vk11_3 uk11_3 k11_3, tabI 25 3 v4_3 um0_1 m0_1, .blk r3_3.1 70 [r3_3.2.1, r3_3.2.2.1, r3_3.2.2.2.2.1], tabI 25 3 r3_3.2.2.1 r3_3.2.2.2.1 ((F_impl_worksOf m (a.length : Int)).1), tabI 25 3 r3_3.2.2.2.2.1 r3_3.2.2.2.2.2 ((F_impl_worksOf m (a.length : Int)).2)]) [(8, (.pointer (some ⟨r3_3.1, 0, none⟩))), (9, v4_3), (11, vk11_3), (12, (.int .i64 k12_3)), (13, (.int .i64 (k67_2 : Int))), (14, (.int .i64 (reqs.getD k67_2 0))), (65, vreqs), (66, (.int .i64 (reqs.length : Int))), (67, (.int .i64 (k67_2 : Int))), (75, r3_3.2.2.1), (76, (.int .i64 ((F_impl_worksOf m (a.length : Int)).1.length : Int))), (77, (.int .i64 (k77_3 : Int)))]
        obtain ⟨mf3, rfl⟩ : ∃ m, fu3 = m + 1 := ⟨fu3 - 1, by omega⟩
        rw [F_impl_LeastSchedule_L3_s] at hL3
        have hl0a := hl0 (by omega)
        have hl1a := hl1 (by omega)
        have hl0b := hl0a.1
        have hl1b := hl1a.1
        have hl1c := hl1a.2 k77_3
        have hrat := hWd.row k12_3.toNat (by omega)
        have hke := hWd.el k12_3.toNat k77_3
        have hcn := fun h => (hKs.wcf k77_3 h).1.n3
        refine TC.seq ?_
        refine TC.region ?_
        refine TL.op (yq (y_lss (ev_t rfl) (ev_t rfl))) rfl rfl rfl ?_
        refine TL.nil ?_
        refine TN.seq ?_
        refine TC.seq ?_
        refine TC.cond (b := decide ((k77_3 : Int) < ((F_impl_worksOf m (a.length : Int)).1.length : Int))) (ev_t rfl) (fun h72 => ?_) (fun h72 => ?_)
        · rw [bif_pos h72] at hL3
          have q73 := (of_decide_eq_true h72)
          refine TC.skip ?_
          refine TN.seq ?_
          refine TC.seq ?_
          refine TC.block ?_
          refine TC.seq ?_
          refine TC.region ?_
          refine TL.op (yq (y_move (ev_t rfl))) rfl rfl rfl ?_
          have hb74 : k77_3 < (F_impl_worksOf m (a.length : Int)).1.length := (by first | omega | (simp only [List.length_set, List.length_append, List.length_cons, List.length_nil, List.length_replicate]; omega) | (rw [sortI_length]; simp only [List.length_cons, List.length_nil]; omega))
          refine TL.op (yq (y_idx (k := k77_3) (ev_t rfl) (ev_t rfl) (by first | omega | simp) slT_22 (fun w hw => ((rii_tab 3 rfl) w hw).1) hb74)) rfl rfl rfl ?_
          refine TL.op (yq (y_ldT 3 (ev_t rfl) one_25 rfl hb74)) rfl rfl rfl ?_
          refine TL.op (yq (y_assign (ev_t rfl))) rfl rfl rfl ?_
          refine TL.op (yq (y_assign (ev_t rfl))) rfl rfl rfl ?_
          refine TL.nil ?_
          refine TN.seq ?_
          refine TC.seq ?_
          refine TC.regionQ (by kernel_rfl) (by kernel_rfl) dr_hp ?_
          refine TQ.op (yq (y_move (ev_t rfl))) rfl rfl rfl ?_
          refine TQ.op (yq (y_move (ev_t rfl))) rfl rfl rfl ?_
          refine TQ.op (y_call (vs := [(r3_3.2.2.2.1.getD k77_3 undef), (.int .i64 (reqs.getD k67_2 0))]) (v := (.bool (F_slices_Contains_Sint_int ((F_impl_worksOf m (a.length : Int)).1.getD k77_3 []) (reqs.getD k67_2 0)))) en_92 ⟨(ev_t rfl), (ev_t rfl), trivial⟩ (fun w hw => slices_Contains_Sint_int_ok w (r3_3.2.2.2.1.getD k77_3 undef) ((F_impl_worksOf m (a.length : Int)).1.getD k77_3 []) ((ri_tab 3 k77_3 rfl hb74) w hw) (reqs.getD k67_2 0))) rfl rfl rfl ?_
          refine TQ.op (yq (y_move (ev_t rfl))) rfl rfl rfl ?_
          refine TQ.opw (w_t rfl rfl rfl) (fun hg => yq (y_move (ev_t rfl))) rfl rfl ?_
          refine TQ.opw (w_t rfl rfl rfl) (fun hg => yq (y_nilp (ev_g rfl hg))) rfl rfl ?_
          refine TQ.opw (w_t rfl rfl rfl) (fun hg => yq (y_fa (fa_70_2 r3_3.1) (ev_g rfl hg))) rfl rfl ?_
          refine TQ.opw (w_t rfl rfl rfl) (fun hg => yq (y_ldb 2 (ev_g rfl hg) one_22 rfl rfl)) rfl rfl ?_
          refine TQ.opw (w_t rfl rfl rfl) (fun hg => yq (y_move (ev_t rfl))) rfl rfl ?_
          refine TQ.opw (w_t rfl rfl rfl) (fun hg => yq (y_idx (k := (k12_3).toNat) (ev_g rfl hg) (ev_g rfl hg) (by first | omega | simp) slT_22 (fun w hw => ((rii_tab 4 rfl) w hw).1) (show (k12_3).toNat < (F_impl_worksOf m (a.length : Int)).2.length by have hgf := hg; omega))) rfl rfl ?_
          refine TQ.opw (w_t rfl rfl rfl) (fun hg => yq (y_ldT 4 (ev_g rfl hg) one_25 rfl (show (k12_3).toNat < (F_impl_worksOf m (a.length : Int)).2.length by have hgf := hg; omega))) rfl rfl ?_
          refine TQ.opw (w_t rfl rfl rfl) (fun hg => yq (y_move (ev_t rfl))) rfl rfl ?_
          refine TQ.opw (w_t rfl rfl rfl) (fun hg => yq (y_idx (k := k77_3) (ev_g rfl hg) (ev_g rfl hg) (by first | omega | simp) slT_25 (ri_tab 4 ((k12_3).toNat) rfl (show (k12_3).toNat < (F_impl_worksOf m (a.length : Int)).2.length by have hgf := hg; omega)) (show k77_3 < ((F_impl_worksOf m (a.length : Int)).2.getD ((k12_3).toNat) []).length by have hgf := hg; omega))) rfl rfl ?_
          refine TQ.opw (w_t rfl rfl rfl) (fun hg => yq (y_ldi (ev_g rfl hg) one_3 (ri_tab 4 ((k12_3).toNat) rfl (show (k12_3).toNat < (F_impl_worksOf m (a.length : Int)).2.length by have hgf := hg; omega)) (show k77_3 < ((F_impl_worksOf m (a.length : Int)).2.getD ((k12_3).toNat) []).length by have hgf := hg; omega))) rfl rfl ?_
          refine TQ.opw (w_t rfl rfl rfl) (fun hg => yq (y_move (ev_t rfl))) rfl rfl ?_
          refine TQ.opw (w_t rfl rfl rfl) (fun hg => yq (y_move (ev_t rfl))) rfl rfl ?_
          refine TQ.opw (w_t rfl rfl rfl) (fun hg => yq (y_add (ev_g rfl hg) ev_c (by unfold In64; omega))) rfl rfl ?_
          refine TQ.opw (w_t rfl rfl rfl) (fun hg => yq (y_idx (k := (k67_2 + 1)) (ev_g rfl hg) (ev_g rfl hg) (by first | omega | simp) slT_22 (fun w hw => ((rii_tab 1 rfl) w hw).1) (show (k67_2 + 1) < m0_1.length by have hgf := hg; omega))) rfl rfl ?_
          refine TQ.opw (w_t rfl rfl rfl) (fun hg => yq (y_ldT 1 (ev_g rfl hg) one_25 rfl (show (k67_2 + 1) < m0_1.length by have hgf := hg; omega))) rfl rfl ?_
          refine TQ.opw (w_t rfl rfl rfl) (fun hg => yq (y_move (ev_t rfl))) rfl rfl ?_
          refine TQ.opw (w_t rfl rfl rfl) (fun hg => yq (y_idx (k := k77_3) (ev_g rfl hg) (ev_g rfl hg) (by first | omega | simp) slT_25 (ri_tab 1 (k67_2 + 1) rfl (show (k67_2 + 1) < m0_1.length by have hgf := hg; omega)) (show k77_3 < (m0_1.getD (k67_2 + 1) []).length by have hgf := hg; omega))) rfl rfl ?_
          refine TQ.opw (w_t rfl rfl rfl) (fun hg => yq (y_ldi (ev_g rfl hg) one_3 (ri_tab 1 (k67_2 + 1) rfl (show (k67_2 + 1) < m0_1.length by have hgf := hg; omega)) (show k77_3 < (m0_1.getD (k67_2 + 1) []).length by have hgf := hg; omega))) rfl rfl ?_
          refine TQ.opw (w_t rfl rfl rfl) (fun hg => yq (y_add (ev_g rfl hg) (ev_g rfl hg) (by unfold In64; omega))) rfl rfl ?_
          refine TQ.opw (w_t rfl rfl rfl) (fun hg => yq (y_move (ev_t rfl))) rfl rfl ?_
          refine TQ.opw (w_t rfl rfl rfl) (fun hg => yq (y_move (ev_t rfl))) rfl rfl ?_
          refine TQ.opw (w_t rfl rfl rfl) (fun hg => yq (y_idx (k := k67_2) (ev_g rfl hg) (ev_g rfl hg) (by first | omega | simp) slT_22 (fun w hw => ((rii_tab 1 rfl) w hw).1) (show k67_2 < m0_1.length by have hgf := hg; omega))) rfl rfl ?_
          refine TQ.opw (w_t rfl rfl rfl) (fun hg => yq (y_ldT 1 (ev_g rfl hg) one_25 rfl (show k67_2 < m0_1.length by have hgf := hg; omega))) rfl rfl ?_
          refine TQ.opw (w_t rfl rfl rfl) (fun hg => yq (y_move (ev_t rfl))) rfl rfl ?_
          refine TQ.opw (w_t rfl rfl rfl) (fun hg => yq (y_idx (k := (k12_3).toNat) (ev_g rfl hg) (ev_g rfl hg) (by first | omega | simp) slT_25 (ri_tab 1 k67_2 rfl (show k67_2 < m0_1.length by have hgf := hg; omega)) (show (k12_3).toNat < (m0_1.getD k67_2 []).length by have hgf := hg; omega))) rfl rfl ?_
          refine TQ.opw (w_t rfl rfl rfl) (fun hg => yq (y_ldi (ev_g rfl hg) one_3 (ri_tab 1 k67_2 rfl (show k67_2 < m0_1.length by have hgf := hg; omega)) (show (k12_3).toNat < (m0_1.getD k67_2 []).length by have hgf := hg; omega))) rfl rfl ?_
          refine TQ.opw (w_t rfl rfl rfl) (fun hg => yq (y_eql (ev_g rfl hg) (ev_g rfl hg))) rfl rfl ?_
          refine TQ.op (yq (y_and (ev_t rfl) (fun hq => (ev_g rfl hq)))) rfl rfl rfl ?_
          refine TQ.nil ?_
          refine TN.seq ?_
          refine TC.cond (b := ((F_slices_Contains_Sint_int ((F_impl_worksOf m (a.length : Int)).1.getD k77_3 []) (reqs.getD k67_2 0)) && (decide ((((F_impl_worksOf m (a.length : Int)).2.getD ((k12_3).toNat) []).getD k77_3 0) + ((m0_1.getD (k67_2 + 1) []).getD k77_3 0) = ((m0_1.getD k67_2 []).getD ((k12_3).toNat) 0))))) (ev_t rfl) (fun h75 => ?_) (fun h75 => ?_)
          · rw [bif_pos h75] at hL3
            have q76 := (and_imp (and_t h75) (fun h => h) (fun h => (of_decide_eq_true h)))
            refine TC.seq ?_
            refine TC.region ?_
            refine TL.op (yq (y_move (ev_t rfl))) rfl rfl rfl ?_
            refine TL.op (yq (y_move (ev_t rfl))) rfl rfl rfl ?_
            refine TL.callr (ι := Value) (vs := [(r3_3.2.2.2.1.getD k77_3 undef)]) (fun i => i) (fun i => [rowI 3 i ((F_impl_worksOf m (a.length : Int)).1.getD k77_3 [])]) en_62 ⟨(ev_t rfl), trivial⟩ rfl (fun w hw => slices_Clone_Sint_int_ok w (r3_3.2.2.2.1.getD k77_3 undef) ((F_impl_worksOf m (a.length : Int)).1.getD k77_3 []) ((ri_tab 3 k77_3 rfl hb74) w hw) (by first | assumption | omega | grind)) (fun r19_2 => ?_)
            refine TL.buildU slT_22 (ev_t rfl) (fun w hw => ((ri_row 0 rfl) w hw).ln) rfl (fun v19_3 => ?_)
            refine TL.appendT 2 1 rfl (ev_t rfl) (ev_t rfl) rfl rfl slT_22 (rd_row 0 rfl) (by first | omega | (simp [-List.getD_eq_getElem?_getD] <;> omega)) rfl (fun v19_4 => ?_)
            refine TL.op (yq (y_assign (ev_t rfl))) rfl rfl rfl ?_
            refine TL.nil ?_
            refine TN.seq ?_
            refine TC.seq ?_
            refine TC.region ?_
            refine TL.op (yq (y_move (ev_t rfl))) rfl rfl rfl ?_
            refine TL.op (yq (y_assign (ev_t rfl))) rfl rfl rfl ?_
            refine TL.nil ?_
            refine TN.seq ?_
            refine TC.exit ?_
            refine TN.blockM rfl ?_
            refine TN.thenE ?_
            refine TN.thenE ?_
            rw [← hL3, elim_next] at hL2
            try dsimp only at hL2
            refine TN.blockH ?_
            refine TN.blockN ?_
            refine TN.seq ?_
            refine TC.region ?_
            refine TL.op (yq (y_add (ev_t rfl) ev_c (by unfold In64; omega))) rfl rfl rfl ?_
            refine TL.op (yq (y_move (ev_t rfl))) rfl rfl rfl ?_
            refine TL.nil ?_
            exact TN.hand (mf2, (k11_3 ++ [((F_impl_worksOf m (a.length : Int)).1.getD k77_3 [])]), (k77_3 : Int), (k67_2 + 1), v19_4, (uk11_3 ++ [r19_2])) ⟨(by first | omega | (simp [-List.getD_eq_getElem?_getD] <;> omega)), (by first | omega | (simp [-List.getD_eq_getElem?_getD] <;> omega)), (by first | omega | (simp [-List.getD_eq_getElem?_getD] <;> omega)), (by first | omega | (simp [-List.getD_eq_getElem?_getD] <;> omega)), (by omega), hL2⟩ (Nat.lt_succ_self _) ⟨rfl, rfl, rfl, rfl, rfl, rfl, rfl, trivial⟩ (fun w hw => Hp.sublist hw (.cons _ (.cons _ (.cons_cons _ (.cons_cons _ (.cons_cons _ (.cons_cons _ (.cons_cons _ .slnil))))))))
          · rw [bif_neg h75] at hL3
            have q76 := ((and_f h75).imp (fun h => h) (fun h => (of_decide_eq_false h)))
            refine TC.skip ?_
            refine TN.blockN ?_
            refine TN.seq ?_
            refine TC.region ?_
            refine TL.op (yq (y_add (ev_t rfl) ev_c (by unfold In64; omega))) rfl rfl rfl ?_
            refine TL.op (yq (y_move (ev_t rfl))) rfl rfl rfl ?_
            refine TL.nil ?_
            exact TN.hand (mf3, k11_3, k12_3, (k77_3 + 1), vk11_3, uk11_3) ⟨(by first | omega | (simp [-List.getD_eq_getElem?_getD] <;> omega)), (by first | omega | (simp [-List.getD_eq_getElem?_getD] <;> omega)), (by first | omega | (simp [-List.getD_eq_getElem?_getD] <;> omega)), (by first | omega | (simp [-List.getD_eq_getElem?_getD] <;> omega)), (by omega), hL3⟩ (Nat.lt_succ_self _) ⟨rfl, rfl, rfl, rfl, rfl, rfl, rfl, rfl, rfl, rfl, rfl, rfl, trivial⟩ (fun w hw => hw)
        · rw [bif_neg h72] at hL3
          have q73 := (of_decide_eq_false h72)
          refine TC.exit ?_
          refine TN.thenE ?_
          refine TN.thenE ?_
          rw [← hL3, elim_next] at hL2
          try dsimp only at hL2
          refine TN.blockH ?_
          refine TN.blockN ?_
          refine TN.seq ?_
          refine TC.region ?_
          refine TL.op (yq (y_add (ev_t rfl) ev_c (by unfold In64; omega))) rfl rfl rfl ?_
          refine TL.op (yq (y_move (ev_t rfl))) rfl rfl rfl ?_
          refine TL.nil ?_
          exact TN.hand (mf2, k11_3, k12_3, (k67_2 + 1), vk11_3, uk11_3) ⟨(by first | omega | (simp [-List.getD_eq_getElem?_getD] <;> omega)), (by first | omega | (simp [-List.getD_eq_getElem?_getD] <;> omega)), (by first | omega | (simp [-List.getD_eq_getElem?_getD] <;> omega)), (by first | omega | (simp [-List.getD_eq_getElem?_getD] <;> omega)), (by omega), hL2⟩ (Nat.lt_succ_self _) ⟨rfl, rfl, rfl, rfl, rfl, rfl, rfl, trivial⟩ (fun w hw => hw)
      · rw [bif_neg h67] at hL2
        have q68 := (of_decide_eq_false h67)
        refine TC.exit ?_
        refine TN.thenE ?_
        refine TN.thenE ?_
        rw [← hL2, elim_next] at hF
        try dsimp only at hF
        refine TN.blockH ?_
        refine TN.seq ?_
        refine TC.seq ?_
        refine TC.region ?_
        refine TL.op (yq (y_move (ev_t rfl))) rfl rfl rfl ?_
        refine TL.op (yq (y_assign (ev_t rfl))) rfl rfl rfl ?_
        refine TL.op (yq (y_assign ev_c)) rfl rfl rfl ?_
        refine TL.nil ?_
        refine TN.seq ?_
        refine TC.ret ?_
        subst hF
        exact TN.ret2 rfl (ev_t rfl) (ev_t rfl) (fun w' hw => ⟨(vk11_2, uk11_2), rfl, Hp.sublist hw (.cons_cons _ (.cons _ (.cons _ (.cons _ (.cons _ .slnil)))))⟩)

set_option maxRecDepth 4000 in
set_option maxHeartbeats 1000000 in
theorem spec_l1Same_ok (w : World) (va : Value) (a : List Int) (ha : RI w va a) (vb : Value) (b : List Int) (hb : RI w vb b)  :
    Calls Try.prog 110 ([va, vb] : List Value).toArray w (Ret (.bool (F_spec_l1Same a b)) (Hp w [])) := by
  obtain ⟨rz, hF⟩ : ∃ rz, (F_spec_l1Same a b) = rz := ⟨_, rfl⟩
  rw [hF]
  unfold F_spec_l1Same at hF
  have hlen_a := arg_len ha
  have hlen_b := arg_len hb
  refine calls_tc Try.func110 rfl rfl rfl ?_
  change TC _ _ _ _ (Hp w []) [(0, va), (1, vb)]
  refine TC.seq ?_
  refine TC.region ?_
  refine TL.op (yq (y_assign ev_c)) rfl rfl rfl ?_
  refine TL.nil ?_
  refine TN.seq ?_
  refine TC.seq ?_
  refine TC.seq ?_
  refine TC.region ?_
  refine TL.op (yq (y_move (ev_t rfl))) rfl rfl rfl ?_
  refine TL.op (yq (y_len (ev_t rfl) Try.underlying25 (fun w hw => ((ri_arg ha) w hw).ln))) rfl rfl rfl ?_
  refine TL.op (yq (y_move (ev_t rfl))) rfl rfl rfl ?_
  refine TL.op (yq (y_len (ev_t rfl) Try.underlying25 (fun w hw => ((ri_arg hb) w hw).ln))) rfl rfl rfl ?_
  refine TL.op (yq (y_neq (ev_t rfl) (ev_t rfl))) rfl rfl rfl ?_
  refine TL.nil ?_
  refine TN.seq ?_
  refine TC.cond (b := !decide ((a.length : Int) = (b.length : Int))) (ev_t rfl) (fun h15 => ?_) (fun h15 => ?_)
  · rw [bif_pos h15] at hF
    have q16 := (of_decide_eq_false (not_t h15))
    refine TC.seq ?_
    refine TC.region ?_
    refine TL.op (yq (y_assign ev_c)) rfl rfl rfl ?_
    refine TL.nil ?_
    refine TN.seq ?_
    refine TC.ret ?_
    refine TN.thenR ?_
    subst hF
    exact TN.ret1 rfl (ev_t rfl) (fun w' hw => ⟨rfl, hw⟩)
  · rw [bif_neg h15] at hF
    have q16 := (of_decide_eq_true (not_f h15))
    refine TC.skip ?_
    refine TN.seq ?_
    refine TC.seq ?_
    refine TC.seq ?_
    refine TC.region ?_
    refine TL.op (yq (y_assign ev_c)) rfl rfl rfl ?_
    refine TL.nil ?_
    refine TN.seq ?_
    refine TC.block ?_
    obtain ⟨c17, hc18⟩ : ∃ c, F_spec_l1Same_L1 a b ((a.length - 0) + 1) 0 = c := ⟨_, rfl⟩
    rw [hc18] at hF
    refine TC.loop (ι := Nat × Nat) (fun (fu1, i1) => [(0, va), (1, vb), (5, (.int .i64 (i1 : Int)))]) (fun (fu1, i1) => Hp w []) (fun (fu1, i1) => (i1 ≤ a.length) ∧ a.length - i1 < fu1 ∧ F_spec_l1Same_L1 a b fu1 i1 = c17) (fun (fu1, i1) => fu1) ((a.length - 0) + 1, 0) ⟨(by first | omega | (simp [-List.getD_eq_getElem?_getD] <;> omega)), (by omega), hc18⟩ ⟨rfl, rfl, rfl, trivial⟩ (fun w hw => hw) ?_
    rintro ⟨fu1, i1⟩ hJ1
    obtain ⟨hi1_0, hmu1, hL1⟩ : (i1 ≤ a.length) ∧ a.length - i1 < fu1 ∧ F_spec_l1Same_L1 a b fu1 i1 = c17 := hJ1
    change TC _ _ _ _ (Hp w []) [(0, va), (1, vb), (5, (.int .i64 (i1 : Int)))]
    obtain ⟨mf1, rfl⟩ : ∃ m, fu1 = m + 1 := ⟨fu1 - 1, by omega⟩
    rw [F_spec_l1Same_L1_s] at hL1
    refine TC.seq ?_
    refine TC.seq ?_
    refine TC.region ?_
    refine TL.op (yq (y_move (ev_t rfl))) rfl rfl rfl ?_
    refine TL.op (yq (y_move (ev_t rfl))) rfl rfl rfl ?_
    refine TL.op (yq (y_len (ev_t rfl) Try.underlying25 (fun w hw => ((ri_arg ha) w hw).ln))) rfl rfl rfl ?_
    refine TL.op (yq (y_lss (ev_t rfl) (ev_t rfl))) rfl rfl rfl ?_
    refine TL.nil ?_
    refine TN.seq ?_
    refine TC.cond (b := decide ((i1 : Int) < (a.length : Int))) (ev_t rfl) (fun h19 => ?_) (fun h19 => ?_)
    · rw [bif_pos h19] at hL1
      have q20 := (of_decide_eq_true h19)
      refine TC.skip ?_
      refine TN.seq ?_
      refine TC.seq ?_
      refine TC.block ?_
      refine TC.seq ?_
      refine TC.regionQ (by kernel_rfl) (by kernel_rfl) dr_hp ?_
      refine TQ.op (yq (y_move (ev_t rfl))) rfl rfl rfl ?_
      refine TQ.op (yq (y_move (ev_t rfl))) rfl rfl rfl ?_
      have hb21 : i1 < a.length := (by first | omega | (simp only [List.length_set, List.length_append, List.length_cons, List.length_nil, List.length_replicate]; omega) | (rw [sortI_length]; simp only [List.length_cons, List.length_nil]; omega))
      refine TQ.op (yq (y_idx (k := i1) (ev_t rfl) (ev_t rfl) (by first | omega | simp) slT_25 (ri_arg ha) hb21)) rfl rfl rfl ?_
      refine TQ.op (yq (y_ldi (ev_t rfl) one_3 (ri_arg ha) hb21)) rfl rfl rfl ?_
      refine TQ.op (yq (y_move (ev_t rfl))) rfl rfl rfl ?_
      refine TQ.op (yq (y_move (ev_t rfl))) rfl rfl rfl ?_
      have hb22 : i1 < b.length := (by first | omega | (simp only [List.length_set, List.length_append, List.length_cons, List.length_nil, List.length_replicate]; omega) | (rw [sortI_length]; simp only [List.length_cons, List.length_nil]; omega))
      refine TQ.op (yq (y_idx (k := i1) (ev_t rfl) (ev_t rfl) (by first | omega | simp) slT_25 (ri_arg hb) hb22)) rfl rfl rfl ?_
      refine TQ.op (yq (y_ldi (ev_t rfl) one_3 (ri_arg hb) hb22)) rfl rfl rfl ?_
      refine TQ.op (yq (y_neq (ev_t rfl) (ev_t rfl))) rfl rfl rfl ?_
      refine TQ.nil ?_
      refine TN.seq ?_
      refine TC.cond (b := !decide ((a.getD i1 0) = (b.getD i1 0))) (ev_t rfl) (fun h23 => ?_) (fun h23 => ?_)
      · rw [bif_pos h23] at hL1
        have q24 := (of_decide_eq_false (not_t h23))
        refine TC.seq ?_
        refine TC.region ?_
        refine TL.op (yq (y_assign ev_c)) rfl rfl rfl ?_
        refine TL.nil ?_
        refine TN.seq ?_
        refine TC.ret ?_
        refine TN.blockR ?_
        refine TN.thenR ?_
        refine TN.thenR ?_
        rw [← hL1, elim_ret] at hF
        refine TN.blockR ?_
        refine TN.thenR ?_
        subst hF
        exact TN.ret1 rfl (ev_t rfl) (fun w' hw => ⟨rfl, hw⟩)
      · rw [bif_neg h23] at hL1
        have q24 := (of_decide_eq_true (not_f h23))
        refine TC.skip ?_
        refine TN.blockN ?_
        refine TN.seq ?_
        refine TC.region ?_
        refine TL.op (yq (y_move (ev_t rfl))) rfl rfl rfl ?_
        refine TL.op (yq (y_add (ev_t rfl) ev_c (by unfold In64; omega))) rfl rfl rfl ?_
        refine TL.op (yq (y_assign (ev_t rfl))) rfl rfl rfl ?_
        refine TL.nil ?_
        exact TN.hand (mf1, (i1 + 1)) ⟨(by first | omega | (simp [-List.getD_eq_getElem?_getD] <;> omega)), (by omega), hL1⟩ (Nat.lt_succ_self _) ⟨rfl, rfl, rfl, trivial⟩ (fun w hw => hw)
    · rw [bif_neg h19] at hL1
      have q20 := (of_decide_eq_false h19)
      refine TC.exit ?_
      refine TN.thenE ?_
      refine TN.thenE ?_
      rw [← hL1, elim_next] at hF
      try dsimp only at hF
      refine TN.blockH ?_
      refine TN.seq ?_
      refine TC.seq ?_
      refine TC.region ?_
      refine TL.op (yq (y_assign ev_c)) rfl rfl rfl ?_
      refine TL.nil ?_
      refine TN.seq ?_
      refine TC.ret ?_
      subst hF
      exact TN.ret1 rfl (ev_t rfl) (fun w' hw => ⟨rfl, hw⟩)

set_option maxRecDepth 4000 in
set_option maxHeartbeats 1000000 in
theorem spec_l7Index_ok (w : World) (vconfigs : Value) (uconfigs : List Value) (configs : List (List Int)) (hconfigs : RII w vconfigs uconfigs configs) (vx : Value) (x : List Int) (hx : RI w vx x)  :
    Calls Try.prog 69 ([vconfigs, vx] : List Value).toArray w (Ret (.int .i64 (F_spec_l7Index configs x)) (Hp w [])) := by
  obtain ⟨rz, hF⟩ : ∃ rz, (F_spec_l7Index configs x) = rz := ⟨_, rfl⟩
  rw [hF]
  unfold F_spec_l7Index at hF
  have hlen_configs := argT_len hconfigs
  have hlen_x := arg_len hx
  refine calls_tc Try.func69 rfl rfl rfl ?_
  change TC _ _ _ _ (Hp w []) [(0, vconfigs), (1, vx)]
  refine TC.seq ?_
  refine TC.region ?_
  refine TL.op (yq (y_assign ev_c)) rfl rfl rfl ?_
  refine TL.nil ?_
  refine TN.seq ?_
  refine TC.seq ?_
  refine TC.seq ?_
  refine TC.region ?_
  refine TL.op (yq (y_assign ev_c)) rfl rfl rfl ?_
  refine TL.nil ?_
  refine TN.seq ?_
  refine TC.block ?_
  obtain ⟨c13, hc14⟩ : ∃ c, F_spec_l7Index_L1 configs x ((configs.length - 0) + 1) 0 = c := ⟨_, rfl⟩
  rw [hc14] at hF
  refine TC.loop (ι := Nat × Nat) (fun (fu1, i1) => [(0, vconfigs), (1, vx), (5, (.int .i64 (i1 : Int)))]) (fun (fu1, i1) => Hp w []) (fun (fu1, i1) => (i1 ≤ configs.length) ∧ configs.length - i1 < fu1 ∧ F_spec_l7Index_L1 configs x fu1 i1 = c13) (fun (fu1, i1) => fu1) ((configs.length - 0) + 1, 0) ⟨(by first | omega | (simp [-List.getD_eq_getElem?_getD] <;> omega)), (by omega), hc14⟩ ⟨rfl, rfl, rfl, trivial⟩ (fun w hw => hw) ?_
  rintro ⟨fu1, i1⟩ hJ1
  obtain ⟨hi1_0, hmu1, hL1⟩ : (i1 ≤ configs.length) ∧ configs.length - i1 < fu1 ∧ F_spec_l7Index_L1 configs x fu1 i1 = c13 := hJ1
  change TC _ _ _ _ (Hp w []) [(0, vconfigs), (1, vx), (5, (.int .i64 (i1 : Int)))]
  obtain ⟨mf1, rfl⟩ : ∃ m, fu1 = m + 1 := ⟨fu1 - 1, by omega⟩
  rw [F_spec_l7Index_L1_s] at hL1
  refine TC.seq ?_
  refine TC.seq ?_
  refine TC.region ?_
  refine TL.op (yq (y_move (ev_t rfl))) rfl rfl rfl ?_
  refine TL.op (yq (y_move (ev_t rfl))) rfl rfl rfl ?_
  refine TL.op (yq (y_len (ev_t rfl) Try.underlying22 (fun w hw => ((fun w hw => ((rii_arg hconfigs) w hw).1) w hw).ln))) rfl rfl rfl ?_
  refine TL.op (yq (y_lss (ev_t rfl) (ev_t rfl))) rfl rfl rfl ?_
  refine TL.nil ?_
  refine TN.seq ?_
  refine TC.cond (b := decide ((i1 : Int) < (configs.length : Int))) (ev_t rfl) (fun h15 => ?_) (fun h15 => ?_)
  · rw [bif_pos h15] at hL1
    have q16 := (of_decide_eq_true h15)
    refine TC.skip ?_
    refine TN.seq ?_
    refine TC.seq ?_
    refine TC.block ?_
    refine TC.seq ?_
    refine TC.region ?_
    refine TL.op (yq (y_move (ev_t rfl))) rfl rfl rfl ?_
    refine TL.op (yq (y_move (ev_t rfl))) rfl rfl rfl ?_
    have hb17 : i1 < configs.length := (by first | omega | (simp only [List.length_set, List.length_append, List.length_cons, List.length_nil, List.length_replicate]; omega) | (rw [sortI_length]; simp only [List.length_cons, List.length_nil]; omega))
    refine TL.op (yq (y_idx (k := i1) (ev_t rfl) (ev_t rfl) (by first | omega | simp) slT_22 (fun w hw => ((rii_arg hconfigs) w hw).1) hb17)) rfl rfl rfl ?_
    have ha18 := hconfigs.row (i := i1) hb17
    refine TL.op (yq (y_ldA (ev_t rfl) one_25 (rii_arg hconfigs) hb17)) rfl rfl rfl ?_
    refine TL.op (yq (y_move (ev_t rfl))) rfl rfl rfl ?_
    refine TL.op (y_call (vs := [(uconfigs.getD i1 undef), vx]) (v := (.bool (F_spec_l1Same (configs.getD i1 []) x))) en_110 ⟨(ev_t rfl), (ev_t rfl), trivial⟩ (fun w hw => spec_l1Same_ok w (uconfigs.getD i1 undef) (configs.getD i1 []) ((ri_arg ha18) w hw) vx x ((ri_arg hx) w hw))) rfl rfl rfl ?_
    refine TL.nil ?_
    refine TN.seq ?_
    refine TC.cond (b := (F_spec_l1Same (configs.getD i1 []) x)) (ev_t rfl) (fun h19 => ?_) (fun h19 => ?_)
    · rw [bif_pos h19] at hL1
      have q20 := h19
      refine TC.seq ?_
      refine TC.region ?_
      refine TL.op (yq (y_move (ev_t rfl))) rfl rfl rfl ?_
      refine TL.op (yq (y_assign (ev_t rfl))) rfl rfl rfl ?_
      refine TL.nil ?_
      refine TN.seq ?_
      refine TC.ret ?_
      refine TN.blockR ?_
      refine TN.thenR ?_
      refine TN.thenR ?_
      rw [← hL1, elim_ret] at hF
      refine TN.blockR ?_
      refine TN.thenR ?_
      subst hF
      exact TN.ret1 rfl (ev_t rfl) (fun w' hw => ⟨rfl, hw⟩)
    · rw [bif_neg h19] at hL1
      have q20 := h19
      refine TC.skip ?_
      refine TN.blockN ?_
      refine TN.seq ?_
      refine TC.region ?_
      refine TL.op (yq (y_move (ev_t rfl))) rfl rfl rfl ?_
      refine TL.op (yq (y_add (ev_t rfl) ev_c (by unfold In64; omega))) rfl rfl rfl ?_
      refine TL.op (yq (y_assign (ev_t rfl))) rfl rfl rfl ?_
      refine TL.nil ?_
      exact TN.hand (mf1, (i1 + 1)) ⟨(by first | omega | (simp [-List.getD_eq_getElem?_getD] <;> omega)), (by omega), hL1⟩ (Nat.lt_succ_self _) ⟨rfl, rfl, rfl, trivial⟩ (fun w hw => hw)
  · rw [bif_neg h15] at hL1
    have q16 := (of_decide_eq_false h15)
    refine TC.exit ?_
    refine TN.thenE ?_
    refine TN.thenE ?_
    rw [← hL1, elim_next] at hF
    try dsimp only at hF
    refine TN.blockH ?_
    refine TN.seq ?_
    refine TC.seq ?_
    refine TC.region ?_
    refine TL.op (yq (y_assign ev_c)) rfl rfl rfl ?_
    refine TL.nil ?_
    refine TN.seq ?_
    refine TC.ret ?_
    subst hF
    exact TN.ret1 rfl (ev_t rfl) (fun w' hw => ⟨rfl, hw⟩)

set_option maxRecDepth 4000 in
set_option maxHeartbeats 1000000 in
theorem spec_l4With_ok (w : World) (vlist : Value) (list : List Int) (hlist : RI w vlist list) (at_ : Int) (y : Int) (hp0 : 0 ≤ at_ ∧ at_ < list.length) (hp1 : list.length ≤ 1000000) :
    Calls Try.prog 130 ([vlist, (.int .i64 at_), (.int .i64 y)] : List Value).toArray w (fun e w' => ∃ i : Value, e = .returned i ∧ Hp w [rowI 3 i (F_spec_l4With list at_ y)] w') := by
  obtain ⟨rz, hF⟩ : ∃ rz, (F_spec_l4With list at_ y) = rz := ⟨_, rfl⟩
  rw [hF]
  unfold F_spec_l4With at hF
  have hlen_list := arg_len hlist
  refine calls_tc Try.func130 rfl rfl rfl ?_
  change TC _ _ _ _ (Hp w []) [(0, vlist), (1, (.int .i64 at_)), (2, (.int .i64 y))]
  refine TC.seq ?_
  refine TC.region ?_
  refine TL.op (yq (y_assign ev_c)) rfl rfl rfl ?_
  refine TL.nil ?_
  refine TN.seq ?_
  refine TC.seq ?_
  refine TC.region ?_
  refine TL.op (yq (y_move (ev_t rfl))) rfl rfl rfl ?_
  refine TL.callr (ι := Value) (vs := [vlist]) (fun i => i) (fun i => [rowI 3 i list]) en_91 ⟨(ev_t rfl), trivial⟩ rfl (fun w hw => spec_l1Own_ok w vlist list ((ri_arg hlist) w hw) (by first | assumption | omega | grind)) (fun r1_1 => ?_)
  refine TL.op (yq (y_assign (ev_t rfl))) rfl rfl rfl ?_
  refine TL.nil ?_
  refine TN.seq ?_
  refine TC.seq ?_
  refine TC.region ?_
  refine TL.op (yq (y_move (ev_t rfl))) rfl rfl rfl ?_
  refine TL.op (yq (y_move (ev_t rfl))) rfl rfl rfl ?_
  refine TL.op (yq (y_move (ev_t rfl))) rfl rfl rfl ?_
  have hb2 : (at_).toNat < list.length := (by first | omega | (simp only [List.length_set, List.length_append, List.length_cons, List.length_nil, List.length_replicate]; omega) | (rw [sortI_length]; simp only [List.length_cons, List.length_nil]; omega))
  refine TL.op (yq (y_idx (k := (at_).toNat) (ev_t rfl) (ev_t rfl) (by first | omega | simp) slT_25 (ri_row 0 rfl) hb2)) rfl rfl rfl ?_
  refine TL.storeI 0 (ev_t rfl) (ev_t rfl) one_3 rfl hb2 ?_
  refine TL.nil ?_
  refine TN.seq ?_
  refine TC.seq ?_
  refine TC.region ?_
  refine TL.op (yq (y_move (ev_t rfl))) rfl rfl rfl ?_
  refine TL.op (yq (y_assign (ev_t rfl))) rfl rfl rfl ?_
  refine TL.nil ?_
  refine TN.seq ?_
  refine TC.ret ?_
  subst hF
  exact TN.ret1 rfl (ev_t rfl) (fun w' hw => ⟨r1_1, rfl, hw⟩)

set_option maxRecDepth 4000 in
set_option maxHeartbeats 1000000 in
theorem spec_l7Swap_ok (w : World) (vx : Value) (x : List Int) (hx : RI w vx x) (at_ : Int) (r : Int) (hp0 : 0 ≤ at_ ∧ at_ < x.length) (hp1 : x.length ≤ 1000) :
    Calls Try.prog 112 ([vx, (.int .i64 at_), (.int .i64 r)] : List Value).toArray w (fun e w' => ∃ i : Value, e = .returned i ∧ Hp w [rowI 3 i (F_spec_l7Swap x at_ r)] w') := by
  obtain ⟨rz, hF⟩ : ∃ rz, (F_spec_l7Swap x at_ r) = rz := ⟨_, rfl⟩
  rw [hF]
  unfold F_spec_l7Swap at hF
  have hl4 : (F_spec_l4With x at_ r).length = x.length := by unfold F_spec_l4With; simp
  have hlen_x := arg_len hx
  refine calls_tc Try.func112 rfl rfl rfl ?_
  change TC _ _ _ _ (Hp w []) [(0, vx), (1, (.int .i64 at_)), (2, (.int .i64 r))]
  refine TC.seq ?_
  refine TC.region ?_
  refine TL.op (yq (y_assign ev_c)) rfl rfl rfl ?_
  refine TL.nil ?_
  refine TN.seq ?_
  refine TC.seq ?_
  refine TC.region ?_
  refine TL.op (yq (y_move (ev_t rfl))) rfl rfl rfl ?_
  refine TL.op (yq (y_move (ev_t rfl))) rfl rfl rfl ?_
  refine TL.op (yq (y_move (ev_t rfl))) rfl rfl rfl ?_
  refine TL.callr (ι := Value) (vs := [vx, (.int .i64 at_), (.int .i64 r)]) (fun i => i) (fun i => [rowI 3 i (F_spec_l4With x at_ r)]) en_130 ⟨(ev_t rfl), (ev_t rfl), (ev_t rfl), trivial⟩ rfl (fun w hw => spec_l4With_ok w vx x ((ri_arg hx) w hw) at_ r (by first | assumption | omega | grind) (by first | assumption | omega | grind)) (fun r1_3 => ?_)
  refine TL.callr (ι := Value) (vs := [r1_3]) (fun i => i) (fun i => [rowI 3 i (F_spec_l6Sort (F_spec_l4With x at_ r))]) en_129 ⟨(ev_t rfl), trivial⟩ rfl (fun w hw => spec_l6Sort_ok w r1_3 (F_spec_l4With x at_ r) ((ri_row 0 rfl) w hw) (by first | assumption | omega | grind)) (fun r1_4 => ?_)
  refine TL.op (yq (y_assign (ev_t rfl))) rfl rfl rfl ?_
  refine TL.nil ?_
  refine TN.seq ?_
  refine TC.ret ?_
  subst hF
  exact TN.ret1 rfl (ev_t rfl) (fun w' hw => ⟨r1_4, rfl, Hp.sublist hw (.cons_cons _ (.cons _ .slnil))⟩)

set_option maxRecDepth 4000 in
set_option maxHeartbeats 1000000 in
theorem spec_l7Rest_ok (w : World) (vm : Value) (um : List Value) (m : List (List Int)) (hm : RII w vm um m) (vconfigs : Value) (uconfigs : List Value) (configs : List (List Int)) (hconfigs : RII w vconfigs uconfigs configs) (vreqs : Value) (reqs : List Int) (hreqs : RI w vreqs reqs) (hp0 : Kf m configs) (hp1 : reqs.length ≤ 60) (hp2 : ∀ i, i < reqs.length → 0 ≤ reqs.getD i 0 ∧ reqs.getD i 0 < m.length) :
    Calls Try.prog 89 ([(.agg #[vm]), vconfigs, vreqs] : List Value).toArray w (fun e w' => ∃ i : Value × List Value, e = .returned i.1 ∧ Hp w [tabI 25 3 i.1 i.2 (F_spec_l7Rest m configs reqs)] w') := by
  obtain ⟨rz, hF⟩ : ∃ rz, (F_spec_l7Rest m configs reqs) = rz := ⟨_, rfl⟩
  rw [hF]
  unfold F_spec_l7Rest at hF
  have hKc := hp0.ksc
  have hTab := hKc.tab
  have h56 := hKc.n56
  have hlen_m := argT_len hm
  have hlen_configs := argT_len hconfigs
  have hlen_reqs := arg_len hreqs
  refine calls_tc Try.func89 rfl rfl rfl ?_
  change TC _ _ _ _ (Hp w []) [(0, (.agg #[vm])), (1, vconfigs), (2, vreqs)]
  refine TC.seq ?_
  refine TC.region ?_
  refine TL.box (ev_t rfl) rfl (fun g0_0 => ?_)
  refine TL.op (yq (y_assign ev_c)) rfl rfl rfl ?_
  refine TL.nil ?_
  refine TN.seq ?_
  refine TC.seq ?_
  refine TC.region ?_
  refine TL.buildSlice (zs := []) (vs := []) slT_22 rfl trivial (by simp) rfl (by decide) rfl (fun v1_0 => ?_)
  refine TL.cls (fun w hw => hw.emptyTab 3) ?_
  refine TL.op (yq (y_assign (ev_t rfl))) rfl rfl rfl ?_
  refine TL.nil ?_
  refine TN.seq ?_
  refine TC.seq ?_
  refine TC.seq ?_
  refine TC.region ?_
  refine TL.op (yq (y_assign ev_c)) rfl rfl rfl ?_
  refine TL.nil ?_
  refine TN.seq ?_
  refine TC.block ?_
  obtain ⟨c139, hc140⟩ : ∃ c, F_spec_l7Rest_L1 configs reqs ((reqs.length + 1 - 0) + 1) (([]), 0) = c := ⟨_, rfl⟩
  rw [hc140] at hF
  refine TC.loop (ι := Nat × List (List Int) × Nat × Value × List Value) (fun (fu1, k7_1, k8_1, vk7_1, uk7_1) => [(1, vconfigs), (2, vreqs), (3, (.pointer (some ⟨g0_0, 0, none⟩))), (7, vk7_1), (8, (.int .i64 (k8_1 : Int)))]) (fun (fu1, k7_1, k8_1, vk7_1, uk7_1) => Hp w [tabI 25 3 vk7_1 uk7_1 k7_1, .blk g0_0 29 [vm]]) (fun (fu1, k7_1, k8_1, vk7_1, uk7_1) => (k8_1 ≤ reqs.length + 1) ∧ (k7_1.length = k8_1) ∧ (Zr configs reqs.length k7_1) ∧ reqs.length + 1 - k8_1 < fu1 ∧ F_spec_l7Rest_L1 configs reqs fu1 (k7_1, k8_1) = c139) (fun (fu1, k7_1, k8_1, vk7_1, uk7_1) => fu1) ((reqs.length + 1 - 0) + 1, [], 0, v1_0, []) ⟨(by first | omega | (simp [-List.getD_eq_getElem?_getD] <;> omega)), (by first | omega | (simp [-List.getD_eq_getElem?_getD] <;> omega)), (Zr.nil _ _), (by omega), hc140⟩ ⟨rfl, rfl, rfl, rfl, rfl, trivial⟩ (fun w hw => hw) ?_
  rintro ⟨fu1, k7_1, k8_1, vk7_1, uk7_1⟩ hJ1
  obtain ⟨hi1_0, hi1_1, hi1_2, hmu1, hL1⟩ : (k8_1 ≤ reqs.length + 1) ∧ (k7_1.length = k8_1) ∧ (Zr configs reqs.length k7_1) ∧ reqs.length + 1 - k8_1 < fu1 ∧ F_spec_l7Rest_L1 configs reqs fu1 (k7_1, k8_1) = c139 := hJ1
  change TC _ _ _ _ (Hp w [tabI 25 3 vk7_1 uk7_1 k7_1, .blk g0_0 29 [vm]]) [(1, vconfigs), (2, vreqs), (3, (.pointer (some ⟨g0_0, 0, none⟩))), (7, vk7_1), (8, (.int .i64 (k8_1 : Int)))]
  obtain ⟨mf1, rfl⟩ : ∃ m, fu1 = m + 1 := ⟨fu1 - 1, by omega⟩
  rw [F_spec_l7Rest_L1_s] at hL1
  refine TC.seq ?_
  refine TC.seq ?_
  refine TC.region ?_
  refine TL.op (yq (y_move (ev_t rfl))) rfl rfl rfl ?_
  refine TL.op (yq (y_move (ev_t rfl))) rfl rfl rfl ?_
  refine TL.op (yq (y_len (ev_t rfl) Try.underlying25 (fun w hw => ((ri_arg hreqs) w hw).ln))) rfl rfl rfl ?_
  refine TL.op (yq (y_leq (ev_t rfl) (ev_t rfl))) rfl rfl rfl ?_
  refine TL.nil ?_
  refine TN.seq ?_
  refine TC.cond (b := decide ((k8_1 : Int) ≤ (reqs.length : Int))) (ev_t rfl) (fun h141 => ?_) (fun h141 => ?_)
  · rw [bif_pos h141] at hL1
    have q142 := (of_decide_eq_true h141)
    refine TC.skip ?_
    refine TN.seq ?_
    refine TC.seq ?_
    refine TC.block ?_
    refine TC.region ?_
    refine TL.op (yq (y_move (ev_t rfl))) rfl rfl rfl ?_
    refine TL.op (yq (y_move (ev_t rfl))) rfl rfl rfl ?_
    refine TL.op (yq (y_len (ev_t rfl) Try.underlying22 (fun w hw => ((fun w hw => ((rii_arg hconfigs) w hw).1) w hw).ln))) rfl rfl rfl ?_
    refine TL.makeSlice (n := configs.length) (ev_t rfl) (ev_t rfl) (by omega) slT_25 rfl (by omega) (by unfold maxLen; omega) rfl (fun v5_3 => ?_)
    refine TL.cls (fun w hw => hw.zeros) ?_
    refine TL.buildU slT_22 (ev_t rfl) (fun w hw => ((ri_row 0 rfl) w hw).ln) rfl (fun v5_4 => ?_)
    refine TL.appendT 2 1 rfl (ev_t rfl) (ev_t rfl) rfl rfl slT_22 (rd_row 0 rfl) (by first | omega | (simp [-List.getD_eq_getElem?_getD] <;> omega)) rfl (fun v5_5 => ?_)
    refine TL.op (yq (y_assign (ev_t rfl))) rfl rfl rfl ?_
    refine TL.nil ?_
    refine TN.blockN ?_
    refine TN.seq ?_
    refine TC.region ?_
    refine TL.op (yq (y_move (ev_t rfl))) rfl rfl rfl ?_
    refine TL.op (yq (y_add (ev_t rfl) ev_c (by unfold In64; omega))) rfl rfl rfl ?_
    refine TL.op (yq (y_assign (ev_t rfl))) rfl rfl rfl ?_
    refine TL.nil ?_
    exact TN.hand (mf1, (k7_1 ++ [(List.replicate configs.length (0 : Int))]), (k8_1 + 1), v5_5, (uk7_1 ++ [v5_3])) ⟨(by first | omega | (simp [-List.getD_eq_getElem?_getD] <;> omega)), (by first | omega | (simp [-List.getD_eq_getElem?_getD] <;> omega)), (hi1_2.push (by omega)), (by omega), hL1⟩ (Nat.lt_succ_self _) ⟨rfl, rfl, rfl, rfl, rfl, trivial⟩ (fun w hw => Hp.sublist hw (.cons _ (.cons _ (.cons_cons _ (.cons_cons _ .slnil)))))
  · rw [bif_neg h141] at hL1
    have q142 := (of_decide_eq_false h141)
    refine TC.exit ?_
    refine TN.thenE ?_
    refine TN.thenE ?_
    rw [← hL1, elim_next] at hF
    try dsimp only at hF
    refine TN.blockH ?_
    refine TN.seq ?_
    refine TC.seq ?_
    refine TC.seq ?_
    refine TC.region ?_
    refine TL.op (yq (y_move (ev_t rfl))) rfl rfl rfl ?_
    refine TL.op (yq (y_len (ev_t rfl) Try.underlying25 (fun w hw => ((ri_arg hreqs) w hw).ln))) rfl rfl rfl ?_
    refine TL.op (yq (y_sub (ev_t rfl) ev_c (by unfold In64; omega))) rfl rfl rfl ?_
    refine TL.op (yq (y_assign (ev_t rfl))) rfl rfl rfl ?_
    refine TL.nil ?_
    refine TN.seq ?_
    refine TC.block ?_
    obtain ⟨c143, hc144⟩ : ∃ c, F_spec_l7Rest_L2 m configs reqs (((((reqs.length : Int) - 1) + 1).toNat) + 1) (((reqs.length : Int) - 1), k7_1) = c := ⟨_, rfl⟩
    rw [hc144] at hF
    refine TC.loop (ι := Nat × Int × List (List Int)) (fun (fu2, k9_2, m0_2) => [(1, vconfigs), (2, vreqs), (3, (.pointer (some ⟨g0_0, 0, none⟩))), (7, vk7_1), (9, (.int .i64 k9_2))]) (fun (fu2, k9_2, m0_2) => Hp w [tabI 25 3 vk7_1 uk7_1 m0_2, .blk g0_0 29 [vm]]) (fun (fu2, k9_2, m0_2) => (k9_2 < reqs.length) ∧ (-1 ≤ k9_2) ∧ (m0_2.length = reqs.length + 1) ∧ (Zr configs reqs.length m0_2) ∧ (k9_2 + 1).toNat < fu2 ∧ F_spec_l7Rest_L2 m configs reqs fu2 (k9_2, m0_2) = c143) (fun (fu2, k9_2, m0_2) => fu2) (((((reqs.length : Int) - 1) + 1).toNat) + 1, (reqs.length : Int) - 1, k7_1) ⟨(by first | omega | (simp [-List.getD_eq_getElem?_getD] <;> omega)), (by first | omega | (simp [-List.getD_eq_getElem?_getD] <;> omega)), (by omega), hi1_2, (by omega), hc144⟩ ⟨rfl, rfl, rfl, rfl, rfl, trivial⟩ (fun w hw => hw) ?_
    rintro ⟨fu2, k9_2, m0_2⟩ hJ2
    obtain ⟨hi2_0, hi2_1, hi2_2, hi2_3, hmu2, hL2⟩ : (k9_2 < reqs.length) ∧ (-1 ≤ k9_2) ∧ (m0_2.length = reqs.length + 1) ∧ (Zr configs reqs.length m0_2) ∧ (k9_2 + 1).toNat < fu2 ∧ F_spec_l7Rest_L2 m configs reqs fu2 (k9_2, m0_2) = c143 := hJ2
    change TC _ _ _ _ (Hp w [tabI 25 3 vk7_1 uk7_1 m0_2, .blk g0_0 29 [vm]]) [(1, vconfigs), (2, vreqs), (3, (.pointer (some ⟨g0_0, 0, none⟩))), (7, vk7_1), (9, (.int .i64 k9_2))]
    obtain ⟨mf2, rfl⟩ : ∃ m, fu2 = m + 1 := ⟨fu2 - 1, by omega⟩
    rw [F_spec_l7Rest_L2_s] at hL2
    have hre := fun h => hp2 k9_2.toNat h
    refine TC.seq ?_
    refine TC.seq ?_
    refine TC.region ?_
    refine TL.op (yq (y_move (ev_t rfl))) rfl rfl rfl ?_
    refine TL.op (yq (y_geq (ev_t rfl) ev_c)) rfl rfl rfl ?_
    refine TL.nil ?_
    refine TN.seq ?_
    refine TC.cond (b := decide (0 ≤ k9_2)) (ev_t rfl) (fun h145 => ?_) (fun h145 => ?_)
    · rw [bif_pos h145] at hL2
      have q146 := (of_decide_eq_true h145)
      refine TC.skip ?_
      refine TN.seq ?_
      refine TC.seq ?_
      refine TC.block ?_
      refine TC.seq ?_
      refine TC.region ?_
      refine TL.op (yq (y_assign ev_c)) rfl rfl rfl ?_
      refine TL.nil ?_
      refine TN.seq ?_
      refine TC.block ?_
      obtain ⟨c147, hc148⟩ : ∃ c, F_spec_l7Rest_L3 m configs reqs k9_2 ((configs.length - 0) + 1) (0, m0_2) = c := ⟨_, rfl⟩
      rw [hc148] at hL2
      refine TC.loop (ι := Nat × Nat × List (List Int)) (fun (fu3, k10_3, m0_3) => [(1, vconfigs), (2, vreqs), (3, (.pointer (some ⟨g0_0, 0, none⟩))), (7, vk7_1), (9, (.int .i64 k9_2)), (10, (.int .i64 (k10_3 : Int)))]) (fun (fu3, k10_3, m0_3) => Hp w [tabI 25 3 vk7_1 uk7_1 m0_3, .blk g0_0 29 [vm]]) (fun (fu3, k10_3, m0_3) => (k10_3 ≤ configs.length) ∧ (m0_3.length = reqs.length + 1) ∧ (Zr configs reqs.length m0_3) ∧ configs.length - k10_3 < fu3 ∧ F_spec_l7Rest_L3 m configs reqs k9_2 fu3 (k10_3, m0_3) = c147) (fun (fu3, k10_3, m0_3) => fu3) ((configs.length - 0) + 1, 0, m0_2) ⟨(by first | omega | (simp [-List.getD_eq_getElem?_getD] <;> omega)), hi2_2, hi2_3, (by omega), hc148⟩ ⟨rfl, rfl, rfl, rfl, rfl, rfl, trivial⟩ (fun w hw => hw) ?_
      rintro ⟨fu3, k10_3, m0_3⟩ hJ3
      obtain ⟨hi3_0, hi3_1, hi3_2, hmu3, hL3⟩ : (k10_3 ≤ configs.length) ∧ (m0_3.length = reqs.length + 1) ∧ (Zr configs reqs.length m0_3) ∧ configs.length - k10_3 < fu3 ∧ F_spec_l7Rest_L3 m configs reqs k9_2 fu3 (k10_3, m0_3) = c147 := hJ3
      change TC _ _ _ _ (Hp w [tabI 25 3 vk7_1 uk7_1 m0_3, .blk g0_0 29 [vm]]) [(1, vconfigs), (2, vreqs), (3, (.pointer (some ⟨g0_0, 0, none⟩))), (7, vk7_1), (9, (.int .i64 k9_2)), (10, (.int .i64 (k10_3 : Int)))]
      obtain ⟨mf3, rfl⟩ : ∃ m, fu3 = m + 1 := ⟨fu3 - 1, by omega⟩
      rw [F_spec_l7Rest_L3_s] at hL3
      have hzr := hi3_2 (k9_2 + 1).toNat (by omega)
      have hzr1 := hzr.1
      have hzt := hi3_2 k9_2.toNat (by omega)
      have hzt1 := hzt.1
      have hcf := hKc.cf k10_3
      have hre1 := hre (by omega)
      refine TC.seq ?_
      refine TC.seq ?_
      refine TC.region ?_
      refine TL.op (yq (y_move (ev_t rfl))) rfl rfl rfl ?_
      refine TL.op (yq (y_move (ev_t rfl))) rfl rfl rfl ?_
      refine TL.op (yq (y_len (ev_t rfl) Try.underlying22 (fun w hw => ((fun w hw => ((rii_arg hconfigs) w hw).1) w hw).ln))) rfl rfl rfl ?_
      refine TL.op (yq (y_lss (ev_t rfl) (ev_t rfl))) rfl rfl rfl ?_
      refine TL.nil ?_
      refine TN.seq ?_
      refine TC.cond (b := decide ((k10_3 : Int) < (configs.length : Int))) (ev_t rfl) (fun h149 => ?_) (fun h149 => ?_)
      · rw [bif_pos h149] at hL3
        have q150 := (of_decide_eq_true h149)
        refine TC.skip ?_
        refine TN.seq ?_
        refine TC.seq ?_
        refine TC.block ?_
        refine TC.seq ?_
        refine TC.region ?_
        refine TL.op (yq (y_assign ev_c)) rfl rfl rfl ?_
        refine TL.nil ?_
        refine TN.seq ?_
        refine TC.seq ?_
        refine TC.seq ?_
        refine TC.region ?_
        refine TL.op (yq (y_assign ev_c)) rfl rfl rfl ?_
        refine TL.nil ?_
        refine TN.seq ?_
        refine TC.block ?_
        obtain ⟨c151, hc152⟩ : ∃ c, F_spec_l7Rest_L4 m configs reqs k9_2 k10_3 m0_3 ((((configs.getD k10_3 []).length) - 0) + 1) ((-1), 0) = c := ⟨_, rfl⟩
        rw [hc152] at hL3
        refine TC.loop (ι := Nat × Int × Nat) (fun (fu4, k11_4, k12_4) => [(1, vconfigs), (2, vreqs), (3, (.pointer (some ⟨g0_0, 0, none⟩))), (7, vk7_1), (9, (.int .i64 k9_2)), (10, (.int .i64 (k10_3 : Int))), (11, (.int .i64 k11_4)), (12, (.int .i64 (k12_4 : Int)))]) (fun (fu4, k11_4, k12_4) => Hp w [tabI 25 3 vk7_1 uk7_1 m0_3, .blk g0_0 29 [vm]]) (fun (fu4, k11_4, k12_4) => (k12_4 ≤ ((configs.getD k10_3 []).length)) ∧ (-1 ≤ k11_4) ∧ (k11_4 ≤ 99 * ((reqs.length : Int) - k9_2)) ∧ (k12_4 = 0 ∨ 0 ≤ k11_4) ∧ ((configs.getD k10_3 []).length) - k12_4 < fu4 ∧ F_spec_l7Rest_L4 m configs reqs k9_2 k10_3 m0_3 fu4 (k11_4, k12_4) = c151) (fun (fu4, k11_4, k12_4) => fu4) ((((configs.getD k10_3 []).length) - 0) + 1, -1, 0) ⟨(by first | omega | (simp [-List.getD_eq_getElem?_getD] <;> omega)), (by first | omega | (simp [-List.getD_eq_getElem?_getD] <;> omega)), (by first | omega | (simp [-List.getD_eq_getElem?_getD] <;> omega)), (by first | omega | (simp [-List.getD_eq_getElem?_getD] <;> omega)), (by omega), hc152⟩ ⟨rfl, rfl, rfl, rfl, rfl, rfl, rfl, rfl, trivial⟩ (fun w hw => hw) ?_
        rintro ⟨fu4, k11_4, k12_4⟩ hJ4
        obtain ⟨hi4_0, hi4_1, hi4_2, hi4_3, hmu4, hL4⟩ : (k12_4 ≤ ((configs.getD k10_3 []).length)) ∧ (-1 ≤ k11_4) ∧ (k11_4 ≤ 99 * ((reqs.length : Int) - k9_2)) ∧ (k12_4 = 0 ∨ 0 ≤ k11_4) ∧ ((configs.getD k10_3 []).length) - k12_4 < fu4 ∧ F_spec_l7Rest_L4 m configs reqs k9_2 k10_3 m0_3 fu4 (k11_4, k12_4) = c151 := hJ4
        change TC _ _ _ _ (Hp w [tabI 25 3 vk7_1 uk7_1 m0_3, .blk g0_0 29 [vm]]) [(1, vconfigs), (2, vreqs), (3, (.pointer (some ⟨g0_0, 0, none⟩))), (7, vk7_1), (9, (.int .i64 k9_2)), (10, (.int .i64 (k10_3 : Int))), (11, (.int .i64 k11_4)), (12, (.int .i64 (k12_4 : Int)))]
        obtain ⟨mf4, rfl⟩ : ∃ m, fu4 = m + 1 := ⟨fu4 - 1, by omega⟩
        rw [F_spec_l7Rest_L4_s] at hL4
        have hcf1 := hcf (by omega)
        have hn1 := hcf1.n1
        have hn3 := hcf1.n3
        have hsw := hp0.swap k10_3 k12_4 hre1.1 hre1.2 (by omega)
        have hwx := hzr.2 (F_spec_l7Index configs (F_spec_l7Swap (configs.getD k10_3 []) (k12_4 : Int) (reqs.getD k9_2.toNat 0))).toNat
        have hpe := hcf1.el k12_4
        have hrw := hTab.rows ((configs.getD k10_3 []).getD k12_4 0).toNat
        have hme := el_bd hKc.tp ((configs.getD k10_3 []).getD k12_4 0).toNat (reqs.getD k9_2.toNat 0).toNat
        unfold el at hme
        refine TC.seq ?_
        refine TC.seq ?_
        refine TC.region ?_
        refine TL.op (yq (y_move (ev_t rfl))) rfl rfl rfl ?_
        refine TL.op (yq (y_move (ev_t rfl))) rfl rfl rfl ?_
        refine TL.op (yq (y_move (ev_t rfl))) rfl rfl rfl ?_
        have hb153 : k10_3 < configs.length := (by first | omega | (simp only [List.length_set, List.length_append, List.length_cons, List.length_nil, List.length_replicate]; omega) | (rw [sortI_length]; simp only [List.length_cons, List.length_nil]; omega))
        refine TL.op (yq (y_idx (k := k10_3) (ev_t rfl) (ev_t rfl) (by first | omega | simp) slT_22 (fun w hw => ((rii_arg hconfigs) w hw).1) hb153)) rfl rfl rfl ?_
        have ha154 := hconfigs.row (i := k10_3) hb153
        refine TL.op (yq (y_ldA (ev_t rfl) one_25 (rii_arg hconfigs) hb153)) rfl rfl rfl ?_
        refine TL.op (yq (y_len (ev_t rfl) Try.underlying25 (fun w hw => ((ri_arg ha154) w hw).ln))) rfl rfl rfl ?_
        refine TL.op (yq (y_lss (ev_t rfl) (ev_t rfl))) rfl rfl rfl ?_
        refine TL.nil ?_
        refine TN.seq ?_
        refine TC.cond (b := decide ((k12_4 : Int) < ((configs.getD k10_3 []).length : Int))) (ev_t rfl) (fun h155 => ?_) (fun h155 => ?_)
        · rw [bif_pos h155] at hL4
          have q156 := (of_decide_eq_true h155)
          refine TC.skip ?_
          refine TN.seq ?_
          refine TC.seq ?_
          refine TC.block ?_
          refine TC.seq ?_
          refine TC.regionT 9 (by kernel_rfl) (by kernel_rfl) dr_hp ?_
          refine TQ.op (yq (y_move (ev_t rfl))) rfl rfl rfl ?_
          refine TQ.op (yq (y_move (ev_t rfl))) rfl rfl rfl ?_
          have hb157 : k10_3 < configs.length := (by first | omega | (simp only [List.length_set, List.length_append, List.length_cons, List.length_nil, List.length_replicate]; omega) | (rw [sortI_length]; simp only [List.length_cons, List.length_nil]; omega))
          refine TQ.op (yq (y_idx (k := k10_3) (ev_t rfl) (ev_t rfl) (by first | omega | simp) slT_22 (fun w hw => ((rii_arg hconfigs) w hw).1) hb157)) rfl rfl rfl ?_
          have ha158 := hconfigs.row (i := k10_3) hb157
          refine TQ.op (yq (y_ldA (ev_t rfl) one_25 (rii_arg hconfigs) hb157)) rfl rfl rfl ?_
          refine TQ.op (yq (y_move (ev_t rfl))) rfl rfl rfl ?_
          refine TQ.op (yq (y_move (ev_t rfl))) rfl rfl rfl ?_
          refine TQ.op (yq (y_move (ev_t rfl))) rfl rfl rfl ?_
          have hb159 : (k9_2).toNat < reqs.length := (by first | omega | (simp only [List.length_set, List.length_append, List.length_cons, List.length_nil, List.length_replicate]; omega) | (rw [sortI_length]; simp only [List.length_cons, List.length_nil]; omega))
          refine TQ.op (yq (y_idx (k := (k9_2).toNat) (ev_t rfl) (ev_t rfl) (by first | omega | simp) slT_25 (ri_arg hreqs) hb159)) rfl rfl rfl ?_
          refine TQ.op (yq (y_ldi (ev_t rfl) one_3 (ri_arg hreqs) hb159)) rfl rfl rfl ?_
          refine TQ.tail ?_
          refine TL.callr (ι := Value) (vs := [(uconfigs.getD k10_3 undef), (.int .i64 (k12_4 : Int)), (.int .i64 (reqs.getD ((k9_2).toNat) 0))]) (fun i => i) (fun i => [rowI 3 i (F_spec_l7Swap (configs.getD k10_3 []) (k12_4 : Int) (reqs.getD ((k9_2).toNat) 0))]) en_112 ⟨(ev_t rfl), (ev_t rfl), (ev_t rfl), trivial⟩ rfl (fun w hw => spec_l7Swap_ok w (uconfigs.getD k10_3 undef) (configs.getD k10_3 []) ((ri_arg ha158) w hw) (k12_4 : Int) (reqs.getD ((k9_2).toNat) 0) (by first | assumption | omega | grind) (by first | assumption | omega | grind)) (fun r16_9 => ?_)
          refine TL.op (yq (y_assign (ev_t rfl))) rfl rfl rfl ?_
          refine TL.nil ?_
          refine TN.seq ?_
          refine TC.seq ?_
          refine TC.regionQ (by kernel_rfl) (by kernel_rfl) dr_hp ?_
          refine TQ.op (yq (y_fa (fa_29_0 g0_0) (ev_t rfl))) rfl rfl rfl ?_
          refine TQ.op (yq (y_ldb 2 (ev_t rfl) one_22 rfl rfl)) rfl rfl rfl ?_
          refine TQ.op (yq (y_move (ev_t rfl))) rfl rfl rfl ?_
          refine TQ.op (yq (y_move (ev_t rfl))) rfl rfl rfl ?_
          have hb160 : k10_3 < configs.length := (by first | omega | (simp only [List.length_set, List.length_append, List.length_cons, List.length_nil, List.length_replicate]; omega) | (rw [sortI_length]; simp only [List.length_cons, List.length_nil]; omega))
          refine TQ.op (yq (y_idx (k := k10_3) (ev_t rfl) (ev_t rfl) (by first | omega | simp) slT_22 (fun w hw => ((rii_arg hconfigs) w hw).1) hb160)) rfl rfl rfl ?_
          have ha161 := hconfigs.row (i := k10_3) hb160
          refine TQ.op (yq (y_ldA (ev_t rfl) one_25 (rii_arg hconfigs) hb160)) rfl rfl rfl ?_
          refine TQ.op (yq (y_move (ev_t rfl))) rfl rfl rfl ?_
          have hb162 : k12_4 < (configs.getD k10_3 []).length := (by first | omega | (simp only [List.length_set, List.length_append, List.length_cons, List.length_nil, List.length_replicate]; omega) | (rw [sortI_length]; simp only [List.length_cons, List.length_nil]; omega))
          refine TQ.op (yq (y_idx (k := k12_4) (ev_t rfl) (ev_t rfl) (by first | omega | simp) slT_25 (ri_arg ha161) hb162)) rfl rfl rfl ?_
          refine TQ.op (yq (y_ldi (ev_t rfl) one_3 (ri_arg ha161) hb162)) rfl rfl rfl ?_
          have hb163 : (((configs.getD k10_3 []).getD k12_4 0)).toNat < m.length := (by first | omega | (simp only [List.length_set, List.length_append, List.length_cons, List.length_nil, List.length_replicate]; omega) | (rw [sortI_length]; simp only [List.length_cons, List.length_nil]; omega))
          refine TQ.op (yq (y_idx (k := (((configs.getD k10_3 []).getD k12_4 0)).toNat) (ev_t rfl) (ev_t rfl) (by first | omega | simp) slT_22 (fun w hw => ((rii_arg hm) w hw).1) hb163)) rfl rfl rfl ?_
          have ha164 := hm.row (i := (((configs.getD k10_3 []).getD k12_4 0)).toNat) hb163
          refine TQ.op (yq (y_ldA (ev_t rfl) one_25 (rii_arg hm) hb163)) rfl rfl rfl ?_
          refine TQ.op (yq (y_move (ev_t rfl))) rfl rfl rfl ?_
          refine TQ.op (yq (y_move (ev_t rfl))) rfl rfl rfl ?_
          have hb165 : (k9_2).toNat < reqs.length := (by first | omega | (simp only [List.length_set, List.length_append, List.length_cons, List.length_nil, List.length_replicate]; omega) | (rw [sortI_length]; simp only [List.length_cons, List.length_nil]; omega))
          refine TQ.op (yq (y_idx (k := (k9_2).toNat) (ev_t rfl) (ev_t rfl) (by first | omega | simp) slT_25 (ri_arg hreqs) hb165)) rfl rfl rfl ?_
          refine TQ.op (yq (y_ldi (ev_t rfl) one_3 (ri_arg hreqs) hb165)) rfl rfl rfl ?_
          have hb166 : ((reqs.getD ((k9_2).toNat) 0)).toNat < (m.getD ((((configs.getD k10_3 []).getD k12_4 0)).toNat) []).length := (by first | omega | (simp only [List.length_set, List.length_append, List.length_cons, List.length_nil, List.length_replicate]; omega) | (rw [sortI_length]; simp only [List.length_cons, List.length_nil]; omega))
          refine TQ.op (yq (y_idx (k := ((reqs.getD ((k9_2).toNat) 0)).toNat) (ev_t rfl) (ev_t rfl) (by first | omega | simp) slT_25 (ri_arg ha164) hb166)) rfl rfl rfl ?_
          refine TQ.op (yq (y_ldi (ev_t rfl) one_3 (ri_arg ha164) hb166)) rfl rfl rfl ?_
          refine TQ.op (yq (y_move (ev_t rfl))) rfl rfl rfl ?_
          refine TQ.op (yq (y_move (ev_t rfl))) rfl rfl rfl ?_
          refine TQ.op (yq (y_add (ev_t rfl) ev_c (by unfold In64; omega))) rfl rfl rfl ?_
          have hb167 : (k9_2 + 1).toNat < m0_3.length := (by first | omega | (simp only [List.length_set, List.length_append, List.length_cons, List.length_nil, List.length_replicate]; omega) | (rw [sortI_length]; simp only [List.length_cons, List.length_nil]; omega))
          refine TQ.op (yq (y_idx (k := (k9_2 + 1).toNat) (ev_t rfl) (ev_t rfl) (by first | omega | simp) slT_22 (fun w hw => ((rii_tab 1 rfl) w hw).1) hb167)) rfl rfl rfl ?_
          refine TQ.op (yq (y_ldT 1 (ev_t rfl) one_25 rfl hb167)) rfl rfl rfl ?_
          refine TQ.op (yq (y_move (ev_t rfl))) rfl rfl rfl ?_
          refine TQ.op (yq (y_move (ev_t rfl))) rfl rfl rfl ?_
          refine TQ.op (y_call (vs := [vconfigs, r16_9]) (v := (.int .i64 (F_spec_l7Index configs (F_spec_l7Swap (configs.getD k10_3 []) (k12_4 : Int) (reqs.getD ((k9_2).toNat) 0))))) en_69 ⟨(ev_t rfl), (ev_t rfl), trivial⟩ (fun w hw => spec_l7Index_ok w vconfigs uconfigs configs ((rii_arg hconfigs) w hw) r16_9 (F_spec_l7Swap (configs.getD k10_3 []) (k12_4 : Int) (reqs.getD ((k9_2).toNat) 0)) ((ri_row 0 rfl) w hw))) rfl rfl rfl ?_
          have hb168 : ((F_spec_l7Index configs (F_spec_l7Swap (configs.getD k10_3 []) (k12_4 : Int) (reqs.getD ((k9_2).toNat) 0)))).toNat < (m0_3.getD ((k9_2 + 1).toNat) []).length := (by first | omega | (simp only [List.length_set, List.length_append, List.length_cons, List.length_nil, List.length_replicate]; omega) | (rw [sortI_length]; simp only [List.length_cons, List.length_nil]; omega))
          refine TQ.op (yq (y_idx (k := ((F_spec_l7Index configs (F_spec_l7Swap (configs.getD k10_3 []) (k12_4 : Int) (reqs.getD ((k9_2).toNat) 0)))).toNat) (ev_t rfl) (ev_t rfl) (by first | omega | simp) slT_25 (ri_tab 1 ((k9_2 + 1).toNat) rfl hb167) hb168)) rfl rfl rfl ?_
          refine TQ.op (yq (y_ldi (ev_t rfl) one_3 (ri_tab 1 ((k9_2 + 1).toNat) rfl hb167) hb168)) rfl rfl rfl ?_
          refine TQ.op (yq (y_add (ev_t rfl) (ev_t rfl) (by unfold In64; omega))) rfl rfl rfl ?_
          refine TQ.op (yq (y_assign (ev_t rfl))) rfl rfl rfl ?_
          refine TQ.nil ?_
          refine TN.seq ?_
          refine TC.seq ?_
          refine TC.region ?_
          refine TL.op (yq (y_move (ev_t rfl))) rfl rfl rfl ?_
          refine TL.op (yq (y_lss (ev_t rfl) ev_c)) rfl rfl rfl ?_
          refine TL.op (yq (y_move (ev_t rfl))) rfl rfl rfl ?_
          refine TL.opw (w_f rfl rfl rfl) (fun hg => yq (y_move (ev_t rfl))) rfl rfl ?_
          refine TL.opw (w_f rfl rfl rfl) (fun hg => yq (y_move (ev_t rfl))) rfl rfl ?_
          refine TL.opw (w_f rfl rfl rfl) (fun hg => yq (y_lss (ev_g rfl hg) (ev_g rfl hg))) rfl rfl ?_
          refine TL.op (yq (y_or (ev_t rfl) (fun hq => (ev_g rfl hq)))) rfl rfl rfl ?_
          refine TL.nil ?_
          refine TN.seq ?_
          refine TC.cond (b := ((decide (k11_4 < 0)) || (decide (((m.getD ((((configs.getD k10_3 []).getD k12_4 0)).toNat) []).getD (((reqs.getD ((k9_2).toNat) 0)).toNat) 0) + ((m0_3.getD ((k9_2 + 1).toNat) []).getD (((F_spec_l7Index configs (F_spec_l7Swap (configs.getD k10_3 []) (k12_4 : Int) (reqs.getD ((k9_2).toNat) 0)))).toNat) 0) < k11_4)))) (ev_t rfl) (fun h169 => ?_) (fun h169 => ?_)
          · rw [bif_pos h169] at hL4
            have q170 := ((or_t h169).imp (fun h => (of_decide_eq_true h)) (fun h => (of_decide_eq_true h)))
            refine TC.region ?_
            refine TL.op (yq (y_move (ev_t rfl))) rfl rfl rfl ?_
            refine TL.op (yq (y_assign (ev_t rfl))) rfl rfl rfl ?_
            refine TL.nil ?_
            refine TN.blockN ?_
            refine TN.seq ?_
            refine TC.region ?_
            refine TL.op (yq (y_move (ev_t rfl))) rfl rfl rfl ?_
            refine TL.op (yq (y_add (ev_t rfl) ev_c (by unfold In64; omega))) rfl rfl rfl ?_
            refine TL.op (yq (y_assign (ev_t rfl))) rfl rfl rfl ?_
            refine TL.nil ?_
            exact TN.hand (mf4, ((m.getD ((((configs.getD k10_3 []).getD k12_4 0)).toNat) []).getD (((reqs.getD ((k9_2).toNat) 0)).toNat) 0) + ((m0_3.getD ((k9_2 + 1).toNat) []).getD (((F_spec_l7Index configs (F_spec_l7Swap (configs.getD k10_3 []) (k12_4 : Int) (reqs.getD ((k9_2).toNat) 0)))).toNat) 0), (k12_4 + 1)) ⟨(by first | omega | (simp [-List.getD_eq_getElem?_getD] <;> omega)), (by first | omega | (simp [-List.getD_eq_getElem?_getD] <;> omega)), (by first | omega | (simp [-List.getD_eq_getElem?_getD] <;> omega)), (by first | omega | (simp [-List.getD_eq_getElem?_getD] <;> omega)), (by omega), hL4⟩ (Nat.lt_succ_self _) ⟨rfl, rfl, rfl, rfl, rfl, rfl, rfl, rfl, trivial⟩ (fun w hw => Hp.sublist hw (.cons _ (.cons_cons _ (.cons_cons _ .slnil))))
          · rw [bif_neg h169] at hL4
            have q170 := (and_imp (or_f h169) (fun h => (of_decide_eq_false h)) (fun h => (of_decide_eq_false h)))
            refine TC.skip ?_
            refine TN.blockN ?_
            refine TN.seq ?_
            refine TC.region ?_
            refine TL.op (yq (y_move (ev_t rfl))) rfl rfl rfl ?_
            refine TL.op (yq (y_add (ev_t rfl) ev_c (by unfold In64; omega))) rfl rfl rfl ?_
            refine TL.op (yq (y_assign (ev_t rfl))) rfl rfl rfl ?_
            refine TL.nil ?_
            exact TN.hand (mf4, k11_4, (k12_4 + 1)) ⟨(by first | omega | (simp [-List.getD_eq_getElem?_getD] <;> omega)), (by first | omega | (simp [-List.getD_eq_getElem?_getD] <;> omega)), (by first | omega | (simp [-List.getD_eq_getElem?_getD] <;> omega)), (by first | omega | (simp [-List.getD_eq_getElem?_getD] <;> omega)), (by omega), hL4⟩ (Nat.lt_succ_self _) ⟨rfl, rfl, rfl, rfl, rfl, rfl, rfl, rfl, trivial⟩ (fun w hw => Hp.sublist hw (.cons _ (.cons_cons _ (.cons_cons _ .slnil))))
        · rw [bif_neg h155] at hL4
          have q156 := (of_decide_eq_false h155)
          refine TC.exit ?_
          refine TN.thenE ?_
          refine TN.thenE ?_
          rw [← hL4, elim_next] at hL3
          try dsimp only at hL3
          refine TN.blockH ?_
          refine TN.seq ?_
          refine TC.region ?_
          refine TL.op (yq (y_move (ev_t rfl))) rfl rfl rfl ?_
          refine TL.op (yq (y_move (ev_t rfl))) rfl rfl rfl ?_
          have hb171 : (k9_2).toNat < m0_3.length := (by first | omega | (simp only [List.length_set, List.length_append, List.length_cons, List.length_nil, List.length_replicate]; omega) | (rw [sortI_length]; simp only [List.length_cons, List.length_nil]; omega))
          refine TL.op (yq (y_idx (k := (k9_2).toNat) (ev_t rfl) (ev_t rfl) (by first | omega | simp) slT_22 (fun w hw => ((rii_tab 0 rfl) w hw).1) hb171)) rfl rfl rfl ?_
          refine TL.op (yq (y_ldT 0 (ev_t rfl) one_25 rfl hb171)) rfl rfl rfl ?_
          refine TL.op (yq (y_move (ev_t rfl))) rfl rfl rfl ?_
          refine TL.op (yq (y_move (ev_t rfl))) rfl rfl rfl ?_
          have hb172 : k10_3 < (m0_3.getD ((k9_2).toNat) []).length := (by first | omega | (simp only [List.length_set, List.length_append, List.length_cons, List.length_nil, List.length_replicate]; omega) | (rw [sortI_length]; simp only [List.length_cons, List.length_nil]; omega))
          refine TL.op (yq (y_idx (k := k10_3) (ev_t rfl) (ev_t rfl) (by first | omega | simp) slT_25 (ri_tab 0 ((k9_2).toNat) rfl hb171) hb172)) rfl rfl rfl ?_
          refine TL.storeT 0 (ev_t rfl) (ev_t rfl) one_3 rfl hb171 hb172 ?_
          refine TL.nil ?_
          refine TN.blockN ?_
          refine TN.seq ?_
          refine TC.region ?_
          refine TL.op (yq (y_move (ev_t rfl))) rfl rfl rfl ?_
          refine TL.op (yq (y_add (ev_t rfl) ev_c (by unfold In64; omega))) rfl rfl rfl ?_
          refine TL.op (yq (y_assign (ev_t rfl))) rfl rfl rfl ?_
          refine TL.nil ?_
          exact TN.hand (mf3, (k10_3 + 1), (m0_3.set ((k9_2).toNat) ((m0_3.getD ((k9_2).toNat) []).set k10_3 k11_4))) ⟨(by first | omega | (simp [-List.getD_eq_getElem?_getD] <;> omega)), (by simp only [List.length_set]; exact hi3_1), (hi3_2.set (by omega) (by omega)), (by omega), hL3⟩ (Nat.lt_succ_self _) ⟨rfl, rfl, rfl, rfl, rfl, rfl, trivial⟩ (fun w hw => hw)
      · rw [bif_neg h149] at hL3
        have q150 := (of_decide_eq_false h149)
        refine TC.exit ?_
        refine TN.thenE ?_
        refine TN.thenE ?_
        rw [← hL3, elim_next] at hL2
        try dsimp only at hL2
        refine TN.blockH ?_
        refine TN.blockN ?_
        refine TN.seq ?_
        refine TC.region ?_
        refine TL.op (yq (y_move (ev_t rfl))) rfl rfl rfl ?_
        refine TL.op (yq (y_sub (ev_t rfl) ev_c (by unfold In64; omega))) rfl rfl rfl ?_
        refine TL.op (yq (y_assign (ev_t rfl))) rfl rfl rfl ?_
        refine TL.nil ?_
        exact TN.hand (mf2, k9_2 - 1, m0_3) ⟨(by first | omega | (simp [-List.getD_eq_getElem?_getD] <;> omega)), (by first | omega | (simp [-List.getD_eq_getElem?_getD] <;> omega)), hi3_1, hi3_2, (by omega), hL2⟩ (Nat.lt_succ_self _) ⟨rfl, rfl, rfl, rfl, rfl, trivial⟩ (fun w hw => hw)
    · rw [bif_neg h145] at hL2
      have q146 := (of_decide_eq_false h145)
      refine TC.exit ?_
      refine TN.thenE ?_
      refine TN.thenE ?_
      rw [← hL2, elim_next] at hF
      try dsimp only at hF
      refine TN.blockH ?_
      refine TN.seq ?_
      refine TC.seq ?_
      refine TC.region ?_
      refine TL.op (yq (y_move (ev_t rfl))) rfl rfl rfl ?_
      refine TL.op (yq (y_assign (ev_t rfl))) rfl rfl rfl ?_
      refine TL.nil ?_
      refine TN.seq ?_
      refine TC.ret ?_
      subst hF
      exact TN.ret1 rfl (ev_t rfl) (fun w' hw => ⟨(vk7_1, uk7_1), rfl, Hp.sublist hw (.cons_cons _ (.cons _ .slnil))⟩)

set_option maxRecDepth 4000 in
set_option maxHeartbeats 1000000 in
theorem spec_l7First_ok (w : World) (vm : Value) (um : List Value) (m : List (List Int)) (hm : RII w vm um m) (vconfigs : Value) (uconfigs : List Value) (configs : List (List Int)) (hconfigs : RII w vconfigs uconfigs configs) (vrest : Value) (rest : List Int) (hrest : RI w vrest rest) (vx : Value) (x : List Int) (hx : RI w vx x) (r : Int) (cost : Int) (hp0 : Ksc m configs) (hp1 : Cf m.length x) (hp2 : ∀ i, i < configs.length → x.length = (configs.getD i []).length) (hp3 : rest.length = configs.length) (hp4 : ∀ i, 0 ≤ rest.getD i 0 ∧ rest.getD i 0 ≤ 1073741824) :
    Calls Try.prog 90 ([(.agg #[vm]), vconfigs, vrest, vx, (.int .i64 r), (.int .i64 cost)] : List Value).toArray w (Ret (rowref uconfigs vx (F_spec_l7First m configs rest x r cost)) (Hp w [])) := by
  obtain ⟨rz, hF⟩ : ∃ rz, (F_spec_l7First m configs rest x r cost) = rz := ⟨_, rfl⟩
  rw [hF]
  unfold F_spec_l7First at hF
  have hTab := hp0.tab
  have h56 := hp0.n56
  have hlen_m := argT_len hm
  have hlen_configs := argT_len hconfigs
  have hlen_rest := arg_len hrest
  have hlen_x := arg_len hx
  refine calls_tc Try.func90 rfl rfl rfl ?_
  change TC _ _ _ _ (Hp w []) [(0, (.agg #[vm])), (1, vconfigs), (2, vrest), (3, vx), (4, (.int .i64 r)), (5, (.int .i64 cost))]
  refine TC.seq ?_
  refine TC.region ?_
  refine TL.box (ev_t rfl) rfl (fun g0_0 => ?_)
  refine TL.op (yq (y_assign ev_c)) rfl rfl rfl ?_
  refine TL.nil ?_
  refine TN.seq ?_
  refine TC.seq ?_
  refine TC.seq ?_
  refine TC.region ?_
  refine TL.op (yq (y_assign ev_c)) rfl rfl rfl ?_
  refine TL.nil ?_
  refine TN.seq ?_
  refine TC.block ?_
  obtain ⟨c17, hc18⟩ : ∃ c, F_spec_l7First_L1 m configs rest x r cost ((configs.length - 0) + 1) 0 = c := ⟨_, rfl⟩
  rw [hc18] at hF
  refine TC.loop (ι := Nat × Nat) (fun (fu1, i1) => [(1, vconfigs), (2, vrest), (3, vx), (4, (.int .i64 r)), (5, (.int .i64 cost)), (6, (.pointer (some ⟨g0_0, 0, none⟩))), (13, (.int .i64 (i1 : Int)))]) (fun (fu1, i1) => Hp w [.blk g0_0 29 [vm]]) (fun (fu1, i1) => (i1 ≤ configs.length) ∧ configs.length - i1 < fu1 ∧ F_spec_l7First_L1 m configs rest x r cost fu1 i1 = c17) (fun (fu1, i1) => fu1) ((configs.length - 0) + 1, 0) ⟨(by first | omega | (simp [-List.getD_eq_getElem?_getD] <;> omega)), (by omega), hc18⟩ ⟨rfl, rfl, rfl, rfl, rfl, rfl, rfl, trivial⟩ (fun w hw => hw) ?_
  rintro ⟨fu1, i1⟩ hJ1
  obtain ⟨hi1_0, hmu1, hL1⟩ : (i1 ≤ configs.length) ∧ configs.length - i1 < fu1 ∧ F_spec_l7First_L1 m configs rest x r cost fu1 i1 = c17 := hJ1
  change TC _ _ _ _ (Hp w [.blk g0_0 29 [vm]]) [(1, vconfigs), (2, vrest), (3, vx), (4, (.int .i64 r)), (5, (.int .i64 cost)), (6, (.pointer (some ⟨g0_0, 0, none⟩))), (13, (.int .i64 (i1 : Int)))]
  obtain ⟨mf1, rfl⟩ : ∃ m, fu1 = m + 1 := ⟨fu1 - 1, by omega⟩
  rw [F_spec_l7First_L1_s] at hL1
  have hcf := hp0.cf i1
  have hcl := hp2 i1
  have hre := hp4 i1
  have hmv := fun h => l6Move_le hp0.tp hp1 (hcf h) (hcl h)
  refine TC.seq ?_
  refine TC.seq ?_
  refine TC.region ?_
  refine TL.op (yq (y_move (ev_t rfl))) rfl rfl rfl ?_
  refine TL.op (yq (y_move (ev_t rfl))) rfl rfl rfl ?_
  refine TL.op (yq (y_len (ev_t rfl) Try.underlying22 (fun w hw => ((fun w hw => ((rii_arg hconfigs) w hw).1) w hw).ln))) rfl rfl rfl ?_
  refine TL.op (yq (y_lss (ev_t rfl) (ev_t rfl))) rfl rfl rfl ?_
  refine TL.nil ?_
  refine TN.seq ?_
  refine TC.cond (b := decide ((i1 : Int) < (configs.length : Int))) (ev_t rfl) (fun h19 => ?_) (fun h19 => ?_)
  · rw [bif_pos h19] at hL1
    have q20 := (of_decide_eq_true h19)
    refine TC.skip ?_
    refine TN.seq ?_
    refine TC.seq ?_
    refine TC.block ?_
    refine TC.seq ?_
    refine TC.regionQ (by kernel_rfl) (by kernel_rfl) dr_hp ?_
    refine TQ.op (yq (y_move (ev_t rfl))) rfl rfl rfl ?_
    refine TQ.op (yq (y_move (ev_t rfl))) rfl rfl rfl ?_
    have hb21 : i1 < configs.length := (by first | omega | (simp only [List.length_set, List.length_append, List.length_cons, List.length_nil, List.length_replicate]; omega) | (rw [sortI_length]; simp only [List.length_cons, List.length_nil]; omega))
    refine TQ.op (yq (y_idx (k := i1) (ev_t rfl) (ev_t rfl) (by first | omega | simp) slT_22 (fun w hw => ((rii_arg hconfigs) w hw).1) hb21)) rfl rfl rfl ?_
    have ha22 := hconfigs.row (i := i1) hb21
    refine TQ.op (yq (y_ldA (ev_t rfl) one_25 (rii_arg hconfigs) hb21)) rfl rfl rfl ?_
    refine TQ.op (yq (y_move (ev_t rfl))) rfl rfl rfl ?_
    refine TQ.op (y_call (vs := [(uconfigs.getD i1 undef), (.int .i64 r)]) (v := (.bool (F_spec_l1Has (configs.getD i1 []) r))) en_120 ⟨(ev_t rfl), (ev_t rfl), trivial⟩ (fun w hw => spec_l1Has_ok w (uconfigs.getD i1 undef) (configs.getD i1 []) ((ri_arg ha22) w hw) r)) rfl rfl rfl ?_
    refine TQ.op (yq (y_move (ev_t rfl))) rfl rfl rfl ?_
    refine TQ.opw (w_t rfl rfl rfl) (fun hg => yq (y_ldagg (cs := [vm]) 0 (ev_t rfl) agg_29 rfl)) rfl rfl ?_
    refine TQ.opw (w_t rfl rfl rfl) (fun hg => yq (y_move (ev_t rfl))) rfl rfl ?_
    refine TQ.opw (w_t rfl rfl rfl) (fun hg => yq (y_move (ev_t rfl))) rfl rfl ?_
    refine TQ.opw (w_t rfl rfl rfl) (fun hg => yq (y_move (ev_t rfl))) rfl rfl ?_
    refine TQ.opw (w_t rfl rfl rfl) (fun hg => yq (y_idx (k := i1) (ev_g rfl hg) (ev_g rfl hg) (by first | omega | simp) slT_22 (fun w hw => ((rii_arg hconfigs) w hw).1) (show i1 < configs.length by have hgf := hg; omega))) rfl rfl ?_
    refine TQ.opw (w_t rfl rfl rfl) (fun hg => yq (y_ldA (ev_g rfl hg) one_25 (rii_arg hconfigs) (show i1 < configs.length by have hgf := hg; omega))) rfl rfl ?_
    refine TQ.opw (w_t rfl rfl rfl) (fun hg => y_call (vs := [(.agg #[vm]), vx, (uconfigs.getD i1 undef)]) (v := (.int .i64 (F_spec_l6Move m x (configs.getD i1 [])))) en_76 ⟨(ev_g rfl hg), (ev_g rfl hg), (ev_g rfl hg), trivial⟩ (fun w hw => spec_l6Move_ok w vm um m ((rii_arg hm) w hw) vx x ((ri_arg hx) w hw) (uconfigs.getD i1 undef) (configs.getD i1 []) ((ri_arg (hconfigs.row (i := i1) (show i1 < configs.length by have hgf := hg; omega))) w hw) (by have hgf := hg; first | assumption | omega | (have hq := hgf.n6; omega) | (have hq := hgf.1.n6; omega) | grind) (by have hgf := hg; first | assumption | omega | (have hq := hgf.n6; omega) | (have hq := hgf.1.n6; omega) | grind) (by have hgf := hg; first | assumption | omega | (have hq := hgf.n6; omega) | (have hq := hgf.1.n6; omega) | grind) (by have hgf := hg; first | assumption | omega | (have hq := hgf.n6; omega) | (have hq := hgf.1.n6; omega) | grind))) rfl rfl ?_
    refine TQ.opw (w_t rfl rfl rfl) (fun hg => yq (y_move (ev_t rfl))) rfl rfl ?_
    refine TQ.opw (w_t rfl rfl rfl) (fun hg => yq (y_move (ev_t rfl))) rfl rfl ?_
    refine TQ.opw (w_t rfl rfl rfl) (fun hg => yq (y_idx (k := i1) (ev_g rfl hg) (ev_g rfl hg) (by first | omega | simp) slT_25 (ri_arg hrest) (show i1 < rest.length by have hgf := hg; omega))) rfl rfl ?_
    refine TQ.opw (w_t rfl rfl rfl) (fun hg => yq (y_ldi (ev_g rfl hg) one_3 (ri_arg hrest) (show i1 < rest.length by have hgf := hg; omega))) rfl rfl ?_
    refine TQ.opw (w_t rfl rfl rfl) (fun hg => yq (y_add (ev_g rfl hg) (ev_g rfl hg) (by unfold In64; omega))) rfl rfl ?_
    refine TQ.opw (w_t rfl rfl rfl) (fun hg => yq (y_move (ev_t rfl))) rfl rfl ?_
    refine TQ.opw (w_t rfl rfl rfl) (fun hg => yq (y_eql (ev_g rfl hg) (ev_g rfl hg))) rfl rfl ?_
    refine TQ.op (yq (y_and (ev_t rfl) (fun hq => (ev_g rfl hq)))) rfl rfl rfl ?_
    refine TQ.nil ?_
    refine TN.seq ?_
    refine TC.cond (b := ((F_spec_l1Has (configs.getD i1 []) r) && (decide ((F_spec_l6Move m x (configs.getD i1 [])) + (rest.getD i1 0) = cost)))) (ev_t rfl) (fun h23 => ?_) (fun h23 => ?_)
    · rw [bif_pos h23] at hL1
      have q24 := (and_imp (and_t h23) (fun h => h) (fun h => (of_decide_eq_true h)))
      refine TC.seq ?_
      refine TC.region ?_
      refine TL.op (yq (y_move (ev_t rfl))) rfl rfl rfl ?_
      refine TL.op (yq (y_move (ev_t rfl))) rfl rfl rfl ?_
      have hb25 : i1 < configs.length := (by first | omega | (simp only [List.length_set, List.length_append, List.length_cons, List.length_nil, List.length_replicate]; omega) | (rw [sortI_length]; simp only [List.length_cons, List.length_nil]; omega))
      refine TL.op (yq (y_idx (k := i1) (ev_t rfl) (ev_t rfl) (by first | omega | simp) slT_22 (fun w hw => ((rii_arg hconfigs) w hw).1) hb25)) rfl rfl rfl ?_
      have ha26 := hconfigs.row (i := i1) hb25
      refine TL.op (yq (y_ldA (ev_t rfl) one_25 (rii_arg hconfigs) hb25)) rfl rfl rfl ?_
      refine TL.op (yq (y_assign (ev_t rfl))) rfl rfl rfl ?_
      refine TL.nil ?_
      refine TN.seq ?_
      refine TC.ret ?_
      refine TN.blockR ?_
      refine TN.thenR ?_
      refine TN.thenR ?_
      rw [← hL1, elim_ret] at hF
      refine TN.blockR ?_
      refine TN.thenR ?_
      subst hF
      exact TN.ret1 rfl (ev_t rfl) (fun w' hw => ⟨(by first | rfl | rw [rowref_t] | rw [rowref_f]), Hp.sublist hw (List.nil_sublist _)⟩)
    · rw [bif_neg h23] at hL1
      have q24 := ((and_f h23).imp (fun h => (l1Has_f h)) (fun h => (of_decide_eq_false h)))
      refine TC.skip ?_
      refine TN.blockN ?_
      refine TN.seq ?_
      refine TC.region ?_
      refine TL.op (yq (y_move (ev_t rfl))) rfl rfl rfl ?_
      refine TL.op (yq (y_add (ev_t rfl) ev_c (by unfold In64; omega))) rfl rfl rfl ?_
      refine TL.op (yq (y_assign (ev_t rfl))) rfl rfl rfl ?_
      refine TL.nil ?_
      exact TN.hand (mf1, (i1 + 1)) ⟨(by first | omega | (simp [-List.getD_eq_getElem?_getD] <;> omega)), (by omega), hL1⟩ (Nat.lt_succ_self _) ⟨rfl, rfl, rfl, rfl, rfl, rfl, rfl, trivial⟩ (fun w hw => hw)
  · rw [bif_neg h19] at hL1
    have q20 := (of_decide_eq_false h19)
    refine TC.exit ?_
    refine TN.thenE ?_
    refine TN.thenE ?_
    rw [← hL1, elim_next] at hF
    try dsimp only at hF
    refine TN.blockH ?_
    refine TN.seq ?_
    refine TC.seq ?_
    refine TC.region ?_
    refine TL.op (yq (y_move (ev_t rfl))) rfl rfl rfl ?_
    refine TL.op (yq (y_assign (ev_t rfl))) rfl rfl rfl ?_
    refine TL.nil ?_
    refine TN.seq ?_
    refine TC.ret ?_
    subst hF
    exact TN.ret1 rfl (ev_t rfl) (fun w' hw => ⟨(by first | rfl | rw [rowref_t] | rw [rowref_f]), Hp.sublist hw (List.nil_sublist _)⟩)

set_option maxRecDepth 4000 in
set_option maxHeartbeats 1000000 in
theorem spec_LeastSchedule_ok (w : World) (vm : Value) (um : List Value) (m : List (List Int)) (hm : RII w vm um m) (va : Value) (a : List Int) (ha : RI w va a) (vreqs : Value) (reqs : List Int) (hreqs : RI w vreqs reqs)  :
    Calls Try.prog 48 ([(.agg #[vm]), va, vreqs] : List Value).toArray w (fun e w' => ∃ i : Value × List Value, e = .returned (.tuple #[i.1, (.bool ((F_spec_LeastSchedule m a reqs).2))]) ∧ Hp w [tabI 25 3 i.1 i.2 ((F_spec_LeastSchedule m a reqs).1)] w') := by
  obtain ⟨rz, hF⟩ : ∃ rz, (F_spec_LeastSchedule m a reqs) = rz := ⟨_, rfl⟩
  rw [hF]
  unfold F_spec_LeastSchedule at hF
  have hlen_m := argT_len hm
  have hlen_a := arg_len ha
  have hlen_reqs := arg_len hreqs
  refine calls_tc Try.func48 rfl rfl rfl ?_
  change TC _ _ _ _ (Hp w []) [(0, (.agg #[vm])), (1, va), (2, vreqs)]
  refine TC.seq ?_
  refine TC.region ?_
  refine TL.box (ev_t rfl) rfl (fun g0_0 => ?_)
  refine TL.op (yq (y_assign ev_c)) rfl rfl rfl ?_
  refine TL.op (yq (y_assign ev_c)) rfl rfl rfl ?_
  refine TL.nil ?_
  refine TN.seq ?_
  refine TC.seq ?_
  refine TC.region ?_
  refine TL.buildSlice (zs := []) (vs := []) slT_22 rfl trivial (by simp) rfl (by decide) rfl (fun v1_0 => ?_)
  refine TL.cls (fun w hw => hw.emptyTab 3) ?_
  refine TL.op (yq (y_assign (ev_t rfl))) rfl rfl rfl ?_
  refine TL.nil ?_
  refine TN.seq ?_
  refine TC.seq ?_
  refine TC.seq ?_
  refine TC.region ?_
  refine TL.op (yq (y_ldagg (cs := [vm]) 1 (ev_t rfl) agg_29 rfl)) rfl rfl rfl ?_
  refine TL.op (y_call (vs := [(.agg #[vm])]) (v := (.bool (F_spec_l6Good m))) en_64 ⟨(ev_t rfl), trivial⟩ (fun w hw => spec_l6Good_ok w vm um m ((rii_arg hm) w hw))) rfl rfl rfl ?_
  refine TL.op (yq (y_not (ev_t rfl))) rfl rfl rfl ?_
  refine TL.op (yq (y_move (ev_t rfl))) rfl rfl rfl ?_
  refine TL.opw (w_f rfl rfl rfl) (fun hg => yq (y_ldagg (cs := [vm]) 1 (ev_t rfl) agg_29 rfl)) rfl rfl ?_
  refine TL.opw (w_f rfl rfl rfl) (fun hg => yq (y_move (ev_t rfl))) rfl rfl ?_
  refine TL.opw (w_f rfl rfl rfl) (fun hg => yq (y_move (ev_t rfl))) rfl rfl ?_
  refine TL.opw (w_f rfl rfl rfl) (fun hg => y_call (vs := [(.agg #[vm]), va, vreqs]) (v := (.bool (F_spec_l6Start m a reqs))) en_84 ⟨(ev_g rfl hg), (ev_g rfl hg), (ev_g rfl hg), trivial⟩ (fun w hw => spec_l6Start_ok w vm um m ((rii_arg hm) w hw) va a ((ri_arg ha) w hw) vreqs reqs ((ri_arg hreqs) w hw))) rfl rfl ?_
  refine TL.opw (w_f rfl rfl rfl) (fun hg => yq (y_not (ev_g rfl hg))) rfl rfl ?_
  refine TL.op (yq (y_or (ev_t rfl) (fun hq => (ev_g rfl hq)))) rfl rfl rfl ?_
  refine TL.nil ?_
  refine TN.seq ?_
  refine TC.cond (b := ((!(F_spec_l6Good m)) || (!(F_spec_l6Start m a reqs)))) (ev_t rfl) (fun h21 => ?_) (fun h21 => ?_)
  · rw [bif_pos h21] at hF
    have q22 := ((or_t h21).imp (fun h => (not_t h)) (fun h => (not_t h)))
    refine TC.seq ?_
    refine TC.region ?_
    refine TL.op (yq (y_move (ev_t rfl))) rfl rfl rfl ?_
    refine TL.op (yq (y_assign (ev_t rfl))) rfl rfl rfl ?_
    refine TL.op (yq (y_assign ev_c)) rfl rfl rfl ?_
    refine TL.nil ?_
    refine TN.seq ?_
    refine TC.ret ?_
    refine TN.thenR ?_
    subst hF
    exact TN.ret2 rfl (ev_t rfl) (ev_t rfl) (fun w' hw => ⟨(v1_0, []), rfl, Hp.sublist hw (.cons_cons _ (.cons _ .slnil))⟩)
  · rw [bif_neg h21] at hF
    have q22 := (and_imp (or_f h21) (fun h => (l6Good_t (not_f h))) (fun h => (l6Start_t (not_f h))))
    have hS := q22.2
    have hKs := hS.ks
    have hKf := hKs.kf
    have hKc := hKs.ksc
    have hn6 := hKs.tab.n6
    have hk3 := hKs.k3
    have h56 := hKs.s56
    have hr60 := hS.r60
    have hre := hS.el
    have hrb := rest_bd hKs hr60
    have hrb1 := hrb.1
    refine TC.skip ?_
    refine TN.seq ?_
    refine TC.seq ?_
    refine TC.region ?_
    refine TL.op (yq (y_fa (fa_29_0 g0_0) (ev_t rfl))) rfl rfl rfl ?_
    refine TL.op (yq (y_ldb 1 (ev_t rfl) one_22 rfl rfl)) rfl rfl rfl ?_
    refine TL.op (yq (y_len (ev_t rfl) Try.underlying22 (fun w hw => ((fun w hw => ((rii_arg hm) w hw).1) w hw).ln))) rfl rfl rfl ?_
    refine TL.op (yq (y_move (ev_t rfl))) rfl rfl rfl ?_
    refine TL.op (yq (y_len (ev_t rfl) Try.underlying25 (fun w hw => ((ri_arg ha) w hw).ln))) rfl rfl rfl ?_
    refine TL.callr (ι := Value × List Value) (vs := [(.int .i64 (m.length : Int)), (.int .i64 (a.length : Int))]) (fun i => i.1) (fun i => [tabI 25 3 i.1 i.2 (F_spec_l6Configs (m.length : Int) (a.length : Int))]) en_54 ⟨(ev_t rfl), (ev_t rfl), trivial⟩ rfl (fun w hw => spec_l6Configs_ok w (m.length : Int) (a.length : Int) (by first | assumption | omega | grind) (by first | assumption | omega | grind)) (fun r4_5 => ?_)
    refine TL.op (yq (y_assign (ev_t rfl))) rfl rfl rfl ?_
    refine TL.nil ?_
    refine TN.seq ?_
    refine TC.seq ?_
    refine TC.region ?_
    refine TL.op (yq (y_ldagg (cs := [vm]) 2 (ev_t rfl) agg_29 rfl)) rfl rfl rfl ?_
    refine TL.op (yq (y_move (ev_t rfl))) rfl rfl rfl ?_
    refine TL.op (yq (y_move (ev_t rfl))) rfl rfl rfl ?_
    refine TL.callr (ι := Value × List Value) (vs := [(.agg #[vm]), r4_5.1, vreqs]) (fun i => i.1) (fun i => [tabI 25 3 i.1 i.2 (F_spec_l7Rest m (F_spec_l6Configs (m.length : Int) (a.length : Int)) reqs)]) en_89 ⟨(ev_t rfl), (ev_t rfl), (ev_t rfl), trivial⟩ rfl (fun w hw => spec_l7Rest_ok w vm um m ((rii_arg hm) w hw) r4_5.1 r4_5.2 (F_spec_l6Configs (m.length : Int) (a.length : Int)) ((rii_tab 0 rfl) w hw) vreqs reqs ((ri_arg hreqs) w hw) (by first | assumption | omega | grind) (by first | assumption | omega | grind) (by first | assumption | omega | grind)) (fun r5_3 => ?_)
    refine TL.op (yq (y_assign (ev_t rfl))) rfl rfl rfl ?_
    refine TL.nil ?_
    refine TN.seq ?_
    refine TC.seq ?_
    refine TC.region ?_
    refine TL.op (yq (y_move (ev_t rfl))) rfl rfl rfl ?_
    refine TL.op (yq (y_assign (ev_t rfl))) rfl rfl rfl ?_
    refine TL.nil ?_
    refine TN.seq ?_
    refine TC.seq ?_
    refine TC.seq ?_
    refine TC.region ?_
    refine TL.op (yq (y_assign ev_c)) rfl rfl rfl ?_
    refine TL.nil ?_
    refine TN.seq ?_
    refine TC.block ?_
    obtain ⟨c23, hc24⟩ : ∃ c, F_spec_LeastSchedule_L1 m a reqs ((reqs.length - 0) + 1) (([]), a, 0) = c := ⟨_, rfl⟩
    rw [hc24] at hF
    refine TC.loop (ι := Nat × List (List Int) × List Int × Nat × Value × List Value × Value) (fun (fu1, k8_1, k11_1, k12_1, vk8_1, uk8_1, vk11_1) => [(2, vreqs), (3, (.pointer (some ⟨g0_0, 0, none⟩))), (8, vk8_1), (9, r4_5.1), (10, r5_3.1), (11, vk11_1), (12, (.int .i64 (k12_1 : Int)))]) (fun (fu1, k8_1, k11_1, k12_1, vk8_1, uk8_1, vk11_1) => Hp w [tabI 25 3 r5_3.1 r5_3.2 (F_spec_l7Rest m (F_spec_l6Configs (m.length : Int) (a.length : Int)) reqs), tabI 25 3 r4_5.1 r4_5.2 (F_spec_l6Configs (m.length : Int) (a.length : Int)), tabI 25 3 vk8_1 uk8_1 k8_1, .blk g0_0 29 [vm]]) (fun (fu1, k8_1, k11_1, k12_1, vk8_1, uk8_1, vk11_1) => (k12_1 ≤ reqs.length) ∧ (Cf m.length k11_1) ∧ ((k11_1.length : Int) = (a.length : Int)) ∧ (k8_1.length = k12_1) ∧ (∀ w', Hp w [tabI 25 3 r4_5.1 r4_5.2 (F_spec_l6Configs (m.length : Int) (a.length : Int))] w' → RI w' vk11_1 k11_1) ∧ reqs.length - k12_1 < fu1 ∧ F_spec_LeastSchedule_L1 m a reqs fu1 (k8_1, k11_1, k12_1) = c23) (fun (fu1, k8_1, k11_1, k12_1, vk8_1, uk8_1, vk11_1) => fu1) ((reqs.length - 0) + 1, [], a, 0, v1_0, [], va) ⟨(by first | omega | (simp [-List.getD_eq_getElem?_getD] <;> omega)), hS.cf, rfl, (by first | omega | (simp [-List.getD_eq_getElem?_getD] <;> omega)), (ri_arg ha), (by omega), hc24⟩ ⟨rfl, rfl, rfl, rfl, rfl, rfl, rfl, trivial⟩ (fun w hw => hw) ?_
    rintro ⟨fu1, k8_1, k11_1, k12_1, vk8_1, uk8_1, vk11_1⟩ hJ1
    obtain ⟨hi1_0, hi1_1, hi1_2, hi1_3, hrk11_1, hmu1, hL1⟩ : (k12_1 ≤ reqs.length) ∧ (Cf m.length k11_1) ∧ ((k11_1.length : Int) = (a.length : Int)) ∧ (k8_1.length = k12_1) ∧ (∀ w', Hp w [tabI 25 3 r4_5.1 r4_5.2 (F_spec_l6Configs (m.length : Int) (a.length : Int))] w' → RI w' vk11_1 k11_1) ∧ reqs.length - k12_1 < fu1 ∧ F_spec_LeastSchedule_L1 m a reqs fu1 (k8_1, k11_1, k12_1) = c23 := hJ1
    change TC _ _ _ _ (Hp w [tabI 25 3 r5_3.1 r5_3.2 (F_spec_l7Rest m (F_spec_l6Configs (m.length : Int) (a.length : Int)) reqs), tabI 25 3 r4_5.1 r4_5.2 (F_spec_l6Configs (m.length : Int) (a.length : Int)), tabI 25 3 vk8_1 uk8_1 k8_1, .blk g0_0 29 [vm]]) [(2, vreqs), (3, (.pointer (some ⟨g0_0, 0, none⟩))), (8, vk8_1), (9, r4_5.1), (10, r5_3.1), (11, vk11_1), (12, (.int .i64 (k12_1 : Int)))]
    obtain ⟨mf1, rfl⟩ : ∃ m, fu1 = m + 1 := ⟨fu1 - 1, by omega⟩
    rw [F_spec_LeastSchedule_L1_s] at hL1
    have hr0 := fun h => (hrb.2 k12_1 h).1
    have hr1 := fun h => (hrb.2 (k12_1 + 1) h).1
    have hr2 := fun h => (hrb.2 (k12_1 + 1) h).2
    have hsi := hKs.sidx hi1_1 hi1_2
    have hcl : ∀ i, i < (F_spec_l6Configs (m.length : Int) (a.length : Int)).length → k11_1.length = ((F_spec_l6Configs (m.length : Int) (a.length : Int)).getD i []).length := fun i h => by have := (hKs.scf i h).2; omega
    have hn3 := hi1_1.n3
    refine TC.seq ?_
    refine TC.seq ?_
    refine TC.region ?_
    refine TL.op (yq (y_move (ev_t rfl))) rfl rfl rfl ?_
    refine TL.op (yq (y_move (ev_t rfl))) rfl rfl rfl ?_
    refine TL.op (yq (y_len (ev_t rfl) Try.underlying25 (fun w hw => ((ri_arg hreqs) w hw).ln))) rfl rfl rfl ?_
    refine TL.op (yq (y_lss (ev_t rfl) (ev_t rfl))) rfl rfl rfl ?_
    refine TL.nil ?_
    refine TN.seq ?_
    refine TC.cond (b := decide ((k12_1 : Int) < (reqs.length : Int))) (ev_t rfl) (fun h25 => ?_) (fun h25 => ?_)
    · rw [bif_pos h25] at hL1
      have q26 := (of_decide_eq_true h25)
      have hr0a := hr0 (by omega)
      have hr1a := hr1 (by omega)
      have hr2a := hr2 (by omega)
      have hrp := rowpure_cf hKs hi1_1 hi1_2 (first_lt2 m (F_spec_l6Configs (m.length : Int) (a.length : Int)) ((F_spec_l7Rest m (F_spec_l6Configs (m.length : Int) (a.length : Int)) reqs).getD (k12_1 + 1) []) k11_1 (reqs.getD k12_1 0) (((F_spec_l7Rest m (F_spec_l6Configs (m.length : Int) (a.length : Int)) reqs).getD k12_1 []).getD (((F_spec_l7Index (F_spec_l6Configs (m.length : Int) (a.length : Int)) k11_1)).toNat) 0) (by omega))
      have hrp2 := hrp.1.n3
      refine TC.skip ?_
      refine TN.seq ?_
      refine TC.seq ?_
      refine TC.block ?_
      refine TC.seq ?_
      refine TC.regionQ (by kernel_rfl) (by kernel_rfl) dr_hp ?_
      refine TQ.op (yq (y_ldagg (cs := [vm]) 3 (ev_t rfl) agg_29 rfl)) rfl rfl rfl ?_
      refine TQ.op (yq (y_move (ev_t rfl))) rfl rfl rfl ?_
      refine TQ.op (yq (y_move (ev_t rfl))) rfl rfl rfl ?_
      refine TQ.op (yq (y_move (ev_t rfl))) rfl rfl rfl ?_
      refine TQ.op (yq (y_add (ev_t rfl) ev_c (by unfold In64; omega))) rfl rfl rfl ?_
      have hb27 : (k12_1 + 1) < (F_spec_l7Rest m (F_spec_l6Configs (m.length : Int) (a.length : Int)) reqs).length := (by first | omega | (simp only [List.length_set, List.length_append, List.length_cons, List.length_nil, List.length_replicate]; omega) | (rw [sortI_length]; simp only [List.length_cons, List.length_nil]; omega))
      refine TQ.op (yq (y_idx (k := (k12_1 + 1)) (ev_t rfl) (ev_t rfl) (by first | omega | simp) slT_22 (fun w hw => ((rii_tab 0 rfl) w hw).1) hb27)) rfl rfl rfl ?_
      refine TQ.op (yq (y_ldT 0 (ev_t rfl) one_25 rfl hb27)) rfl rfl rfl ?_
      refine TQ.op (yq (y_move (ev_t rfl))) rfl rfl rfl ?_
      refine TQ.op (yq (y_move (ev_t rfl))) rfl rfl rfl ?_
      refine TQ.op (yq (y_move (ev_t rfl))) rfl rfl rfl ?_
      have hb28 : k12_1 < reqs.length := (by first | omega | (simp only [List.length_set, List.length_append, List.length_cons, List.length_nil, List.length_replicate]; omega) | (rw [sortI_length]; simp only [List.length_cons, List.length_nil]; omega))
      refine TQ.op (yq (y_idx (k := k12_1) (ev_t rfl) (ev_t rfl) (by first | omega | simp) slT_25 (ri_arg hreqs) hb28)) rfl rfl rfl ?_
      refine TQ.op (yq (y_ldi (ev_t rfl) one_3 (ri_arg hreqs) hb28)) rfl rfl rfl ?_
      refine TQ.op (yq (y_move (ev_t rfl))) rfl rfl rfl ?_
      refine TQ.op (yq (y_move (ev_t rfl))) rfl rfl rfl ?_
      have hb29 : k12_1 < (F_spec_l7Rest m (F_spec_l6Configs (m.length : Int) (a.length : Int)) reqs).length := (by first | omega | (simp only [List.length_set, List.length_append, List.length_cons, List.length_nil, List.length_replicate]; omega) | (rw [sortI_length]; simp only [List.length_cons, List.length_nil]; omega))
      refine TQ.op (yq (y_idx (k := k12_1) (ev_t rfl) (ev_t rfl) (by first | omega | simp) slT_22 (fun w hw => ((rii_tab 0 rfl) w hw).1) hb29)) rfl rfl rfl ?_
      refine TQ.op (yq (y_ldT 0 (ev_t rfl) one_25 rfl hb29)) rfl rfl rfl ?_
      refine TQ.op (yq (y_move (ev_t rfl))) rfl rfl rfl ?_
      refine TQ.op (yq (y_move (ev_t rfl))) rfl rfl rfl ?_
      refine TQ.op (y_call (vs := [r4_5.1, vk11_1]) (v := (.int .i64 (F_spec_l7Index (F_spec_l6Configs (m.length : Int) (a.length : Int)) k11_1))) en_69 ⟨(ev_t rfl), (ev_t rfl), trivial⟩ (fun w hw => spec_l7Index_ok w r4_5.1 r4_5.2 (F_spec_l6Configs (m.length : Int) (a.length : Int)) ((rii_tab 1 rfl) w hw) vk11_1 k11_1 ((fun w hw => hrk11_1 w (Hp.sublist hw (.cons _ (.cons_cons _ (.cons _ (.cons _ .slnil)))))) w hw))) rfl rfl rfl ?_
      have hb30 : ((F_spec_l7Index (F_spec_l6Configs (m.length : Int) (a.length : Int)) k11_1)).toNat < ((F_spec_l7Rest m (F_spec_l6Configs (m.length : Int) (a.length : Int)) reqs).getD k12_1 []).length := (by first | omega | (simp only [List.length_set, List.length_append, List.length_cons, List.length_nil, List.length_replicate]; omega) | (rw [sortI_length]; simp only [List.length_cons, List.length_nil]; omega))
      refine TQ.op (yq (y_idx (k := ((F_spec_l7Index (F_spec_l6Configs (m.length : Int) (a.length : Int)) k11_1)).toNat) (ev_t rfl) (ev_t rfl) (by first | omega | simp) slT_25 (ri_tab 0 k12_1 rfl hb29) hb30)) rfl rfl rfl ?_
      refine TQ.op (yq (y_ldi (ev_t rfl) one_3 (ri_tab 0 k12_1 rfl hb29) hb30)) rfl rfl rfl ?_
      refine TQ.op (y_call (vs := [(.agg #[vm]), r4_5.1, (r5_3.2.getD (k12_1 + 1) undef), vk11_1, (.int .i64 (reqs.getD k12_1 0)), (.int .i64 (((F_spec_l7Rest m (F_spec_l6Configs (m.length : Int) (a.length : Int)) reqs).getD k12_1 []).getD (((F_spec_l7Index (F_spec_l6Configs (m.length : Int) (a.length : Int)) k11_1)).toNat) 0))]) (v := (rowref r4_5.2 vk11_1 (F_spec_l7First m (F_spec_l6Configs (m.length : Int) (a.length : Int)) ((F_spec_l7Rest m (F_spec_l6Configs (m.length : Int) (a.length : Int)) reqs).getD (k12_1 + 1) []) k11_1 (reqs.getD k12_1 0) (((F_spec_l7Rest m (F_spec_l6Configs (m.length : Int) (a.length : Int)) reqs).getD k12_1 []).getD (((F_spec_l7Index (F_spec_l6Configs (m.length : Int) (a.length : Int)) k11_1)).toNat) 0)))) en_90 ⟨(ev_t rfl), (ev_t rfl), (ev_t rfl), (ev_t rfl), (ev_t rfl), (ev_t rfl), trivial⟩ (fun w hw => spec_l7First_ok w vm um m ((rii_arg hm) w hw) r4_5.1 r4_5.2 (F_spec_l6Configs (m.length : Int) (a.length : Int)) ((rii_tab 1 rfl) w hw) (r5_3.2.getD (k12_1 + 1) undef) ((F_spec_l7Rest m (F_spec_l6Configs (m.length : Int) (a.length : Int)) reqs).getD (k12_1 + 1) []) ((ri_tab 0 (k12_1 + 1) rfl hb27) w hw) vk11_1 k11_1 ((fun w hw => hrk11_1 w (Hp.sublist hw (.cons _ (.cons_cons _ (.cons _ (.cons _ .slnil)))))) w hw) (reqs.getD k12_1 0) (((F_spec_l7Rest m (F_spec_l6Configs (m.length : Int) (a.length : Int)) reqs).getD k12_1 []).getD (((F_spec_l7Index (F_spec_l6Configs (m.length : Int) (a.length : Int)) k11_1)).toNat) 0) (by first | assumption | omega | grind) (by first | assumption | omega | grind) (by first | assumption | omega | grind) (by first | assumption | omega | grind) (by first | assumption | omega | grind))) rfl rfl rfl ?_
      refine TQ.op (yq (y_assign (ev_t rfl))) rfl rfl rfl ?_
      refine TQ.nil ?_
      refine TN.seq ?_
      refine TC.region ?_
      refine TL.op (yq (y_move (ev_t rfl))) rfl rfl rfl ?_
      refine TL.op (yq (y_move (ev_t rfl))) rfl rfl rfl ?_
      refine TL.callr (ι := Value) (vs := [(rowref r4_5.2 vk11_1 (F_spec_l7First m (F_spec_l6Configs (m.length : Int) (a.length : Int)) ((F_spec_l7Rest m (F_spec_l6Configs (m.length : Int) (a.length : Int)) reqs).getD (k12_1 + 1) []) k11_1 (reqs.getD k12_1 0) (((F_spec_l7Rest m (F_spec_l6Configs (m.length : Int) (a.length : Int)) reqs).getD k12_1 []).getD (((F_spec_l7Index (F_spec_l6Configs (m.length : Int) (a.length : Int)) k11_1)).toNat) 0)))]) (fun i => i) (fun i => [rowI 3 i (rowpure (F_spec_l6Configs (m.length : Int) (a.length : Int)) k11_1 (F_spec_l7First m (F_spec_l6Configs (m.length : Int) (a.length : Int)) ((F_spec_l7Rest m (F_spec_l6Configs (m.length : Int) (a.length : Int)) reqs).getD (k12_1 + 1) []) k11_1 (reqs.getD k12_1 0) (((F_spec_l7Rest m (F_spec_l6Configs (m.length : Int) (a.length : Int)) reqs).getD k12_1 []).getD (((F_spec_l7Index (F_spec_l6Configs (m.length : Int) (a.length : Int)) k11_1)).toNat) 0)))]) en_91 ⟨(ev_t rfl), trivial⟩ rfl (fun w hw => spec_l1Own_ok w (rowref r4_5.2 vk11_1 (F_spec_l7First m (F_spec_l6Configs (m.length : Int) (a.length : Int)) ((F_spec_l7Rest m (F_spec_l6Configs (m.length : Int) (a.length : Int)) reqs).getD (k12_1 + 1) []) k11_1 (reqs.getD k12_1 0) (((F_spec_l7Rest m (F_spec_l6Configs (m.length : Int) (a.length : Int)) reqs).getD k12_1 []).getD (((F_spec_l7Index (F_spec_l6Configs (m.length : Int) (a.length : Int)) k11_1)).toNat) 0))) (rowpure (F_spec_l6Configs (m.length : Int) (a.length : Int)) k11_1 (F_spec_l7First m (F_spec_l6Configs (m.length : Int) (a.length : Int)) ((F_spec_l7Rest m (F_spec_l6Configs (m.length : Int) (a.length : Int)) reqs).getD (k12_1 + 1) []) k11_1 (reqs.getD k12_1 0) (((F_spec_l7Rest m (F_spec_l6Configs (m.length : Int) (a.length : Int)) reqs).getD k12_1 []).getD (((F_spec_l7Index (F_spec_l6Configs (m.length : Int) (a.length : Int)) k11_1)).toNat) 0))) ((fun w hw => (fun w hw => rowref_ri (first_lt2 m (F_spec_l6Configs (m.length : Int) (a.length : Int)) ((F_spec_l7Rest m (F_spec_l6Configs (m.length : Int) (a.length : Int)) reqs).getD (k12_1 + 1) []) k11_1 (reqs.getD k12_1 0) (((F_spec_l7Rest m (F_spec_l6Configs (m.length : Int) (a.length : Int)) reqs).getD k12_1 []).getD (((F_spec_l7Index (F_spec_l6Configs (m.length : Int) (a.length : Int)) k11_1)).toNat) 0) (by omega)) (rii_tab 0 rfl w hw) (hrk11_1 w hw)) w (Hp.sublist hw (.cons _ (.cons_cons _ (.cons _ (.cons _ .slnil)))))) w hw) (by first | assumption | omega | grind)) (fun r11_2 => ?_)
      refine TL.buildU slT_22 (ev_t rfl) (fun w hw => ((ri_row 0 rfl) w hw).ln) rfl (fun v11_3 => ?_)
      refine TL.appendT 4 1 rfl (ev_t rfl) (ev_t rfl) rfl rfl slT_22 (rd_row 0 rfl) (by first | omega | (simp [-List.getD_eq_getElem?_getD] <;> omega)) rfl (fun v11_4 => ?_)
      refine TL.op (yq (y_assign (ev_t rfl))) rfl rfl rfl ?_
      refine TL.nil ?_
      refine TN.blockN ?_
      refine TN.seq ?_
      refine TC.region ?_
      refine TL.op (yq (y_move (ev_t rfl))) rfl rfl rfl ?_
      refine TL.op (yq (y_add (ev_t rfl) ev_c (by unfold In64; omega))) rfl rfl rfl ?_
      refine TL.op (yq (y_assign (ev_t rfl))) rfl rfl rfl ?_
      refine TL.nil ?_
      exact TN.hand (mf1, (k8_1 ++ [(rowpure (F_spec_l6Configs (m.length : Int) (a.length : Int)) k11_1 (F_spec_l7First m (F_spec_l6Configs (m.length : Int) (a.length : Int)) ((F_spec_l7Rest m (F_spec_l6Configs (m.length : Int) (a.length : Int)) reqs).getD (k12_1 + 1) []) k11_1 (reqs.getD k12_1 0) (((F_spec_l7Rest m (F_spec_l6Configs (m.length : Int) (a.length : Int)) reqs).getD k12_1 []).getD (((F_spec_l7Index (F_spec_l6Configs (m.length : Int) (a.length : Int)) k11_1)).toNat) 0)))]), (rowpure (F_spec_l6Configs (m.length : Int) (a.length : Int)) k11_1 (F_spec_l7First m (F_spec_l6Configs (m.length : Int) (a.length : Int)) ((F_spec_l7Rest m (F_spec_l6Configs (m.length : Int) (a.length : Int)) reqs).getD (k12_1 + 1) []) k11_1 (reqs.getD k12_1 0) (((F_spec_l7Rest m (F_spec_l6Configs (m.length : Int) (a.length : Int)) reqs).getD k12_1 []).getD (((F_spec_l7Index (F_spec_l6Configs (m.length : Int) (a.length : Int)) k11_1)).toNat) 0))), (k12_1 + 1), v11_4, (uk8_1 ++ [r11_2]), (rowref r4_5.2 vk11_1 (F_spec_l7First m (F_spec_l6Configs (m.length : Int) (a.length : Int)) ((F_spec_l7Rest m (F_spec_l6Configs (m.length : Int) (a.length : Int)) reqs).getD (k12_1 + 1) []) k11_1 (reqs.getD k12_1 0) (((F_spec_l7Rest m (F_spec_l6Configs (m.length : Int) (a.length : Int)) reqs).getD k12_1 []).getD (((F_spec_l7Index (F_spec_l6Configs (m.length : Int) (a.length : Int)) k11_1)).toNat) 0)))) ⟨(by first | omega | (simp [-List.getD_eq_getElem?_getD] <;> omega)), (rowpure_cf hKs hi1_1 hi1_2 (first_lt (by omega))).1, (rowpure_cf hKs hi1_1 hi1_2 (first_lt (by omega))).2, (by first | omega | (simp [-List.getD_eq_getElem?_getD] <;> omega)), (fun w hw => rowref_ri (first_lt2 m (F_spec_l6Configs (m.length : Int) (a.length : Int)) ((F_spec_l7Rest m (F_spec_l6Configs (m.length : Int) (a.length : Int)) reqs).getD (k12_1 + 1) []) k11_1 (reqs.getD k12_1 0) (((F_spec_l7Rest m (F_spec_l6Configs (m.length : Int) (a.length : Int)) reqs).getD k12_1 []).getD (((F_spec_l7Index (F_spec_l6Configs (m.length : Int) (a.length : Int)) k11_1)).toNat) 0) (by omega)) (rii_tab 0 rfl w hw) (hrk11_1 w hw)), (by omega), hL1⟩ (Nat.lt_succ_self _) ⟨rfl, rfl, rfl, rfl, rfl, rfl, rfl, trivial⟩ (fun w hw => Hp.sublist hw (.cons _ (.cons _ (.cons_cons _ (.cons_cons _ (.cons_cons _ (.cons_cons _ .slnil)))))))
    · rw [bif_neg h25] at hL1
      have q26 := (of_decide_eq_false h25)
      refine TC.exit ?_
      refine TN.thenE ?_
      refine TN.thenE ?_
      rw [← hL1, elim_next] at hF
      try dsimp only at hF
      refine TN.blockH ?_
      refine TN.seq ?_
      refine TC.seq ?_
      refine TC.region ?_
      refine TL.op (yq (y_move (ev_t rfl))) rfl rfl rfl ?_
      refine TL.op (yq (y_assign (ev_t rfl))) rfl rfl rfl ?_
      refine TL.op (yq (y_assign ev_c)) rfl rfl rfl ?_
      refine TL.nil ?_
      refine TN.seq ?_
      refine TC.ret ?_
      subst hF
      exact TN.ret2 rfl (ev_t rfl) (ev_t rfl) (fun w' hw => ⟨(vk8_1, uk8_1), rfl, Hp.sublist hw (.cons _ (.cons _ (.cons_cons _ (.cons _ .slnil))))⟩)

end Go.Proofs.Ytilmadapmcnlgaa
