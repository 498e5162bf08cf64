/-
  Walks of functions of the program: each computes its plain function. No condition but the bounds that are typed.
-/
import Derived.Test.YtcfjjnajeccbhaaFnI
import Derived.Test.YtcfjjnajeccbhaaLawWay
namespace Go.Proofs.Ytcfjjnajeccbhaa
open Go Go.RowKit

set_option maxRecDepth 4000 in
set_option maxHeartbeats 1000000 in
theorem impl_ShortestWay_ok (w : World) (vm : Value) (um : List Value) (m : List (List Int)) (hm : RII w vm um m) (x : Int) (y : Int)  :
    Calls Try.prog 25 ([(.agg #[vm]), (.int .i64 x), (.int .i64 y)] : List Value).toArray w (fun e w' => ∃ i : Value, e = .returned (.tuple #[i, (.bool ((F_impl_ShortestWay m x y).2))]) ∧ Hp w [rowI 3 i ((F_impl_ShortestWay m x y).1)] w') := by
  obtain ⟨rz, hF⟩ : ∃ rz, (F_impl_ShortestWay m x y) = rz := ⟨_, rfl⟩
  rw [hF]
  unfold F_impl_ShortestWay at hF
  have hlen_m := argT_len hm
  refine calls_tc Try.func25 rfl rfl rfl ?_
  change TC _ _ _ _ (Hp w []) [(0, (.agg #[vm])), (1, (.int .i64 x)), (2, (.int .i64 y))]
  refine TC.seq ?_
  refine TC.region ?_
  refine TL.box (ev_t rfl) rfl (fun g0_0 => ?_)
  refine TL.op (yq (y_assign ev_c)) rfl rfl rfl ?_
  refine TL.op (yq (y_assign ev_c)) rfl rfl rfl ?_
  refine TL.nil ?_
  refine TN.seq ?_
  refine TC.seq ?_
  refine TC.seq ?_
  refine TC.region ?_
  refine TL.op (yq (y_ldagg (cs := [vm]) 0 (ev_t rfl) agg_29 rfl)) rfl rfl rfl ?_
  refine TL.op (y_call (vs := [(.agg #[vm]), (.bool true)]) (v := (.bool (F_impl_Metric_isTable m true))) en_63 ⟨(ev_t rfl), ev_c, trivial⟩ (fun w hw => impl_Metric_isTable_ok w vm um m ((rii_arg hm) w hw) true)) rfl rfl rfl ?_
  refine TL.op (yq (y_not (ev_t rfl))) rfl rfl rfl ?_
  refine TL.op (yq (y_move (ev_t rfl))) rfl rfl rfl ?_
  refine TL.opw (w_f rfl rfl rfl) (fun hg => yq (y_ldagg (cs := [vm]) 0 (ev_t rfl) agg_29 rfl)) rfl rfl ?_
  refine TL.opw (w_f rfl rfl rfl) (fun hg => yq (y_move (ev_t rfl))) rfl rfl ?_
  refine TL.opw (w_f rfl rfl rfl) (fun hg => y_call (vs := [(.agg #[vm]), (.int .i64 x)]) (v := (.bool ((decide (0 ≤ x)) && (decide (x ≤ ((m.length : Int) - 1)))))) en_64 ⟨(ev_g rfl hg), (ev_g rfl hg), trivial⟩ (fun w hw => impl_Metric_isPoint_ok w vm um m ((rii_arg hm) w hw) x)) rfl rfl ?_
  refine TL.opw (w_f rfl rfl rfl) (fun hg => yq (y_not (ev_g rfl hg))) rfl rfl ?_
  refine TL.op (yq (y_or (ev_t rfl) (fun hq => (ev_g rfl hq)))) rfl rfl rfl ?_
  refine TL.op (yq (y_move (ev_t rfl))) rfl rfl rfl ?_
  refine TL.opw (w_f rfl rfl rfl) (fun hg => yq (y_ldagg (cs := [vm]) 0 (ev_t rfl) agg_29 rfl)) rfl rfl ?_
  refine TL.opw (w_f rfl rfl rfl) (fun hg => yq (y_move (ev_t rfl))) rfl rfl ?_
  refine TL.opw (w_f rfl rfl rfl) (fun hg => y_call (vs := [(.agg #[vm]), (.int .i64 y)]) (v := (.bool ((decide (0 ≤ y)) && (decide (y ≤ ((m.length : Int) - 1)))))) en_64 ⟨(ev_g rfl hg), (ev_g rfl hg), trivial⟩ (fun w hw => impl_Metric_isPoint_ok w vm um m ((rii_arg hm) w hw) y)) rfl rfl ?_
  refine TL.opw (w_f rfl rfl rfl) (fun hg => yq (y_not (ev_g rfl hg))) rfl rfl ?_
  refine TL.op (yq (y_or (ev_t rfl) (fun hq => (ev_g rfl hq)))) rfl rfl rfl ?_
  refine TL.nil ?_
  refine TN.seq ?_
  refine TC.cond (b := (((!(F_impl_Metric_isTable m true)) || (!((decide (0 ≤ x)) && (decide (x ≤ ((m.length : Int) - 1)))))) || (!((decide (0 ≤ y)) && (decide (y ≤ ((m.length : Int) - 1))))))) (ev_t rfl) (fun h30 => ?_) (fun h30 => ?_)
  · rw [bif_pos h30] at hF
    have q31 := ((or_t h30).imp (fun h => ((or_t h).imp (fun h => (not_t h)) (fun h => ((and_f (not_t h)).imp (fun h => (of_decide_eq_false h)) (fun h => (of_decide_eq_false h)))))) (fun h => ((and_f (not_t h)).imp (fun h => (of_decide_eq_false h)) (fun h => (of_decide_eq_false h)))))
    refine TC.seq ?_
    refine TC.region ?_
    refine TL.op (yq (y_assign ev_c)) rfl rfl rfl ?_
    refine TL.op (yq (y_assign ev_c)) rfl rfl rfl ?_
    refine TL.nil ?_
    refine TN.seq ?_
    refine TC.ret ?_
    refine TN.thenR ?_
    subst hF
    refine TN.cls (fun w hw => hw.nil 3 1) ?_
    exact TN.ret2 rfl (ev_t rfl) (ev_t rfl) (fun w' hw => ⟨(.slice none 0 0), rfl, Hp.sublist hw (.cons_cons _ (.cons _ .slnil))⟩)
  · rw [bif_neg h30] at hF
    have q31 := (and_imp (or_f h30) (fun h => (and_imp (or_f h) (fun h => (isTable_t (not_f h))) (fun h => (and_imp (and_t (not_f h)) (fun h => (of_decide_eq_true h)) (fun h => (of_decide_eq_true h)))))) (fun h => (and_imp (and_t (not_f h)) (fun h => (of_decide_eq_true h)) (fun h => (of_decide_eq_true h)))))
    have hT := q31.1.1
    have hTP : TabP true m := (isTable_iff m true).1 (by have hh := (by assumption : (((!(F_impl_Metric_isTable m true)) || (!((decide (0 ≤ x)) && (decide (x ≤ ((m.length : Int) - 1)))))) || (!((decide (0 ≤ y)) && (decide (y ≤ ((m.length : Int) - 1)))))) = false); simp at hh; exact hh.1.1)
    have hcs := (closed_el hTP).1
    have hcl := hcs.len
    have hcr0 := hcs.rows x.toNat
    have hfin := closed_fin hTP x.toNat y.toNat
    have hcb0 := closed_bd hTP x.toNat y.toNat
    refine TC.skip ?_
    refine TN.seq ?_
    refine TC.seq ?_
    refine TC.region ?_
    refine TL.op (yq (y_ldagg (cs := [vm]) 0 (ev_t rfl) agg_29 rfl)) rfl rfl rfl ?_
    refine TL.callr (ι := Value × List Value) (vs := [(.agg #[vm])]) (fun i => i.1) (fun i => [tabI 25 3 i.1 i.2 (F_impl_Metric_closed m)]) en_65 ⟨(ev_t rfl), trivial⟩ rfl (fun w hw => impl_Metric_closed_ok w vm um m ((rii_arg hm) w hw) (by first | assumption | omega | grind)) (fun r3_1 => ?_)
    refine TL.op (yq (y_assign (ev_t rfl))) rfl rfl rfl ?_
    refine TL.nil ?_
    refine TN.seq ?_
    refine TC.seq ?_
    refine TC.seq ?_
    refine TC.region ?_
    refine TL.op (yq (y_move (ev_t rfl))) rfl rfl rfl ?_
    refine TL.op (yq (y_move (ev_t rfl))) rfl rfl rfl ?_
    have hb33 : (x).toNat < (F_impl_Metric_closed m).length := (by first | omega | (simp only [List.length_set, List.length_append, List.length_cons, List.length_nil, List.length_replicate]; omega))
    refine TL.op (yq (y_idx (k := (x).toNat) (ev_t rfl) (ev_t rfl) (by omega) slT_22 (fun w hw => ((rii_tab 0 rfl) w hw).1) hb33)) rfl rfl rfl ?_
    refine TL.op (yq (y_ldT 0 (ev_t rfl) one_25 rfl hb33)) rfl rfl rfl ?_
    refine TL.op (yq (y_move (ev_t rfl))) rfl rfl rfl ?_
    have hb34 : (y).toNat < ((F_impl_Metric_closed m).getD ((x).toNat) []).length := (by first | omega | (simp only [List.length_set, List.length_append, List.length_cons, List.length_nil, List.length_replicate]; omega))
    refine TL.op (yq (y_idx (k := (y).toNat) (ev_t rfl) (ev_t rfl) (by omega) slT_25 (ri_tab 0 ((x).toNat) rfl hb33) hb34)) rfl rfl rfl ?_
    refine TL.op (yq (y_ldi (ev_t rfl) one_3 (ri_tab 0 ((x).toNat) rfl hb33) hb34)) rfl rfl rfl ?_
    refine TL.op (yq (y_geq (ev_t rfl) ev_c)) rfl rfl rfl ?_
    refine TL.nil ?_
    refine TN.seq ?_
    refine TC.cond (b := decide (1073741824 ≤ (((F_impl_Metric_closed m).getD ((x).toNat) []).getD ((y).toNat) 0))) (ev_t rfl) (fun h35 => ?_) (fun h35 => ?_)
    · rw [bif_pos h35] at hF
      have q36 := (of_decide_eq_true h35)
      refine TC.seq ?_
      refine TC.region ?_
      refine TL.op (yq (y_assign ev_c)) rfl rfl rfl ?_
      refine TL.op (yq (y_assign ev_c)) rfl rfl rfl ?_
      refine TL.nil ?_
      refine TN.seq ?_
      refine TC.ret ?_
      refine TN.thenR ?_
      subst hF
      refine TN.cls (fun w hw => hw.nil 3 1) ?_
      exact TN.ret2 rfl (ev_t rfl) (ev_t rfl) (fun w' hw => ⟨(.slice none 0 0), rfl, Hp.sublist hw (.cons_cons _ (.cons _ (.cons _ .slnil)))⟩)
    · rw [bif_neg h35] at hF
      have q36 := (of_decide_eq_false h35)
      refine TC.skip ?_
      refine TN.seq ?_
      refine TC.seq ?_
      refine TC.region ?_
      refine TL.op (yq (y_move (ev_t rfl))) rfl rfl rfl ?_
      refine TL.buildI (zs := [.tmp 37]) (qs := [x]) slT_25 rfl ⟨(ev_t rfl), trivial⟩ rfl (by decide) rfl (fun v6_1 => ?_)
      refine TL.op (yq (y_assign (ev_t rfl))) rfl rfl rfl ?_
      refine TL.nil ?_
      refine TN.seq ?_
      refine TC.seq ?_
      refine TC.block ?_
      obtain ⟨c38, hc39⟩ : ∃ c, F_impl_ShortestWay_L1 m y (((((F_impl_Metric_closed m).getD x.toNat []).getD y.toNat 0).toNat) + 1) (x, ([x])) = c := ⟨_, rfl⟩
      rw [hc39] at hF
      refine TC.loop (ι := Nat × Int × List Int × Value) (fun (fu1, k1_1, k9_1, vk9_1) => [(1, (.int .i64 k1_1)), (2, (.int .i64 y)), (3, (.pointer (some ⟨g0_0, 0, none⟩))), (8, r3_1.1), (9, vk9_1)]) (fun (fu1, k1_1, k9_1, vk9_1) => Hp w [rowI 3 vk9_1 k9_1, tabI 25 3 r3_1.1 r3_1.2 (F_impl_Metric_closed m), .blk g0_0 29 [vm]]) (fun (fu1, k1_1, k9_1, vk9_1) => (0 ≤ k1_1) ∧ (k1_1 < m.length) ∧ ((((F_impl_Metric_closed m).getD k1_1.toNat []).getD y.toNat 0) < 1073741824) ∧ (k9_1.length + (((F_impl_Metric_closed m).getD k1_1.toNat []).getD y.toNat 0).toNat ≤ 7000) ∧ (((F_impl_Metric_closed m).getD k1_1.toNat []).getD y.toNat 0).toNat < fu1 ∧ F_impl_ShortestWay_L1 m y fu1 (k1_1, k9_1) = c38) (fun (fu1, k1_1, k9_1, vk9_1) => fu1) (((((F_impl_Metric_closed m).getD x.toNat []).getD y.toNat 0).toNat) + 1, x, [x], v6_1) ⟨(by first | omega | (simp [-List.getD_eq_getElem?_getD] <;> omega)), (by first | omega | (simp [-List.getD_eq_getElem?_getD] <;> omega)), (by first | omega | (simp [-List.getD_eq_getElem?_getD] <;> omega)), (by first | omega | (simp [-List.getD_eq_getElem?_getD] <;> omega)), (by omega), hc39⟩ ⟨rfl, rfl, rfl, rfl, rfl, trivial⟩ (fun w hw => hw) ?_
      rintro ⟨fu1, k1_1, k9_1, vk9_1⟩ hJ1
      obtain ⟨hi1_0, hi1_1, hi1_2, hi1_3, hmu1, hL1⟩ : (0 ≤ k1_1) ∧ (k1_1 < m.length) ∧ ((((F_impl_Metric_closed m).getD k1_1.toNat []).getD y.toNat 0) < 1073741824) ∧ (k9_1.length + (((F_impl_Metric_closed m).getD k1_1.toNat []).getD y.toNat 0).toNat ≤ 7000) ∧ (((F_impl_Metric_closed m).getD k1_1.toNat []).getD y.toNat 0).toNat < fu1 ∧ F_impl_ShortestWay_L1 m y fu1 (k1_1, k9_1) = c38 := hJ1
      change TC _ _ _ _ (Hp w [rowI 3 vk9_1 k9_1, tabI 25 3 r3_1.1 r3_1.2 (F_impl_Metric_closed m), .blk g0_0 29 [vm]]) [(1, (.int .i64 k1_1)), (2, (.int .i64 y)), (3, (.pointer (some ⟨g0_0, 0, none⟩))), (8, r3_1.1), (9, vk9_1)]
      obtain ⟨mf1, rfl⟩ : ∃ m, fu1 = m + 1 := ⟨fu1 - 1, by omega⟩
      rw [F_impl_ShortestWay_L1_s] at hL1
      have hcr := hcs.rows k1_1.toNat
      have hrw := hT.rows k1_1.toNat
      have hcb1 := closed_bd hTP k1_1.toNat y.toNat
      refine TC.seq ?_
      refine TC.seq ?_
      refine TC.region ?_
      refine TL.op (yq (y_move (ev_t rfl))) rfl rfl rfl ?_
      refine TL.op (yq (y_move (ev_t rfl))) rfl rfl rfl ?_
      refine TL.op (yq (y_neq (ev_t rfl) (ev_t rfl))) rfl rfl rfl ?_
      refine TL.nil ?_
      refine TN.seq ?_
      refine TC.cond (b := !decide (k1_1 = y)) (ev_t rfl) (fun h40 => ?_) (fun h40 => ?_)
      · rw [bif_pos h40] at hL1
        have q41 := (of_decide_eq_false (not_t h40))
        refine TC.skip ?_
        refine TN.seq ?_
        refine TC.block ?_
        refine TC.seq ?_
        refine TC.seq ?_
        refine TC.region ?_
        refine TL.op (yq (y_fa (fa_29_0 g0_0) (ev_t rfl))) rfl rfl rfl ?_
        refine TL.op (yq (y_ldb 2 (ev_t rfl) one_22 rfl rfl)) rfl rfl rfl ?_
        refine TL.op (yq (y_move (ev_t rfl))) rfl rfl rfl ?_
        have hb42 : (k1_1).toNat < m.length := (by first | omega | (simp only [List.length_set, List.length_append, List.length_cons, List.length_nil, List.length_replicate]; omega))
        refine TL.op (yq (y_idx (k := (k1_1).toNat) (ev_t rfl) (ev_t rfl) (by omega) slT_22 (fun w hw => ((rii_arg hm) w hw).1) hb42)) rfl rfl rfl ?_
        have ha43 := hm.row (i := (k1_1).toNat) hb42
        refine TL.op (yq (y_ldA (ev_t rfl) one_25 (rii_arg hm) hb42)) rfl rfl rfl ?_
        refine TL.op (yq (y_len (ev_t rfl) Try.underlying25 (fun w hw => ((ri_arg ha43) w hw).ln))) rfl rfl rfl ?_
        refine TL.op (yq (y_move ev_c)) rfl rfl rfl ?_
        refine TL.nil ?_
        refine TN.seq ?_
        refine TC.block ?_
        obtain ⟨c44, hc45⟩ : ∃ c, F_impl_ShortestWay_L2 m y k1_1 ((((m.getD ((k1_1).toNat) []).length) - 0) + 1) (k1_1, 0) = c := ⟨_, rfl⟩
        rw [hc45] at hL1
        refine TC.loop (ι := Nat × Int × Nat) (fun (fu2, k1_2, k48_2) => [(1, (.int .i64 k1_2)), (2, (.int .i64 y)), (3, (.pointer (some ⟨g0_0, 0, none⟩))), (8, r3_1.1), (9, vk9_1), (46, (um.getD ((k1_1).toNat) undef)), (47, (.int .i64 ((m.getD ((k1_1).toNat) []).length : Int))), (48, (.int .i64 (k48_2 : Int)))]) (fun (fu2, k1_2, k48_2) => Hp w [rowI 3 vk9_1 k9_1, tabI 25 3 r3_1.1 r3_1.2 (F_impl_Metric_closed m), .blk g0_0 29 [vm]]) (fun (fu2, k1_2, k48_2) => (k48_2 ≤ ((m.getD ((k1_1).toNat) []).length)) ∧ (k1_2 = k1_1) ∧ (∀ j, j < k48_2 → ¬ tight m y k1_1 j) ∧ ((m.getD ((k1_1).toNat) []).length) - k48_2 < fu2 ∧ F_impl_ShortestWay_L2 m y k1_1 fu2 (k1_2, k48_2) = c44) (fun (fu2, k1_2, k48_2) => fu2) ((((m.getD ((k1_1).toNat) []).length) - 0) + 1, k1_1, 0) ⟨(by first | omega | (simp [-List.getD_eq_getElem?_getD] <;> omega)), (by first | omega | (simp [-List.getD_eq_getElem?_getD] <;> omega)), (fun j hj => by omega), (by omega), hc45⟩ ⟨rfl, rfl, rfl, rfl, rfl, rfl, rfl, rfl, trivial⟩ (fun w hw => hw) ?_
        rintro ⟨fu2, k1_2, k48_2⟩ hJ2
        obtain ⟨hi2_0, hi2_1, hi2_2, hmu2, hL2⟩ : (k48_2 ≤ ((m.getD ((k1_1).toNat) []).length)) ∧ (k1_2 = k1_1) ∧ (∀ j, j < k48_2 → ¬ tight m y k1_1 j) ∧ ((m.getD ((k1_1).toNat) []).length) - k48_2 < fu2 ∧ F_impl_ShortestWay_L2 m y k1_1 fu2 (k1_2, k48_2) = c44 := hJ2
        change TC _ _ _ _ (Hp w [rowI 3 vk9_1 k9_1, tabI 25 3 r3_1.1 r3_1.2 (F_impl_Metric_closed m), .blk g0_0 29 [vm]]) [(1, (.int .i64 k1_2)), (2, (.int .i64 y)), (3, (.pointer (some ⟨g0_0, 0, none⟩))), (8, r3_1.1), (9, vk9_1), (46, (um.getD ((k1_1).toNat) undef)), (47, (.int .i64 ((m.getD ((k1_1).toNat) []).length : Int))), (48, (.int .i64 (k48_2 : Int)))]
        obtain ⟨mf2, rfl⟩ : ∃ m, fu2 = m + 1 := ⟨fu2 - 1, by omega⟩
        rw [F_impl_ShortestWay_L2_s] at hL2
        have hcr2 := hcs.rows k1_2.toNat
        have hcb2 := closed_bd hTP k1_2.toNat y.toNat
        have hcz := hcs.rows k48_2
        have hcb := closed_bd hTP k48_2 y.toNat
        have hme := hT.el k1_1.toNat k48_2
        refine TC.seq ?_
        refine TC.region ?_
        refine TL.op (yq (y_lss (ev_t rfl) (ev_t rfl))) rfl rfl rfl ?_
        refine TL.nil ?_
        refine TN.seq ?_
        refine TC.seq ?_
        refine TC.cond (b := decide ((k48_2 : Int) < ((m.getD ((k1_1).toNat) []).length : Int))) (ev_t rfl) (fun h46 => ?_) (fun h46 => ?_)
        · rw [bif_pos h46] at hL2
          have q47 := (of_decide_eq_true h46)
          refine TC.skip ?_
          refine TN.seq ?_
          refine TC.seq ?_
          refine TC.block ?_
          refine TC.seq ?_
          refine TC.region ?_
          refine TL.op (yq (y_move (ev_t rfl))) rfl rfl rfl ?_
          have hb48 : k48_2 < (m.getD ((k1_1).toNat) []).length := (by first | omega | (simp only [List.length_set, List.length_append, List.length_cons, List.length_nil, List.length_replicate]; omega))
          refine TL.op (yq (y_idx (k := k48_2) (ev_t rfl) (ev_t rfl) (by omega) slT_25 (ri_arg ha43) hb48)) rfl rfl rfl ?_
          refine TL.op (yq (y_ldi (ev_t rfl) one_3 (ri_arg ha43) hb48)) rfl rfl rfl ?_
          refine TL.op (yq (y_assign (ev_t rfl))) rfl rfl rfl ?_
          refine TL.op (yq (y_assign (ev_t rfl))) rfl rfl rfl ?_
          refine TL.nil ?_
          refine TN.seq ?_
          refine TC.seq ?_
          refine TC.regionQ (by kernel_rfl) (by kernel_rfl) dr_hp ?_
          refine TQ.op (yq (y_move (ev_t rfl))) rfl rfl rfl ?_
          refine TQ.op (yq (y_move (ev_t rfl))) rfl rfl rfl ?_
          refine TQ.op (yq (y_neq (ev_t rfl) (ev_t rfl))) rfl rfl rfl ?_
          refine TQ.op (yq (y_move (ev_t rfl))) rfl rfl rfl ?_
          refine TQ.opw (w_t rfl rfl rfl) (fun hg => yq (y_move (ev_t rfl))) rfl rfl ?_
          refine TQ.opw (w_t rfl rfl rfl) (fun hg => yq (y_gtr (ev_g rfl hg) ev_c)) rfl rfl ?_
          refine TQ.op (yq (y_and (ev_t rfl) (fun hq => (ev_g rfl hq)))) rfl rfl rfl ?_
          refine TQ.op (yq (y_move (ev_t rfl))) rfl rfl rfl ?_
          refine TQ.opw (w_t rfl rfl rfl) (fun hg => yq (y_move (ev_t rfl))) rfl rfl ?_
          refine TQ.opw (w_t rfl rfl rfl) (fun hg => yq (y_move (ev_t rfl))) rfl rfl ?_
          refine TQ.opw (w_t rfl rfl rfl) (fun hg => yq (y_move (ev_t rfl))) rfl rfl ?_
          refine TQ.opw (w_t rfl rfl rfl) (fun hg => yq (y_idx (k := k48_2) (ev_g rfl hg) (ev_g rfl hg) (by omega) slT_22 (fun w hw => ((rii_tab 1 rfl) w hw).1) (show k48_2 < (F_impl_Metric_closed m).length by have hgf := (and_imp (and_t hg) (fun h => (of_decide_eq_false (not_t h))) (fun h => (of_decide_eq_true h))); omega))) rfl rfl ?_
          refine TQ.opw (w_t rfl rfl rfl) (fun hg => yq (y_ldT 1 (ev_g rfl hg) one_25 rfl (show k48_2 < (F_impl_Metric_closed m).length by have hgf := (and_imp (and_t hg) (fun h => (of_decide_eq_false (not_t h))) (fun h => (of_decide_eq_true h))); omega))) rfl rfl ?_
          refine TQ.opw (w_t rfl rfl rfl) (fun hg => yq (y_move (ev_t rfl))) rfl rfl ?_
          refine TQ.opw (w_t rfl rfl rfl) (fun hg => yq (y_idx (k := (y).toNat) (ev_g rfl hg) (ev_g rfl hg) (by omega) slT_25 (ri_tab 1 k48_2 rfl (show k48_2 < (F_impl_Metric_closed m).length by have hgf := (and_imp (and_t hg) (fun h => (of_decide_eq_false (not_t h))) (fun h => (of_decide_eq_true h))); omega)) (show (y).toNat < ((F_impl_Metric_closed m).getD k48_2 []).length by have hgf := (and_imp (and_t hg) (fun h => (of_decide_eq_false (not_t h))) (fun h => (of_decide_eq_true h))); omega))) rfl rfl ?_
          refine TQ.opw (w_t rfl rfl rfl) (fun hg => yq (y_ldi (ev_g rfl hg) one_3 (ri_tab 1 k48_2 rfl (show k48_2 < (F_impl_Metric_closed m).length by have hgf := (and_imp (and_t hg) (fun h => (of_decide_eq_false (not_t h))) (fun h => (of_decide_eq_true h))); omega)) (show (y).toNat < ((F_impl_Metric_closed m).getD k48_2 []).length by have hgf := (and_imp (and_t hg) (fun h => (of_decide_eq_false (not_t h))) (fun h => (of_decide_eq_true h))); omega))) rfl rfl ?_
          refine TQ.opw (w_t rfl rfl rfl) (fun hg => yq (y_add (ev_g rfl hg) (ev_g rfl hg) (by unfold In64; omega))) rfl rfl ?_
          refine TQ.opw (w_t rfl rfl rfl) (fun hg => yq (y_move (ev_t rfl))) rfl rfl ?_
          refine TQ.opw (w_t rfl rfl rfl) (fun hg => yq (y_move (ev_t rfl))) rfl rfl ?_
          refine TQ.opw (w_t rfl rfl rfl) (fun hg => yq (y_idx (k := (k1_2).toNat) (ev_g rfl hg) (ev_g rfl hg) (by omega) slT_22 (fun w hw => ((rii_tab 1 rfl) w hw).1) (show (k1_2).toNat < (F_impl_Metric_closed m).length by have hgf := (and_imp (and_t hg) (fun h => (of_decide_eq_false (not_t h))) (fun h => (of_decide_eq_true h))); omega))) rfl rfl ?_
          refine TQ.opw (w_t rfl rfl rfl) (fun hg => yq (y_ldT 1 (ev_g rfl hg) one_25 rfl (show (k1_2).toNat < (F_impl_Metric_closed m).length by have hgf := (and_imp (and_t hg) (fun h => (of_decide_eq_false (not_t h))) (fun h => (of_decide_eq_true h))); omega))) rfl rfl ?_
          refine TQ.opw (w_t rfl rfl rfl) (fun hg => yq (y_move (ev_t rfl))) rfl rfl ?_
          refine TQ.opw (w_t rfl rfl rfl) (fun hg => yq (y_idx (k := (y).toNat) (ev_g rfl hg) (ev_g rfl hg) (by omega) slT_25 (ri_tab 1 ((k1_2).toNat) rfl (show (k1_2).toNat < (F_impl_Metric_closed m).length by have hgf := (and_imp (and_t hg) (fun h => (of_decide_eq_false (not_t h))) (fun h => (of_decide_eq_true h))); omega)) (show (y).toNat < ((F_impl_Metric_closed m).getD ((k1_2).toNat) []).length by have hgf := (and_imp (and_t hg) (fun h => (of_decide_eq_false (not_t h))) (fun h => (of_decide_eq_true h))); omega))) rfl rfl ?_
          refine TQ.opw (w_t rfl rfl rfl) (fun hg => yq (y_ldi (ev_g rfl hg) one_3 (ri_tab 1 ((k1_2).toNat) rfl (show (k1_2).toNat < (F_impl_Metric_closed m).length by have hgf := (and_imp (and_t hg) (fun h => (of_decide_eq_false (not_t h))) (fun h => (of_decide_eq_true h))); omega)) (show (y).toNat < ((F_impl_Metric_closed m).getD ((k1_2).toNat) []).length by have hgf := (and_imp (and_t hg) (fun h => (of_decide_eq_false (not_t h))) (fun h => (of_decide_eq_true h))); omega))) rfl rfl ?_
          refine TQ.opw (w_t rfl rfl rfl) (fun hg => yq (y_eql (ev_g rfl hg) (ev_g rfl hg))) rfl rfl ?_
          refine TQ.op (yq (y_and (ev_t rfl) (fun hq => (ev_g rfl hq)))) rfl rfl rfl ?_
          refine TQ.nil ?_
          refine TN.seq ?_
          refine TC.cond (b := (((!decide ((k48_2 : Int) = k1_2)) && (decide (0 < ((m.getD ((k1_1).toNat) []).getD k48_2 0)))) && (decide (((m.getD ((k1_1).toNat) []).getD k48_2 0) + (((F_impl_Metric_closed m).getD k48_2 []).getD ((y).toNat) 0) = (((F_impl_Metric_closed m).getD ((k1_2).toNat) []).getD ((y).toNat) 0))))) (ev_t rfl) (fun h49 => ?_) (fun h49 => ?_)
          · rw [bif_pos h49] at hL2
            have q50 := (and_imp (and_t h49) (fun h => (and_imp (and_t h) (fun h => (of_decide_eq_false (not_t h))) (fun h => (of_decide_eq_true h)))) (fun h => (of_decide_eq_true h)))
            have htt := is_tight (m := m) (y := y) (x := k1_1) (x2 := k1_2) (k := k48_2) hi2_1 (by assumption)
            have hst := tight_step hTP htt
            have hkz : ((F_impl_Metric_closed m).getD ((k48_2 : Int)).toNat []).getD y.toNat 0 = ((F_impl_Metric_closed m).getD k48_2 []).getD y.toNat 0 := rfl
            refine TC.seq ?_
            refine TC.region ?_
            refine TL.op (yq (y_move (ev_t rfl))) rfl rfl rfl ?_
            refine TL.op (yq (y_assign (ev_t rfl))) rfl rfl rfl ?_
            refine TL.nil ?_
            refine TN.seq ?_
            refine TC.exit ?_
            refine TN.blockM rfl ?_
            refine TN.thenE ?_
            refine TN.thenE ?_
            rw [← hL2, elim_next] at hL1
            try dsimp only at hL1
            refine TN.blockH ?_
            refine TN.seq ?_
            refine TC.region ?_
            refine TL.op (yq (y_move (ev_t rfl))) rfl rfl rfl ?_
            refine TL.op (yq (y_move (ev_t rfl))) rfl rfl rfl ?_
            refine TL.buildI (zs := [.tmp 82]) (qs := [(k48_2 : Int)]) slT_25 rfl ⟨(ev_t rfl), trivial⟩ rfl (by decide) rfl (fun v14_2 => ?_)
            refine TL.appendI 1 (ev_t rfl) (ev_t rfl) rfl slT_25 (ri_row 0 rfl) (by first | omega | (simp [-List.getD_eq_getElem?_getD] <;> omega)) rfl (fun v14_3 => ?_)
            refine TL.op (yq (y_assign (ev_t rfl))) rfl rfl rfl ?_
            refine TL.nil ?_
            refine TN.blockN ?_
            exact TN.hand (mf1, (k48_2 : Int), (k9_1 ++ ([(k48_2 : Int)])), v14_3) ⟨(by first | omega | (simp [-List.getD_eq_getElem?_getD] <;> omega)), (by first | omega | (simp [-List.getD_eq_getElem?_getD] <;> omega)), (by first | omega | (simp [-List.getD_eq_getElem?_getD] <;> omega)), (by first | omega | (simp [-List.getD_eq_getElem?_getD] <;> omega)), (by omega), hL1⟩ (Nat.lt_succ_self _) ⟨rfl, rfl, rfl, rfl, rfl, trivial⟩ (fun w hw => Hp.sublist hw (.cons _ (.cons_cons _ (.cons_cons _ (.cons_cons _ .slnil)))))
          · rw [bif_neg h49] at hL2
            have q50 := ((and_f h49).imp (fun h => ((and_f h).imp (fun h => (of_decide_eq_true (not_f h))) (fun h => (of_decide_eq_false h)))) (fun h => (of_decide_eq_false h)))
            have hnt := not_tight (m := m) (y := y) (x := k1_1) (x2 := k1_2) (k := k48_2) hi2_1 (by assumption)
            refine TC.skip ?_
            refine TN.blockN ?_
            refine TN.seq ?_
            refine TC.region ?_
            refine TL.op (yq (y_add (ev_t rfl) ev_c (by unfold In64; omega))) rfl rfl rfl ?_
            refine TL.op (yq (y_move (ev_t rfl))) rfl rfl rfl ?_
            refine TL.nil ?_
            exact TN.hand (mf2, k1_2, (k48_2 + 1)) ⟨(by first | omega | (simp [-List.getD_eq_getElem?_getD] <;> omega)), (by first | omega | (simp [-List.getD_eq_getElem?_getD] <;> omega)), (upto_succ hi2_2 hnt), (by omega), hL2⟩ (Nat.lt_succ_self _) ⟨rfl, rfl, rfl, rfl, rfl, rfl, rfl, rfl, trivial⟩ (fun w hw => hw)
        · rw [bif_neg h46] at hL2
          have q47 := (of_decide_eq_false h46)
          have hF := tight_none hTP (x := k1_1) (y := y) (by omega) (by omega) (by assumption) hi1_2 (k := k48_2) (by omega) hi2_2
          refine TC.exit ?_
          refine TN.thenE ?_
          refine TN.thenE ?_
          rw [← hL2, elim_next] at hL1
          try dsimp only at hL1
          refine TN.blockH ?_
          refine TN.seq ?_
          refine TC.region ?_
          refine TL.op (yq (y_move (ev_t rfl))) rfl rfl rfl ?_
          refine TL.op (yq (y_move (ev_t rfl))) rfl rfl rfl ?_
          refine TL.buildI (zs := [.tmp 82]) (qs := [k1_2]) slT_25 rfl ⟨(ev_t rfl), trivial⟩ rfl (by decide) rfl (fun v14_2 => ?_)
          refine TL.appendI 1 (ev_t rfl) (ev_t rfl) rfl slT_25 (ri_row 0 rfl) (by first | omega | (simp [-List.getD_eq_getElem?_getD] <;> omega)) rfl (fun v14_3 => ?_)
          refine TL.op (yq (y_assign (ev_t rfl))) rfl rfl rfl ?_
          refine TL.nil ?_
          refine TN.blockN ?_
          exact TN.hand (mf1, k1_2, (k9_1 ++ ([k1_2])), v14_3) ⟨(by first | omega | (simp [-List.getD_eq_getElem?_getD] <;> omega)), (by first | omega | (simp [-List.getD_eq_getElem?_getD] <;> omega)), (by first | omega | (simp [-List.getD_eq_getElem?_getD] <;> omega)), (by first | omega | (simp [-List.getD_eq_getElem?_getD] <;> omega)), (by omega), hL1⟩ (Nat.lt_succ_self _) ⟨rfl, rfl, rfl, rfl, rfl, trivial⟩ (fun w hw => Hp.sublist hw (.cons _ (.cons_cons _ (.cons_cons _ (.cons_cons _ .slnil)))))
      · rw [bif_neg h40] at hL1
        have q41 := (of_decide_eq_true (not_f h40))
        refine TC.exit ?_
        refine TN.thenE ?_
        refine TN.thenE ?_
        rw [← hL1, elim_next] at hF
        try dsimp only at hF
        refine TN.blockH ?_
        refine TN.seq ?_
        refine TC.seq ?_
        refine TC.region ?_
        refine TL.op (yq (y_move (ev_t rfl))) rfl rfl rfl ?_
        refine TL.op (yq (y_assign (ev_t rfl))) rfl rfl rfl ?_
        refine TL.op (yq (y_assign ev_c)) rfl rfl rfl ?_
        refine TL.nil ?_
        refine TN.seq ?_
        refine TC.ret ?_
        subst hF
        exact TN.ret2 rfl (ev_t rfl) (ev_t rfl) (fun w' hw => ⟨vk9_1, rfl, Hp.sublist hw (.cons_cons _ (.cons _ (.cons _ .slnil)))⟩)

set_option maxRecDepth 4000 in
set_option maxHeartbeats 1000000 in
theorem spec_l6Ways_ok_R (fr : Nat) : ∀ (w : World) (vm : Value) (um : List Value) (m : List (List Int)) (hm : RII w vm um m) (vbegun : Value) (begun : List Int) (hbegun : RI w vbegun begun) (sum : Int) (to : Int) (hp0 : TabP true m) (hp1 : Smp m.length begun) (hp2 : 0 ≤ sum) (hp3 : sum ≤ 99 * begun.length) (hfr : m.length - begun.length < fr),
    Calls Try.prog 62 ([(.agg #[vm]), vbegun, (.int .i64 sum), (.int .i64 to)] : List Value).toArray w (fun e w' => ∃ i : Value, e = .returned (.tuple #[i, (.int .i64 ((F_spec_l6Ways_R fr m begun sum to).2))]) ∧ Hp w [rowI 3 i ((F_spec_l6Ways_R fr m begun sum to).1)] w') := by
  induction fr with
  | zero => intro w; intros; omega
  | succ mr ih =>
    intro w vm um m hm vbegun begun hbegun sum to hp0 hp1 hp2 hp3 hfr
    obtain ⟨rz, hF⟩ : ∃ rz, (F_spec_l6Ways_R (mr + 1) m begun sum to) = rz := ⟨_, rfl⟩
    rw [hF]
    rw [F_spec_l6Ways_R_s] at hF
    have hn6 := hp0.n6
    have hsl := hp1.len
    have hs1 := hp1.n1
    have hla := hp1.last
    have hl1 : 0 ≤ begun.getD (((begun.length : Int) - 1).toNat) 0 := hla.1
    have hl2 : begun.getD (((begun.length : Int) - 1).toNat) 0 < m.length := hla.2.1
    have hrw := hp0.rows ((begun.getD (((begun.length : Int) - 1).toNat) 0)).toNat (by omega)
    have hlen_m := argT_len hm
    have hlen_begun := arg_len hbegun
    refine calls_tc Try.func62 rfl rfl rfl ?_
    change TC _ _ _ _ (Hp w []) [(0, (.agg #[vm])), (1, vbegun), (2, (.int .i64 sum)), (3, (.int .i64 to))]
    refine TC.seq ?_
    refine TC.region ?_
    refine TL.box (ev_t rfl) rfl (fun g0_0 => ?_)
    refine TL.op (yq (y_assign ev_c)) rfl rfl rfl ?_
    refine TL.op (yq (y_assign ev_c)) rfl rfl rfl ?_
    refine TL.nil ?_
    refine TN.seq ?_
    refine TC.seq ?_
    refine TC.region ?_
    refine TL.op (yq (y_move (ev_t rfl))) rfl rfl rfl ?_
    refine TL.op (yq (y_move (ev_t rfl))) rfl rfl rfl ?_
    refine TL.op (yq (y_len (ev_t rfl) Try.underlying25 (fun w hw => ((ri_arg hbegun) w hw).ln))) rfl rfl rfl ?_
    refine TL.op (yq (y_sub (ev_t rfl) ev_c (by unfold In64; omega))) rfl rfl rfl ?_
    have hb28 : ((begun.length : Int) - 1).toNat < begun.length := (by first | omega | (simp only [List.length_set, List.length_append, List.length_cons, List.length_nil, List.length_replicate]; omega))
    refine TL.op (yq (y_idx (k := ((begun.length : Int) - 1).toNat) (ev_t rfl) (ev_t rfl) (by omega) slT_25 (ri_arg hbegun) hb28)) rfl rfl rfl ?_
    refine TL.op (yq (y_ldi (ev_t rfl) one_3 (ri_arg hbegun) hb28)) rfl rfl rfl ?_
    refine TL.op (yq (y_assign (ev_t rfl))) rfl rfl rfl ?_
    refine TL.nil ?_
    refine TN.seq ?_
    refine TC.seq ?_
    refine TC.seq ?_
    refine TC.region ?_
    refine TL.op (yq (y_move (ev_t rfl))) rfl rfl rfl ?_
    refine TL.op (yq (y_move (ev_t rfl))) rfl rfl rfl ?_
    refine TL.op (yq (y_eql (ev_t rfl) (ev_t rfl))) rfl rfl rfl ?_
    refine TL.nil ?_
    refine TN.seq ?_
    refine TC.cond (b := decide ((begun.getD (((begun.length : Int) - 1).toNat) 0) = to)) (ev_t rfl) (fun h29 => ?_) (fun h29 => ?_)
    · rw [bif_pos h29] at hF
      have q30 := (of_decide_eq_true h29)
      refine TC.seq ?_
      refine TC.region ?_
      refine TL.buildI (zs := []) (qs := []) slT_25 rfl trivial rfl (by decide) rfl (fun v3_0 => ?_)
      refine TL.op (yq (y_move (ev_t rfl))) rfl rfl rfl ?_
      refine TL.appendI 0 (ev_t rfl) (ev_t rfl) rfl slT_25 (ri_arg hbegun) (by first | omega | (simp [-List.getD_eq_getElem?_getD] <;> omega)) rfl (fun v3_2 => ?_)
      refine TL.op (yq (y_move (ev_t rfl))) rfl rfl rfl ?_
      refine TL.op (yq (y_assign (ev_t rfl))) rfl rfl rfl ?_
      refine TL.op (yq (y_assign (ev_t rfl))) rfl rfl rfl ?_
      refine TL.nil ?_
      refine TN.seq ?_
      refine TC.ret ?_
      refine TN.thenR ?_
      subst hF
      exact TN.ret2 rfl (ev_t rfl) (ev_t rfl) (fun w' hw => ⟨v3_2, rfl, Hp.sublist hw (.cons_cons _ (.cons _ .slnil))⟩)
    · rw [bif_neg h29] at hF
      have q30 := (of_decide_eq_false h29)
      refine TC.skip ?_
      refine TN.seq ?_
      refine TC.seq ?_
      refine TC.region ?_
      refine TL.buildI (zs := []) (qs := []) slT_25 rfl trivial rfl (by decide) rfl (fun v4_0 => ?_)
      refine TL.op (yq (y_assign (ev_t rfl))) rfl rfl rfl ?_
      refine TL.op (yq (y_assign ev_c)) rfl rfl rfl ?_
      refine TL.nil ?_
      refine TN.seq ?_
      refine TC.seq ?_
      refine TC.seq ?_
      refine TC.region ?_
      refine TL.op (yq (y_assign ev_c)) rfl rfl rfl ?_
      refine TL.nil ?_
      refine TN.seq ?_
      refine TC.block ?_
      obtain ⟨c31, hc32⟩ : ∃ c, F_spec_l6Ways_L1 m begun sum to (F_spec_l6Ways_R mr) ((m.length - 0) + 1) (([] : List Int), (-1), 0) = c := ⟨_, rfl⟩
      rw [hc32] at hF
      refine TC.loop (ι := Nat × List Int × Int × Nat × Value) (fun (fu1, k11_1, k12_1, k13_1, vk11_1) => [(1, vbegun), (2, (.int .i64 sum)), (3, (.int .i64 to)), (4, (.pointer (some ⟨g0_0, 0, none⟩))), (10, (.int .i64 (begun.getD (((begun.length : Int) - 1).toNat) 0))), (11, vk11_1), (12, (.int .i64 k12_1)), (13, (.int .i64 (k13_1 : Int)))]) (fun (fu1, k11_1, k12_1, k13_1, vk11_1) => Hp w [rowI 3 vk11_1 k11_1, .blk g0_0 29 [vm]]) (fun (fu1, k11_1, k12_1, k13_1, vk11_1) => (k13_1 ≤ m.length) ∧ m.length - k13_1 < fu1 ∧ F_spec_l6Ways_L1 m begun sum to (F_spec_l6Ways_R mr) fu1 (k11_1, k12_1, k13_1) = c31) (fun (fu1, k11_1, k12_1, k13_1, vk11_1) => fu1) ((m.length - 0) + 1, ([] : List Int), -1, 0, v4_0) ⟨(by first | omega | (simp [-List.getD_eq_getElem?_getD] <;> omega)), (by omega), hc32⟩ ⟨rfl, rfl, rfl, rfl, rfl, rfl, rfl, rfl, trivial⟩ (fun w hw => hw) ?_
      rintro ⟨fu1, k11_1, k12_1, k13_1, vk11_1⟩ hJ1
      obtain ⟨hi1_0, hmu1, hL1⟩ : (k13_1 ≤ m.length) ∧ m.length - k13_1 < fu1 ∧ F_spec_l6Ways_L1 m begun sum to (F_spec_l6Ways_R mr) fu1 (k11_1, k12_1, k13_1) = c31 := hJ1
      change TC _ _ _ _ (Hp w [rowI 3 vk11_1 k11_1, .blk g0_0 29 [vm]]) [(1, vbegun), (2, (.int .i64 sum)), (3, (.int .i64 to)), (4, (.pointer (some ⟨g0_0, 0, none⟩))), (10, (.int .i64 (begun.getD (((begun.length : Int) - 1).toNat) 0))), (11, vk11_1), (12, (.int .i64 k12_1)), (13, (.int .i64 (k13_1 : Int)))]
      obtain ⟨mf1, rfl⟩ : ∃ m, fu1 = m + 1 := ⟨fu1 - 1, by omega⟩
      rw [F_spec_l6Ways_L1_s] at hL1
      refine TC.seq ?_
      refine TC.seq ?_
      refine TC.region ?_
      refine TL.op (yq (y_move (ev_t rfl))) rfl rfl rfl ?_
      refine TL.op (yq (y_fa (fa_29_0 g0_0) (ev_t rfl))) rfl rfl rfl ?_
      refine TL.op (yq (y_ldb 1 (ev_t rfl) one_22 rfl rfl)) rfl rfl rfl ?_
      refine TL.op (yq (y_len (ev_t rfl) Try.underlying22 (fun w hw => ((fun w hw => ((rii_arg hm) w hw).1) w hw).ln))) rfl rfl rfl ?_
      refine TL.op (yq (y_lss (ev_t rfl) (ev_t rfl))) rfl rfl rfl ?_
      refine TL.nil ?_
      refine TN.seq ?_
      refine TC.cond (b := decide ((k13_1 : Int) < (m.length : Int))) (ev_t rfl) (fun h33 => ?_) (fun h33 => ?_)
      · rw [bif_pos h33] at hL1
        have q34 := (of_decide_eq_true h33)
        refine TC.skip ?_
        refine TN.seq ?_
        refine TC.seq ?_
        refine TC.block ?_
        refine TC.seq ?_
        refine TC.seq ?_
        refine TC.region ?_
        refine TL.op (yq (y_fa (fa_29_0 g0_0) (ev_t rfl))) rfl rfl rfl ?_
        refine TL.op (yq (y_ldb 1 (ev_t rfl) one_22 rfl rfl)) rfl rfl rfl ?_
        refine TL.op (yq (y_move (ev_t rfl))) rfl rfl rfl ?_
        have hb35 : ((begun.getD (((begun.length : Int) - 1).toNat) 0)).toNat < m.length := (by first | omega | (simp only [List.length_set, List.length_append, List.length_cons, List.length_nil, List.length_replicate]; omega))
        refine TL.op (yq (y_idx (k := ((begun.getD (((begun.length : Int) - 1).toNat) 0)).toNat) (ev_t rfl) (ev_t rfl) (by omega) slT_22 (fun w hw => ((rii_arg hm) w hw).1) hb35)) rfl rfl rfl ?_
        have ha36 := hm.row (i := ((begun.getD (((begun.length : Int) - 1).toNat) 0)).toNat) hb35
        refine TL.op (yq (y_ldA (ev_t rfl) one_25 (rii_arg hm) hb35)) rfl rfl rfl ?_
        refine TL.op (yq (y_move (ev_t rfl))) rfl rfl rfl ?_
        have hb37 : k13_1 < (m.getD (((begun.getD (((begun.length : Int) - 1).toNat) 0)).toNat) []).length := (by first | omega | (simp only [List.length_set, List.length_append, List.length_cons, List.length_nil, List.length_replicate]; omega))
        refine TL.op (yq (y_idx (k := k13_1) (ev_t rfl) (ev_t rfl) (by omega) slT_25 (ri_arg ha36) hb37)) rfl rfl rfl ?_
        refine TL.op (yq (y_ldi (ev_t rfl) one_3 (ri_arg ha36) hb37)) rfl rfl rfl ?_
        refine TL.op (yq (y_lss (ev_t rfl) ev_c)) rfl rfl rfl ?_
        refine TL.op (yq (y_move (ev_t rfl))) rfl rfl rfl ?_
        refine TL.opw (w_f rfl rfl rfl) (fun hg => yq (y_move (ev_t rfl))) rfl rfl ?_
        refine TL.opw (w_f rfl rfl rfl) (fun hg => yq (y_move (ev_t rfl))) rfl rfl ?_
        refine TL.opw (w_f rfl rfl rfl) (fun hg => y_call (vs := [vbegun, (.int .i64 (k13_1 : Int))]) (v := (.bool (F_spec_l1Has begun (k13_1 : Int)))) en_87 ⟨(ev_g rfl hg), (ev_g rfl hg), trivial⟩ (fun w hw => spec_l1Has_ok w vbegun begun ((ri_arg hbegun) w hw) (k13_1 : Int))) rfl rfl ?_
        refine TL.op (yq (y_or (ev_t rfl) (fun hq => (ev_g rfl hq)))) rfl rfl rfl ?_
        refine TL.nil ?_
        refine TN.seq ?_
        refine TC.cond (b := ((decide (((m.getD (((begun.getD (((begun.length : Int) - 1).toNat) 0)).toNat) []).getD k13_1 0) < 0)) || (F_spec_l1Has begun (k13_1 : Int)))) (ev_t rfl) (fun h38 => ?_) (fun h38 => ?_)
        · rw [bif_pos h38] at hL1
          have q39 := ((or_t h38).imp (fun h => (of_decide_eq_true h)) (fun h => h))
          refine TC.exit ?_
          refine TN.thenE ?_
          refine TN.blockH ?_
          refine TN.seq ?_
          refine TC.region ?_
          refine TL.op (yq (y_move (ev_t rfl))) rfl rfl rfl ?_
          refine TL.op (yq (y_add (ev_t rfl) ev_c (by unfold In64; omega))) rfl rfl rfl ?_
          refine TL.op (yq (y_assign (ev_t rfl))) rfl rfl rfl ?_
          refine TL.nil ?_
          exact TN.hand (mf1, k11_1, k12_1, (k13_1 + 1), vk11_1) ⟨(by first | omega | (simp [-List.getD_eq_getElem?_getD] <;> omega)), (by omega), hL1⟩ (Nat.lt_succ_self _) ⟨rfl, rfl, rfl, rfl, rfl, rfl, rfl, rfl, trivial⟩ (fun w hw => hw)
        · rw [bif_neg h38] at hL1
          have q39 := (and_imp (or_f h38) (fun h => (of_decide_eq_false h)) (fun h => (l1Has_f h)))
          have hsc := hp1.push (k := k13_1) (by omega) (has_false q39.2)
          have hscl := hsc.len
          have hme := hp0.tab.el ((begun.getD (((begun.length : Int) - 1).toNat) 0)).toNat k13_1
          have hq1 := q39.1
          have hlc : ((([] : List Int) ++ begun) ++ [(k13_1 : Int)]).length = begun.length + 1 := by simp
          refine TC.skip ?_
          refine TN.seq ?_
          refine TC.seq ?_
          refine TC.mid (fun a' w' => ∃ r9_18 : Value, Slots 88 [(1, vbegun), (2, (.int .i64 sum)), (3, (.int .i64 to)), (4, (.pointer (some ⟨g0_0, 0, none⟩))), (10, (.int .i64 (begun.getD (((begun.length : Int) - 1).toNat) 0))), (11, vk11_1), (12, (.int .i64 k12_1)), (13, (.int .i64 (k13_1 : Int))), (14, r9_18), (15, (.int .i64 (((F_spec_l6Ways_R mr) m ((([] : List Int) ++ begun) ++ ([(k13_1 : Int)])) (sum + ((m.getD (((begun.getD (((begun.length : Int) - 1).toNat) 0)).toNat) []).getD k13_1 0)) to).2)))] a' ∧ Hp w [rowI 3 r9_18 (((F_spec_l6Ways_R mr) m ((([] : List Int) ++ begun) ++ ([(k13_1 : Int)])) (sum + ((m.getD (((begun.getD (((begun.length : Int) - 1).toNat) 0)).toNat) []).getD k13_1 0)) to).1), rowI 3 vk11_1 k11_1, .blk g0_0 29 [vm]] w') ?_ ?_
          · refine TC.regionH 24 (Hp w [rowI 3 vk11_1 k11_1, .blk g0_0 29 [vm]]) rfl (by kernel_rfl) dr_hp (fun w hw => hw) ?_
            refine TH.take 0 rfl (by kernel_rfl) (y_ldagg (cs := [vm]) 1 (ev_t rfl) agg_29 rfl) rfl rfl rfl ?_
            refine TH.take 2 rfl (by kernel_rfl) (y_move (ev_t rfl)) rfl rfl rfl ?_
            refine TH.take 4 rfl (by kernel_rfl) (y_move (ev_t rfl)) rfl rfl rfl ?_
            refine TH.take 7 rfl (by kernel_rfl) (y_move (ev_t rfl)) rfl rfl rfl ?_
            refine TH.take 8 rfl (by kernel_rfl) (y_fa (fa_29_0 g0_0) (ev_t rfl)) rfl rfl rfl ?_
            refine TH.take 9 rfl (by kernel_rfl) (y_ldb 1 (ev_t rfl) one_22 rfl rfl) rfl rfl rfl ?_
            refine TH.take 10 rfl (by kernel_rfl) (y_move (ev_t rfl)) rfl rfl rfl ?_
            have hb40 : ((begun.getD (((begun.length : Int) - 1).toNat) 0)).toNat < m.length := (by first | omega | (simp only [List.length_set, List.length_append, List.length_cons, List.length_nil, List.length_replicate]; omega))
            refine TH.take 11 rfl (by kernel_rfl) (y_idx (k := ((begun.getD (((begun.length : Int) - 1).toNat) 0)).toNat) (ev_t rfl) (ev_t rfl) (by omega) slT_22 (fun w hw => ((rii_arg hm) w hw).1) hb40) rfl rfl rfl ?_
            have ha41 := hm.row (i := ((begun.getD (((begun.length : Int) - 1).toNat) 0)).toNat) hb40
            refine TH.take 12 rfl (by kernel_rfl) (y_ldA (ev_t rfl) one_25 (rii_arg hm) hb40) rfl rfl rfl ?_
            refine TH.take 13 rfl (by kernel_rfl) (y_move (ev_t rfl)) rfl rfl rfl ?_
            have hb42 : k13_1 < (m.getD (((begun.getD (((begun.length : Int) - 1).toNat) 0)).toNat) []).length := (by first | omega | (simp only [List.length_set, List.length_append, List.length_cons, List.length_nil, List.length_replicate]; omega))
            refine TH.take 14 rfl (by kernel_rfl) (y_idx (k := k13_1) (ev_t rfl) (ev_t rfl) (by omega) slT_25 (ri_arg ha41) hb42) rfl rfl rfl ?_
            refine TH.take 15 rfl (by kernel_rfl) (y_ldi (ev_t rfl) one_3 (ri_arg ha41) hb42) rfl rfl rfl ?_
            refine TH.take 16 rfl (by kernel_rfl) (y_add (ev_t rfl) (ev_t rfl) (by unfold In64; omega)) rfl rfl rfl ?_
            refine TH.take 17 rfl (by kernel_rfl) (y_move (ev_t rfl)) rfl rfl rfl ?_
            refine TH.loud2 1 5 rfl rfl (by kernel_rfl) ?_ ?_
            · refine TL.buildI (zs := []) (qs := []) slT_25 rfl trivial rfl (by decide) rfl (fun v9_1 => ?_)
              refine TL.nil ?_
              refine TH.back (fun w hw => Hp.sublist hw (.cons _ (.cons_cons _ (.cons_cons _ .slnil)))) ?_
              refine TH.loud2 3 5 rfl rfl (by kernel_rfl) ?_ ?_
              · refine TL.appendI 0 (ev_t rfl) (ev_t rfl) rfl slT_25 (ri_arg hbegun) (by first | omega | (simp [-List.getD_eq_getElem?_getD] <;> omega)) rfl (fun v9_3 => ?_)
                refine TL.nil ?_
                refine TH.back (fun w hw => Hp.sublist hw (.cons _ (.cons_cons _ (.cons_cons _ .slnil)))) ?_
                refine TH.loud 5 rfl (by kernel_rfl) ?_
                refine TL.buildI (zs := [.tmp 56]) (qs := [(k13_1 : Int)]) slT_25 rfl ⟨(ev_t rfl), trivial⟩ rfl (by decide) rfl (fun v9_5 => ?_)
                refine TL.nil ?_
                refine TH.back (fun w hw => Hp.sublist hw (.cons _ (.cons _ (.cons_cons _ (.cons_cons _ .slnil))))) ?_
                refine TH.loud 6 rfl (by kernel_rfl) ?_
                refine TL.appendI 1 (ev_t rfl) (ev_t rfl) rfl slT_25 (ri_row 0 rfl) (by first | omega | (simp [-List.getD_eq_getElem?_getD] <;> omega)) rfl (fun v9_6 => ?_)
                refine TL.nil ?_
                refine TH.back (fun w hw => Hp.sublist hw (.cons _ (.cons _ (.cons_cons _ (.cons_cons _ .slnil))))) ?_
                refine TH.loud 18 rfl (by kernel_rfl) ?_
                refine TL.callr (ι := Value) (vs := [(.agg #[vm]), v9_6, (.int .i64 (sum + ((m.getD (((begun.getD (((begun.length : Int) - 1).toNat) 0)).toNat) []).getD k13_1 0))), (.int .i64 to)]) (fun i => (.tuple #[i, (.int .i64 (((F_spec_l6Ways_R mr) m ((([] : List Int) ++ begun) ++ ([(k13_1 : Int)])) (sum + ((m.getD (((begun.getD (((begun.length : Int) - 1).toNat) 0)).toNat) []).getD k13_1 0)) to).2))])) (fun i => [rowI 3 i (((F_spec_l6Ways_R mr) m ((([] : List Int) ++ begun) ++ ([(k13_1 : Int)])) (sum + ((m.getD (((begun.getD (((begun.length : Int) - 1).toNat) 0)).toNat) []).getD k13_1 0)) to).1)]) en_62 ⟨(ev_t rfl), (ev_t rfl), (ev_t rfl), (ev_t rfl), trivial⟩ rfl (fun w hw => ih w vm um m ((rii_arg hm) w hw) v9_6 ((([] : List Int) ++ begun) ++ ([(k13_1 : Int)])) ((ri_row 1 rfl) w hw) (sum + ((m.getD (((begun.getD (((begun.length : Int) - 1).toNat) 0)).toNat) []).getD k13_1 0)) to (by first | assumption | omega | grind) (by first | assumption | omega | grind) (by first | assumption | omega | grind) (by first | assumption | omega | grind) (by omega)) (fun r9_18 => ?_)
                refine TL.nil ?_
                refine TH.back (fun w hw => Hp.sublist hw (.cons _ (.cons _ (.cons _ (.cons_cons _ (.cons_cons _ .slnil)))))) ?_
                refine TH.take 19 rfl (by kernel_rfl) (y_move (ev_t rfl)) rfl rfl rfl ?_
                refine TH.take 20 rfl (by kernel_rfl) (y_extract (ev_t rfl) rfl) rfl rfl rfl ?_
                refine TH.take 21 rfl (by kernel_rfl) (y_extract (ev_t rfl) rfl) rfl rfl rfl ?_
                refine TH.take 22 rfl (by kernel_rfl) (y_assign (ev_t rfl)) rfl rfl rfl ?_
                refine TH.take 23 rfl (by kernel_rfl) (y_assign (ev_t rfl)) rfl rfl rfl ?_
                refine TH.done (by kernel_rfl) ?_
                exact fun a' w' hs hw => ⟨r9_18, hs.sub ⟨rfl, rfl, rfl, rfl, rfl, rfl, rfl, rfl, rfl, rfl, trivial⟩, Hp.sublist hw (.cons_cons _ (.cons _ (.cons _ (.cons_cons _ (.cons_cons _ .slnil)))))⟩
              · refine TL.buildI (zs := [.tmp 56]) (qs := [(k13_1 : Int)]) slT_25 rfl ⟨(ev_t rfl), trivial⟩ rfl (by decide) rfl (fun v9_5 => ?_)
                refine TL.nil ?_
                refine TH.back (fun w hw => Hp.sublist hw (.cons _ (.cons _ (.cons_cons _ (.cons_cons _ .slnil))))) ?_
                refine TH.loud 3 rfl (by kernel_rfl) ?_
                refine TL.appendI 1 (ev_t rfl) (ev_t rfl) rfl slT_25 (ri_arg hbegun) (by first | omega | (simp [-List.getD_eq_getElem?_getD] <;> omega)) rfl (fun v9_3 => ?_)
                refine TL.nil ?_
                refine TH.back (fun w hw => Hp.sublist hw (.cons _ (.cons _ (.cons_cons _ (.cons_cons _ .slnil))))) ?_
                refine TH.loud 6 rfl (by kernel_rfl) ?_
                refine TL.appendI 1 (ev_t rfl) (ev_t rfl) rfl slT_25 (ri_row 0 rfl) (by first | omega | (simp [-List.getD_eq_getElem?_getD] <;> omega)) rfl (fun v9_6 => ?_)
                refine TL.nil ?_
                refine TH.back (fun w hw => Hp.sublist hw (.cons _ (.cons _ (.cons_cons _ (.cons_cons _ .slnil))))) ?_
                refine TH.loud 18 rfl (by kernel_rfl) ?_
                refine TL.callr (ι := Value) (vs := [(.agg #[vm]), v9_6, (.int .i64 (sum + ((m.getD (((begun.getD (((begun.length : Int) - 1).toNat) 0)).toNat) []).getD k13_1 0))), (.int .i64 to)]) (fun i => (.tuple #[i, (.int .i64 (((F_spec_l6Ways_R mr) m ((([] : List Int) ++ begun) ++ ([(k13_1 : Int)])) (sum + ((m.getD (((begun.getD (((begun.length : Int) - 1).toNat) 0)).toNat) []).getD k13_1 0)) to).2))])) (fun i => [rowI 3 i (((F_spec_l6Ways_R mr) m ((([] : List Int) ++ begun) ++ ([(k13_1 : Int)])) (sum + ((m.getD (((begun.getD (((begun.length : Int) - 1).toNat) 0)).toNat) []).getD k13_1 0)) to).1)]) en_62 ⟨(ev_t rfl), (ev_t rfl), (ev_t rfl), (ev_t rfl), trivial⟩ rfl (fun w hw => ih w vm um m ((rii_arg hm) w hw) v9_6 ((([] : List Int) ++ begun) ++ ([(k13_1 : Int)])) ((ri_row 1 rfl) w hw) (sum + ((m.getD (((begun.getD (((begun.length : Int) - 1).toNat) 0)).toNat) []).getD k13_1 0)) to (by first | assumption | omega | grind) (by first | assumption | omega | grind) (by first | assumption | omega | grind) (by first | assumption | omega | grind) (by omega)) (fun r9_18 => ?_)
                refine TL.nil ?_
                refine TH.back (fun w hw => Hp.sublist hw (.cons _ (.cons _ (.cons _ (.cons_cons _ (.cons_cons _ .slnil)))))) ?_
                refine TH.take 19 rfl (by kernel_rfl) (y_move (ev_t rfl)) rfl rfl rfl ?_
                refine TH.take 20 rfl (by kernel_rfl) (y_extract (ev_t rfl) rfl) rfl rfl rfl ?_
                refine TH.take 21 rfl (by kernel_rfl) (y_extract (ev_t rfl) rfl) rfl rfl rfl ?_
                refine TH.take 22 rfl (by kernel_rfl) (y_assign (ev_t rfl)) rfl rfl rfl ?_
                refine TH.take 23 rfl (by kernel_rfl) (y_assign (ev_t rfl)) rfl rfl rfl ?_
                refine TH.done (by kernel_rfl) ?_
                exact fun a' w' hs hw => ⟨r9_18, hs.sub ⟨rfl, rfl, rfl, rfl, rfl, rfl, rfl, rfl, rfl, rfl, trivial⟩, Hp.sublist hw (.cons_cons _ (.cons _ (.cons _ (.cons_cons _ (.cons_cons _ .slnil)))))⟩
            · refine TL.buildI (zs := [.tmp 56]) (qs := [(k13_1 : Int)]) slT_25 rfl ⟨(ev_t rfl), trivial⟩ rfl (by decide) rfl (fun v9_5 => ?_)
              refine TL.nil ?_
              refine TH.back (fun w hw => Hp.sublist hw (.cons _ (.cons_cons _ (.cons_cons _ .slnil)))) ?_
              refine TH.loud 1 rfl (by kernel_rfl) ?_
              refine TL.buildI (zs := []) (qs := []) slT_25 rfl trivial rfl (by decide) rfl (fun v9_1 => ?_)
              refine TL.nil ?_
              refine TH.back (fun w hw => Hp.sublist hw (.cons _ (.cons _ (.cons_cons _ (.cons_cons _ .slnil))))) ?_
              refine TH.loud 3 rfl (by kernel_rfl) ?_
              refine TL.appendI 0 (ev_t rfl) (ev_t rfl) rfl slT_25 (ri_arg hbegun) (by first | omega | (simp [-List.getD_eq_getElem?_getD] <;> omega)) rfl (fun v9_3 => ?_)
              refine TL.nil ?_
              refine TH.back (fun w hw => Hp.sublist hw (.cons _ (.cons _ (.cons_cons _ (.cons_cons _ .slnil))))) ?_
              refine TH.loud 6 rfl (by kernel_rfl) ?_
              refine TL.appendI 0 (ev_t rfl) (ev_t rfl) rfl slT_25 (ri_row 1 rfl) (by first | omega | (simp [-List.getD_eq_getElem?_getD] <;> omega)) rfl (fun v9_6 => ?_)
              refine TL.nil ?_
              refine TH.back (fun w hw => Hp.sublist hw (.cons _ (.cons _ (.cons_cons _ (.cons_cons _ .slnil))))) ?_
              refine TH.loud 18 rfl (by kernel_rfl) ?_
              refine TL.callr (ι := Value) (vs := [(.agg #[vm]), v9_6, (.int .i64 (sum + ((m.getD (((begun.getD (((begun.length : Int) - 1).toNat) 0)).toNat) []).getD k13_1 0))), (.int .i64 to)]) (fun i => (.tuple #[i, (.int .i64 (((F_spec_l6Ways_R mr) m ((([] : List Int) ++ begun) ++ ([(k13_1 : Int)])) (sum + ((m.getD (((begun.getD (((begun.length : Int) - 1).toNat) 0)).toNat) []).getD k13_1 0)) to).2))])) (fun i => [rowI 3 i (((F_spec_l6Ways_R mr) m ((([] : List Int) ++ begun) ++ ([(k13_1 : Int)])) (sum + ((m.getD (((begun.getD (((begun.length : Int) - 1).toNat) 0)).toNat) []).getD k13_1 0)) to).1)]) en_62 ⟨(ev_t rfl), (ev_t rfl), (ev_t rfl), (ev_t rfl), trivial⟩ rfl (fun w hw => ih w vm um m ((rii_arg hm) w hw) v9_6 ((([] : List Int) ++ begun) ++ ([(k13_1 : Int)])) ((ri_row 0 rfl) w hw) (sum + ((m.getD (((begun.getD (((begun.length : Int) - 1).toNat) 0)).toNat) []).getD k13_1 0)) to (by first | assumption | omega | grind) (by first | assumption | omega | grind) (by first | assumption | omega | grind) (by first | assumption | omega | grind) (by omega)) (fun r9_18 => ?_)
              refine TL.nil ?_
              refine TH.back (fun w hw => Hp.sublist hw (.cons _ (.cons _ (.cons _ (.cons_cons _ (.cons_cons _ .slnil)))))) ?_
              refine TH.take 19 rfl (by kernel_rfl) (y_move (ev_t rfl)) rfl rfl rfl ?_
              refine TH.take 20 rfl (by kernel_rfl) (y_extract (ev_t rfl) rfl) rfl rfl rfl ?_
              refine TH.take 21 rfl (by kernel_rfl) (y_extract (ev_t rfl) rfl) rfl rfl rfl ?_
              refine TH.take 22 rfl (by kernel_rfl) (y_assign (ev_t rfl)) rfl rfl rfl ?_
              refine TH.take 23 rfl (by kernel_rfl) (y_assign (ev_t rfl)) rfl rfl rfl ?_
              refine TH.done (by kernel_rfl) ?_
              exact fun a' w' hs hw => ⟨r9_18, hs.sub ⟨rfl, rfl, rfl, rfl, rfl, rfl, rfl, rfl, rfl, rfl, trivial⟩, Hp.sublist hw (.cons_cons _ (.cons _ (.cons _ (.cons_cons _ (.cons_cons _ .slnil)))))⟩
          · rintro a' w' ⟨r9_18, hs', hw'⟩
            refine (?_ : TN _ .normal 88 (Hp w [rowI 3 r9_18 (((F_spec_l6Ways_R mr) m ((([] : List Int) ++ begun) ++ ([(k13_1 : Int)])) (sum + ((m.getD (((begun.getD (((begun.length : Int) - 1).toNat) 0)).toNat) []).getD k13_1 0)) to).1), rowI 3 vk11_1 k11_1, .blk g0_0 29 [vm]]) [(1, vbegun), (2, (.int .i64 sum)), (3, (.int .i64 to)), (4, (.pointer (some ⟨g0_0, 0, none⟩))), (10, (.int .i64 (begun.getD (((begun.length : Int) - 1).toNat) 0))), (11, vk11_1), (12, (.int .i64 k12_1)), (13, (.int .i64 (k13_1 : Int))), (14, r9_18), (15, (.int .i64 (((F_spec_l6Ways_R mr) m ((([] : List Int) ++ begun) ++ ([(k13_1 : Int)])) (sum + ((m.getD (((begun.getD (((begun.length : Int) - 1).toNat) 0)).toNat) []).getD k13_1 0)) to).2)))]) a' w' hs' hw'
            clear hs' hw'
            refine TN.seq ?_
            refine TC.seq ?_
            refine TC.region ?_
            refine TL.op (yq (y_move (ev_t rfl))) rfl rfl rfl ?_
            refine TL.op (yq (y_geq (ev_t rfl) ev_c)) rfl rfl rfl ?_
            refine TL.op (yq (y_move (ev_t rfl))) rfl rfl rfl ?_
            refine TL.opw (w_t rfl rfl rfl) (fun hg => yq (y_move (ev_t rfl))) rfl rfl ?_
            refine TL.opw (w_t rfl rfl rfl) (fun hg => yq (y_lss (ev_g rfl hg) ev_c)) rfl rfl ?_
            refine TL.opw (w_t rfl rfl rfl) (fun hg => yq (y_move (ev_g rfl hg))) rfl rfl ?_
            refine TL.opw (w_gf rfl rfl rfl) (fun hg => yq (y_move (ev_t rfl))) rfl rfl ?_
            refine TL.opw (w_gf rfl rfl rfl) (fun hg => yq (y_move (ev_t rfl))) rfl rfl ?_
            refine TL.opw (w_gf rfl rfl rfl) (fun hg => yq (y_lss (ev_g rfl hg) (ev_g rfl hg))) rfl rfl ?_
            refine TL.opw (w_t rfl rfl rfl) (fun hg => yq (y_or (ev_g rfl hg) (fun hq => (ev_g rfl (gand hg hq))))) rfl rfl ?_
            refine TL.op (yq (y_and (ev_t rfl) (fun hq => (ev_g rfl hq)))) rfl rfl rfl ?_
            refine TL.nil ?_
            refine TN.seq ?_
            refine TC.cond (b := ((decide (0 ≤ ((F_spec_l6Ways_R mr) m ((([] : List Int) ++ begun) ++ ([(k13_1 : Int)])) (sum + ((m.getD (((begun.getD (((begun.length : Int) - 1).toNat) 0)).toNat) []).getD k13_1 0)) to).2)) && ((decide (k12_1 < 0)) || (decide (((F_spec_l6Ways_R mr) m ((([] : List Int) ++ begun) ++ ([(k13_1 : Int)])) (sum + ((m.getD (((begun.getD (((begun.length : Int) - 1).toNat) 0)).toNat) []).getD k13_1 0)) to).2 < k12_1))))) (ev_t rfl) (fun h43 => ?_) (fun h43 => ?_)
            · rw [bif_pos h43] at hL1
              have q44 := (and_imp (and_t h43) (fun h => (of_decide_eq_true h)) (fun h => ((or_t h).imp (fun h => (of_decide_eq_true h)) (fun h => (of_decide_eq_true h)))))
              refine TC.seq ?_
              refine TC.region ?_
              refine TL.op (yq (y_move (ev_t rfl))) rfl rfl rfl ?_
              refine TL.op (yq (y_assign (ev_t rfl))) rfl rfl rfl ?_
              refine TL.nil ?_
              refine TN.seq ?_
              refine TC.region ?_
              refine TL.op (yq (y_move (ev_t rfl))) rfl rfl rfl ?_
              refine TL.op (yq (y_assign (ev_t rfl))) rfl rfl rfl ?_
              refine TL.nil ?_
              refine TN.blockN ?_
              refine TN.seq ?_
              refine TC.region ?_
              refine TL.op (yq (y_move (ev_t rfl))) rfl rfl rfl ?_
              refine TL.op (yq (y_add (ev_t rfl) ev_c (by unfold In64; omega))) rfl rfl rfl ?_
              refine TL.op (yq (y_assign (ev_t rfl))) rfl rfl rfl ?_
              refine TL.nil ?_
              exact TN.hand (mf1, ((F_spec_l6Ways_R mr) m ((([] : List Int) ++ begun) ++ ([(k13_1 : Int)])) (sum + ((m.getD (((begun.getD (((begun.length : Int) - 1).toNat) 0)).toNat) []).getD k13_1 0)) to).1, ((F_spec_l6Ways_R mr) m ((([] : List Int) ++ begun) ++ ([(k13_1 : Int)])) (sum + ((m.getD (((begun.getD (((begun.length : Int) - 1).toNat) 0)).toNat) []).getD k13_1 0)) to).2, (k13_1 + 1), r9_18) ⟨(by first | omega | (simp [-List.getD_eq_getElem?_getD] <;> omega)), (by omega), hL1⟩ (Nat.lt_succ_self _) ⟨rfl, rfl, rfl, rfl, rfl, rfl, rfl, rfl, trivial⟩ (fun w hw => Hp.sublist hw (.cons_cons _ (.cons _ (.cons_cons _ .slnil))))
            · rw [bif_neg h43] at hL1
              have q44 := ((and_f h43).imp (fun h => (of_decide_eq_false h)) (fun h => (and_imp (or_f h) (fun h => (of_decide_eq_false h)) (fun h => (of_decide_eq_false h)))))
              refine TC.skip ?_
              refine TN.blockN ?_
              refine TN.seq ?_
              refine TC.region ?_
              refine TL.op (yq (y_move (ev_t rfl))) rfl rfl rfl ?_
              refine TL.op (yq (y_add (ev_t rfl) ev_c (by unfold In64; omega))) rfl rfl rfl ?_
              refine TL.op (yq (y_assign (ev_t rfl))) rfl rfl rfl ?_
              refine TL.nil ?_
              exact TN.hand (mf1, k11_1, k12_1, (k13_1 + 1), vk11_1) ⟨(by first | omega | (simp [-List.getD_eq_getElem?_getD] <;> omega)), (by omega), hL1⟩ (Nat.lt_succ_self _) ⟨rfl, rfl, rfl, rfl, rfl, rfl, rfl, rfl, trivial⟩ (fun w hw => Hp.sublist hw (.cons _ (.cons_cons _ (.cons_cons _ .slnil))))
      · rw [bif_neg h33] at hL1
        have q34 := (of_decide_eq_false h33)
        refine TC.exit ?_
        refine TN.thenE ?_
        refine TN.thenE ?_
        rw [← hL1, elim_next] at hF
        try dsimp only at hF
        refine TN.blockH ?_
        refine TN.seq ?_
        refine TC.seq ?_
        refine TC.region ?_
        refine TL.op (yq (y_move (ev_t rfl))) rfl rfl rfl ?_
        refine TL.op (yq (y_move (ev_t rfl))) rfl rfl rfl ?_
        refine TL.op (yq (y_assign (ev_t rfl))) rfl rfl rfl ?_
        refine TL.op (yq (y_assign (ev_t rfl))) rfl rfl rfl ?_
        refine TL.nil ?_
        refine TN.seq ?_
        refine TC.ret ?_
        subst hF
        exact TN.ret2 rfl (ev_t rfl) (ev_t rfl) (fun w' hw => ⟨vk11_1, rfl, Hp.sublist hw (.cons_cons _ (.cons _ .slnil))⟩)
theorem spec_l6Ways_ok (w : World) (vm : Value) (um : List Value) (m : List (List Int)) (hm : RII w vm um m) (vbegun : Value) (begun : List Int) (hbegun : RI w vbegun begun) (sum : Int) (to : Int) (hp0 : TabP true m) (hp1 : Smp m.length begun) (hp2 : 0 ≤ sum) (hp3 : sum ≤ 99 * begun.length) :
    Calls Try.prog 62 ([(.agg #[vm]), vbegun, (.int .i64 sum), (.int .i64 to)] : List Value).toArray w (fun e w' => ∃ i : Value, e = .returned (.tuple #[i, (.int .i64 ((F_spec_l6Ways m begun sum to).2))]) ∧ Hp w [rowI 3 i ((F_spec_l6Ways m begun sum to).1)] w') := spec_l6Ways_ok_R _ w vm um m hm vbegun begun hbegun sum to hp0 hp1 hp2 hp3 (Nat.lt_succ_self _)

set_option maxRecDepth 4000 in
set_option maxHeartbeats 1000000 in
theorem spec_ShortestWay_ok (w : World) (vm : Value) (um : List Value) (m : List (List Int)) (hm : RII w vm um m) (x : Int) (y : Int)  :
    Calls Try.prog 24 ([(.agg #[vm]), (.int .i64 x), (.int .i64 y)] : List Value).toArray w (fun e w' => ∃ i : Value, e = .returned (.tuple #[i, (.bool ((F_spec_ShortestWay m x y).2))]) ∧ Hp w [rowI 3 i ((F_spec_ShortestWay m x y).1)] w') := by
  obtain ⟨rz, hF⟩ : ∃ rz, (F_spec_ShortestWay m x y) = rz := ⟨_, rfl⟩
  rw [hF]
  unfold F_spec_ShortestWay at hF
  have hlen_m := argT_len hm
  refine calls_tc Try.func24 rfl rfl rfl ?_
  change TC _ _ _ _ (Hp w []) [(0, (.agg #[vm])), (1, (.int .i64 x)), (2, (.int .i64 y))]
  refine TC.seq ?_
  refine TC.region ?_
  refine TL.box (ev_t rfl) rfl (fun g0_0 => ?_)
  refine TL.op (yq (y_assign ev_c)) rfl rfl rfl ?_
  refine TL.op (yq (y_assign ev_c)) rfl rfl rfl ?_
  refine TL.nil ?_
  refine TN.seq ?_
  refine TC.seq ?_
  refine TC.seq ?_
  refine TC.region ?_
  refine TL.op (yq (y_ldagg (cs := [vm]) 0 (ev_t rfl) agg_29 rfl)) rfl rfl rfl ?_
  refine TL.op (y_call (vs := [(.agg #[vm]), (.bool true)]) (v := (.bool (F_spec_l6Table m true))) en_60 ⟨(ev_t rfl), ev_c, trivial⟩ (fun w hw => spec_l6Table_ok w vm um m ((rii_arg hm) w hw) true)) rfl rfl rfl ?_
  refine TL.op (yq (y_not (ev_t rfl))) rfl rfl rfl ?_
  refine TL.op (yq (y_move (ev_t rfl))) rfl rfl rfl ?_
  refine TL.opw (w_f rfl rfl rfl) (fun hg => yq (y_move (ev_t rfl))) rfl rfl ?_
  refine TL.opw (w_f rfl rfl rfl) (fun hg => yq (y_fa (fa_29_0 g0_0) (ev_t rfl))) rfl rfl ?_
  refine TL.opw (w_f rfl rfl rfl) (fun hg => yq (y_ldb 0 (ev_g rfl hg) one_22 rfl rfl)) rfl rfl ?_
  refine TL.opw (w_f rfl rfl rfl) (fun hg => yq (y_len (ev_g rfl hg) Try.underlying22 (fun w hw => ((fun w hw => ((rii_arg hm) w hw).1) w hw).ln))) rfl rfl ?_
  refine TL.opw (w_f rfl rfl rfl) (fun hg => yq (y_sub (ev_g rfl hg) ev_c (by unfold In64; omega))) rfl rfl ?_
  refine TL.opw (w_f rfl rfl rfl) (fun hg => y_call (vs := [(.int .i64 x), (.int .i64 0), (.int .i64 ((m.length : Int) - 1))]) (v := (.bool ((decide (0 ≤ x)) && (decide (x ≤ ((m.length : Int) - 1)))))) en_61 ⟨(ev_g rfl hg), ev_c, (ev_g rfl hg), trivial⟩ (fun w hw => spec_l1In_ok w x 0 ((m.length : Int) - 1))) rfl rfl ?_
  refine TL.opw (w_f rfl rfl rfl) (fun hg => yq (y_not (ev_g rfl hg))) rfl rfl ?_
  refine TL.op (yq (y_or (ev_t rfl) (fun hq => (ev_g rfl hq)))) rfl rfl rfl ?_
  refine TL.op (yq (y_move (ev_t rfl))) rfl rfl rfl ?_
  refine TL.opw (w_f rfl rfl rfl) (fun hg => yq (y_move (ev_t rfl))) rfl rfl ?_
  refine TL.opw (w_f rfl rfl rfl) (fun hg => yq (y_fa (fa_29_0 g0_0) (ev_t rfl))) rfl rfl ?_
  refine TL.opw (w_f rfl rfl rfl) (fun hg => yq (y_ldb 0 (ev_g rfl hg) one_22 rfl rfl)) rfl rfl ?_
  refine TL.opw (w_f rfl rfl rfl) (fun hg => yq (y_len (ev_g rfl hg) Try.underlying22 (fun w hw => ((fun w hw => ((rii_arg hm) w hw).1) w hw).ln))) rfl rfl ?_
  refine TL.opw (w_f rfl rfl rfl) (fun hg => yq (y_sub (ev_g rfl hg) ev_c (by unfold In64; omega))) rfl rfl ?_
  refine TL.opw (w_f rfl rfl rfl) (fun hg => y_call (vs := [(.int .i64 y), (.int .i64 0), (.int .i64 ((m.length : Int) - 1))]) (v := (.bool ((decide (0 ≤ y)) && (decide (y ≤ ((m.length : Int) - 1)))))) en_61 ⟨(ev_g rfl hg), ev_c, (ev_g rfl hg), trivial⟩ (fun w hw => spec_l1In_ok w y 0 ((m.length : Int) - 1))) rfl rfl ?_
  refine TL.opw (w_f rfl rfl rfl) (fun hg => yq (y_not (ev_g rfl hg))) rfl rfl ?_
  refine TL.op (yq (y_or (ev_t rfl) (fun hq => (ev_g rfl hq)))) rfl rfl rfl ?_
  refine TL.nil ?_
  refine TN.seq ?_
  refine TC.cond (b := (((!(F_spec_l6Table m true)) || (!((decide (0 ≤ x)) && (decide (x ≤ ((m.length : Int) - 1)))))) || (!((decide (0 ≤ y)) && (decide (y ≤ ((m.length : Int) - 1))))))) (ev_t rfl) (fun h3 => ?_) (fun h3 => ?_)
  · rw [bif_pos h3] at hF
    have q4 := ((or_t h3).imp (fun h => ((or_t h).imp (fun h => (not_t h)) (fun h => ((and_f (not_t h)).imp (fun h => (of_decide_eq_false h)) (fun h => (of_decide_eq_false h)))))) (fun h => ((and_f (not_t h)).imp (fun h => (of_decide_eq_false h)) (fun h => (of_decide_eq_false h)))))
    refine TC.seq ?_
    refine TC.region ?_
    refine TL.buildI (zs := []) (qs := []) slT_25 rfl trivial rfl (by decide) rfl (fun v2_0 => ?_)
    refine TL.op (yq (y_assign (ev_t rfl))) rfl rfl rfl ?_
    refine TL.op (yq (y_assign ev_c)) rfl rfl rfl ?_
    refine TL.nil ?_
    refine TN.seq ?_
    refine TC.ret ?_
    refine TN.thenR ?_
    subst hF
    exact TN.ret2 rfl (ev_t rfl) (ev_t rfl) (fun w' hw => ⟨v2_0, rfl, Hp.sublist hw (.cons_cons _ (.cons _ .slnil))⟩)
  · rw [bif_neg h3] at hF
    have q4 := (and_imp (or_f h3) (fun h => (and_imp (or_f h) (fun h => (l6Table_t (not_f h))) (fun h => (and_imp (and_t (not_f h)) (fun h => (of_decide_eq_true h)) (fun h => (of_decide_eq_true h)))))) (fun h => (and_imp (and_t (not_f h)) (fun h => (of_decide_eq_true h)) (fun h => (of_decide_eq_true h)))))
    have hTP : TabP true m := (l6Table_iff m true).1 (by have hh := (by assumption : (((!(F_spec_l6Table m true)) || (!((decide (0 ≤ x)) && (decide (x ≤ ((m.length : Int) - 1)))))) || (!((decide (0 ≤ y)) && (decide (y ≤ ((m.length : Int) - 1)))))) = false); simp at hh; exact hh.1.1)
    have hsm : Smp m.length [x] := by have := smp_one (n := m.length) (x := x.toNat) (by omega); rwa [show ((x.toNat : Nat) : Int) = x by omega] at this
    refine TC.skip ?_
    refine TN.seq ?_
    refine TC.seq ?_
    refine TC.region ?_
    refine TL.op (yq (y_ldagg (cs := [vm]) 0 (ev_t rfl) agg_29 rfl)) rfl rfl rfl ?_
    refine TL.op (yq (y_move (ev_t rfl))) rfl rfl rfl ?_
    refine TL.buildI (zs := [.tmp 34]) (qs := [x]) slT_25 rfl ⟨(ev_t rfl), trivial⟩ rfl (by decide) rfl (fun v3_2 => ?_)
    refine TL.op (yq (y_move (ev_t rfl))) rfl rfl rfl ?_
    refine TL.callr (ι := Value) (vs := [(.agg #[vm]), v3_2, (.int .i64 0), (.int .i64 y)]) (fun i => (.tuple #[i, (.int .i64 ((F_spec_l6Ways m ([x]) 0 y).2))])) (fun i => [rowI 3 i ((F_spec_l6Ways m ([x]) 0 y).1)]) en_62 ⟨(ev_t rfl), (ev_t rfl), ev_c, (ev_t rfl), trivial⟩ rfl (fun w hw => spec_l6Ways_ok w vm um m ((rii_arg hm) w hw) v3_2 ([x]) ((ri_row 0 rfl) w hw) 0 y (by first | assumption | omega | grind) (by first | assumption | omega | grind) (by first | assumption | omega | grind) (by first | assumption | omega | grind)) (fun r3_4 => ?_)
    refine TL.op (yq (y_move (ev_t rfl))) rfl rfl rfl ?_
    refine TL.op (yq (y_extract (ev_t rfl) rfl)) rfl rfl rfl ?_
    refine TL.op (yq (y_extract (ev_t rfl) rfl)) rfl rfl rfl ?_
    refine TL.op (yq (y_assign (ev_t rfl))) rfl rfl rfl ?_
    refine TL.op (yq (y_assign (ev_t rfl))) rfl rfl rfl ?_
    refine TL.nil ?_
    refine TN.seq ?_
    refine TC.seq ?_
    refine TC.region ?_
    refine TL.op (yq (y_move (ev_t rfl))) rfl rfl rfl ?_
    refine TL.op (yq (y_move (ev_t rfl))) rfl rfl rfl ?_
    refine TL.op (yq (y_geq (ev_t rfl) ev_c)) rfl rfl rfl ?_
    refine TL.op (yq (y_assign (ev_t rfl))) rfl rfl rfl ?_
    refine TL.op (yq (y_assign (ev_t rfl))) rfl rfl rfl ?_
    refine TL.nil ?_
    refine TN.seq ?_
    refine TC.ret ?_
    subst hF
    exact TN.ret2 rfl (ev_t rfl) (ev_t rfl) (fun w' hw => ⟨r3_4, rfl, Hp.sublist hw (.cons_cons _ (.cons _ (.cons _ .slnil)))⟩)

set_option maxRecDepth 4000 in
set_option maxHeartbeats 1000000 in
theorem laws_FnExactShortestWay_ok (w : World) (vm : Value) (um : List Value) (m : List (List Int)) (hm : RII w vm um m) (x : Int) (y : Int)  :
    Calls Try.prog 5 ([(.agg #[vm]), (.int .i64 x), (.int .i64 y)] : List Value).toArray w (Ret (.bool (F_laws_FnExactShortestWay m x y)) (Hp w [])) := by
  obtain ⟨rz, hF⟩ : ∃ rz, (F_laws_FnExactShortestWay m x y) = rz := ⟨_, rfl⟩
  rw [hF]
  unfold F_laws_FnExactShortestWay at hF
  have hut := (shortestWay_both (F_laws_toMetric m) x y).2
  have hml := markIntS_len (F_impl_ShortestWay (F_laws_toMetric m) x y).1 1
  have hlen_m := argT_len hm
  refine calls_tc Try.func5 rfl rfl rfl ?_
  change TC _ _ _ _ (Hp w []) [(0, (.agg #[vm])), (1, (.int .i64 x)), (2, (.int .i64 y))]
  refine TC.seq ?_
  refine TC.region ?_
  refine TL.box (ev_t rfl) rfl (fun g0_0 => ?_)
  refine TL.op (yq (y_assign ev_c)) rfl rfl rfl ?_
  refine TL.nil ?_
  refine TN.seq ?_
  refine TC.seq ?_
  refine TC.region ?_
  refine TL.op (yq (y_assign ev_c)) rfl rfl rfl ?_
  refine TL.nil ?_
  refine TN.seq ?_
  refine TC.seq ?_
  refine TC.region ?_
  refine TL.op (yq (y_ldagg (cs := [vm]) 0 (ev_t rfl) agg_24 rfl)) rfl rfl rfl ?_
  refine TL.op (yq (y_move (ev_t rfl))) rfl rfl rfl ?_
  refine TL.op (y_call (vs := [(.agg #[vm]), (.int .i64 1048576)]) (v := (.int .i64 (F_laws_szMetric m 1048576))) en_15 ⟨(ev_t rfl), (ev_t rfl), trivial⟩ (fun w hw => laws_szMetric_ok w vm um m ((rii_arg hm) w hw) 1048576 (by first | assumption | omega | grind) (by first | assumption | omega | grind))) rfl rfl rfl ?_
  refine TL.op (yq (y_assign (ev_t rfl))) rfl rfl rfl ?_
  refine TL.nil ?_
  refine TN.seq ?_
  refine TC.seq ?_
  refine TC.seq ?_
  refine TC.region ?_
  refine TL.op (yq (y_move (ev_t rfl))) rfl rfl rfl ?_
  refine TL.op (yq (y_lss (ev_t rfl) ev_c)) rfl rfl rfl ?_
  refine TL.nil ?_
  refine TN.seq ?_
  refine TC.cond (b := decide ((F_laws_szMetric m 1048576) < 0)) (ev_t rfl) (fun h19 => ?_) (fun h19 => ?_)
  · rw [bif_pos h19] at hF
    have q20 := (of_decide_eq_true h19)
    refine TC.seq ?_
    refine TC.region ?_
    refine TL.op (yq (y_assign ev_c)) rfl rfl rfl ?_
    refine TL.nil ?_
    refine TN.seq ?_
    refine TC.ret ?_
    refine TN.thenR ?_
    subst hF
    exact TN.ret1 rfl (ev_t rfl) (fun w' hw => ⟨rfl, Hp.sublist hw (List.nil_sublist _)⟩)
  · rw [bif_neg h19] at hF
    have q20 := (of_decide_eq_false h19)
    have hsz := szMetric_t (m := m) (left := 1048576) (by omega)
    have hsz1 : ∀ i, (m.getD i []).length ≤ 1048576 := fun i => by have := hsz.2 i; omega
    have hsz2 : m.length + total m ≤ 1048576 := by have := hsz.1; omega
    have htm := toMetric_eq m
    refine TC.skip ?_
    refine TN.seq ?_
    refine TC.seq ?_
    refine TC.region ?_
    refine TL.op (yq (y_ldagg (cs := [vm]) 0 (ev_t rfl) agg_24 rfl)) rfl rfl rfl ?_
    refine TL.callr (ι := Value × List Value) (vs := [(.agg #[vm])]) (fun i => (.agg #[i.1])) (fun i => [tabI 25 3 i.1 i.2 (F_laws_toMetric m)]) en_17 ⟨(ev_t rfl), trivial⟩ rfl (fun w hw => laws_toMetric_ok w vm um m ((rii_arg hm) w hw) (by first | assumption | omega | grind) (by first | assumption | omega | grind)) (fun r5_1 => ?_)
    refine TL.op (yq (y_move (ev_t rfl))) rfl rfl rfl ?_
    refine TL.op (yq (y_move (ev_t rfl))) rfl rfl rfl ?_
    refine TL.callr (ι := Value) (vs := [(.agg #[r5_1.1]), (.int .i64 x), (.int .i64 y)]) (fun i => (.tuple #[i, (.bool ((F_spec_ShortestWay (F_laws_toMetric m) x y).2))])) (fun i => [rowI 3 i ((F_spec_ShortestWay (F_laws_toMetric m) x y).1)]) en_24 ⟨(ev_t rfl), (ev_t rfl), (ev_t rfl), trivial⟩ rfl (fun w hw => spec_ShortestWay_ok w r5_1.1 r5_1.2 (F_laws_toMetric m) ((rii_tab 0 rfl) w hw) x y) (fun r5_4 => ?_)
    refine TL.op (yq (y_move (ev_t rfl))) rfl rfl rfl ?_
    refine TL.op (yq (y_extract (ev_t rfl) rfl)) rfl rfl rfl ?_
    refine TL.op (yq (y_extract (ev_t rfl) rfl)) rfl rfl rfl ?_
    refine TL.op (yq (y_assign (ev_t rfl))) rfl rfl rfl ?_
    refine TL.op (yq (y_assign (ev_t rfl))) rfl rfl rfl ?_
    refine TL.nil ?_
    refine TN.seq ?_
    refine TC.seq ?_
    refine TC.region ?_
    refine TL.op (yq (y_ldagg (cs := [vm]) 2 (ev_t rfl) agg_24 rfl)) rfl rfl rfl ?_
    refine TL.callr (ι := Value × List Value) (vs := [(.agg #[vm])]) (fun i => (.agg #[i.1])) (fun i => [tabI 25 3 i.1 i.2 (F_laws_toMetric m)]) en_17 ⟨(ev_t rfl), trivial⟩ rfl (fun w hw => laws_toMetric_ok w vm um m ((rii_arg hm) w hw) (by first | assumption | omega | grind) (by first | assumption | omega | grind)) (fun r6_1 => ?_)
    refine TL.alloc (u := (.agg #[(.slice none 0 0)])) (by kernel_rfl) rfl (fun g6_2 => ?_)
    refine TL.storeAgg (cs := [(.slice none 0 0)]) (us := [r6_1.1]) 0 (ev_t rfl) (ev_t rfl) agg_29 rfl rfl (fun w hw => (ocs_cons (ln_one ((fun w hw => ((rii_tab 1 rfl) w hw).1) w hw).ln) ocs_nil)) ?_
    refine TL.nil ?_
    refine TN.seq ?_
    refine TC.seq ?_
    refine TC.region ?_
    refine TL.op (yq (y_ldagg (cs := [r6_1.1]) 0 (ev_t rfl) agg_29 rfl)) rfl rfl rfl ?_
    refine TL.op (yq (y_move (ev_t rfl))) rfl rfl rfl ?_
    refine TL.op (yq (y_move (ev_t rfl))) rfl rfl rfl ?_
    refine TL.callr (ι := Value) (vs := [(.agg #[r6_1.1]), (.int .i64 x), (.int .i64 y)]) (fun i => (.tuple #[i, (.bool ((F_impl_ShortestWay (F_laws_toMetric m) x y).2))])) (fun i => [rowI 3 i ((F_impl_ShortestWay (F_laws_toMetric m) x y).1)]) en_25 ⟨(ev_t rfl), (ev_t rfl), (ev_t rfl), trivial⟩ rfl (fun w hw => impl_ShortestWay_ok w r6_1.1 r6_1.2 (F_laws_toMetric m) ((rii_tab 1 rfl) w hw) x y) (fun r7_3 => ?_)
    refine TL.op (yq (y_move (ev_t rfl))) rfl rfl rfl ?_
    refine TL.op (yq (y_extract (ev_t rfl) rfl)) rfl rfl rfl ?_
    refine TL.op (yq (y_extract (ev_t rfl) rfl)) rfl rfl rfl ?_
    refine TL.op (yq (y_assign (ev_t rfl))) rfl rfl rfl ?_
    refine TL.op (yq (y_assign (ev_t rfl))) rfl rfl rfl ?_
    refine TL.nil ?_
    refine TN.seq ?_
    refine TC.seq ?_
    refine TC.seq ?_
    refine TC.region ?_
    refine TL.op (yq (y_move (ev_t rfl))) rfl rfl rfl ?_
    refine TL.op (yq (y_move (ev_t rfl))) rfl rfl rfl ?_
    refine TL.op (y_call (vs := [r7_3, r5_4]) (v := (.bool (F_laws_eqIntS ((F_impl_ShortestWay (F_laws_toMetric m) x y).1) ((F_spec_ShortestWay (F_laws_toMetric m) x y).1)))) en_21 ⟨(ev_t rfl), (ev_t rfl), trivial⟩ (fun w hw => laws_eqIntS_ok w r7_3 ((F_impl_ShortestWay (F_laws_toMetric m) x y).1) ((ri_row 0 rfl) w hw) r5_4 ((F_spec_ShortestWay (F_laws_toMetric m) x y).1) ((ri_row 3 rfl) w hw))) rfl rfl rfl ?_
    refine TL.op (yq (y_not (ev_t rfl))) rfl rfl rfl ?_
    refine TL.op (yq (y_move (ev_t rfl))) rfl rfl rfl ?_
    refine TL.opw (w_f rfl rfl rfl) (fun hg => yq (y_move (ev_t rfl))) rfl rfl ?_
    refine TL.opw (w_f rfl rfl rfl) (fun hg => yq (y_move (ev_t rfl))) rfl rfl ?_
    refine TL.opw (w_f rfl rfl rfl) (fun hg => yq (y_bneq (ev_g rfl hg) (ev_g rfl hg) Try.underlying4)) rfl rfl ?_
    refine TL.op (yq (y_or (ev_t rfl) (fun hq => (ev_g rfl hq)))) rfl rfl rfl ?_
    refine TL.nil ?_
    refine TN.seq ?_
    refine TC.cond (b := ((!(F_laws_eqIntS ((F_impl_ShortestWay (F_laws_toMetric m) x y).1) ((F_spec_ShortestWay (F_laws_toMetric m) x y).1))) || (((F_impl_ShortestWay (F_laws_toMetric m) x y).2) != ((F_spec_ShortestWay (F_laws_toMetric m) x y).2)))) (ev_t rfl) (fun h21 => ?_) (fun h21 => ?_)
    · rw [bif_pos h21] at hF
      have q22 := ((or_t h21).imp (fun h => (not_t h)) (fun h => h))
      refine TC.seq ?_
      refine TC.region ?_
      refine TL.op (yq (y_assign ev_c)) rfl rfl rfl ?_
      refine TL.nil ?_
      refine TN.seq ?_
      refine TC.ret ?_
      refine TN.thenR ?_
      subst hF
      exact TN.ret1 rfl (ev_t rfl) (fun w' hw => ⟨rfl, Hp.sublist hw (List.nil_sublist _)⟩)
    · rw [bif_neg h21] at hF
      have q22 := (and_imp (or_f h21) (fun h => (not_f h)) (fun h => h))
      refine TC.skip ?_
      refine TN.seq ?_
      refine TC.seq ?_
      refine TC.seq ?_
      refine TC.regionH 5 (Hp w [rowI 3 r7_3 ((F_impl_ShortestWay (F_laws_toMetric m) x y).1), .blk g6_2 29 [r6_1.1], tabI 25 3 r6_1.1 r6_1.2 (F_laws_toMetric m), rowI 3 r5_4 ((F_spec_ShortestWay (F_laws_toMetric m) x y).1), tabI 25 3 r5_1.1 r5_1.2 (F_laws_toMetric m), .blk g0_0 24 [vm]]) rfl (by kernel_rfl) dr_hp (fun w hw => hw) ?_
      refine TH.take 0 rfl (by kernel_rfl) (y_ldagg (cs := [r6_1.1]) 1 (ev_t rfl) agg_29 rfl) rfl rfl rfl ?_
      refine TH.take 1 rfl (by kernel_rfl) (y_ldagg (cs := [vm]) 5 (ev_t rfl) agg_24 rfl) rfl rfl rfl ?_
      refine TH.loud 2 rfl (by kernel_rfl) ?_
      refine TL.callr (ι := Value × List Value) (vs := [(.agg #[vm])]) (fun i => (.agg #[i.1])) (fun i => [tabI 25 3 i.1 i.2 (F_laws_toMetric m)]) en_17 ⟨(ev_t rfl), trivial⟩ rfl (fun w hw => laws_toMetric_ok w vm um m ((rii_arg hm) w hw) (by first | assumption | omega | grind) (by first | assumption | omega | grind)) (fun r10_2 => ?_)
      refine TL.nil ?_
      refine TH.back (fun w hw => Hp.sublist hw (.cons _ (.cons_cons _ (.cons_cons _ (.cons_cons _ (.cons_cons _ (.cons_cons _ (.cons_cons _ .slnil)))))))) ?_
      refine TH.loud 3 rfl (by kernel_rfl) ?_
      refine TL.op (y_call (vs := [(.agg #[r6_1.1]), (.agg #[r10_2.1])]) (v := (.bool (F_laws_eqMetric (F_laws_toMetric m) (F_laws_toMetric m)))) en_20 ⟨(ev_t rfl), (ev_t rfl), trivial⟩ (fun w hw => laws_eqMetric_ok w r6_1.1 r6_1.2 (F_laws_toMetric m) ((rii_tab 3 rfl) w hw) r10_2.1 r10_2.2 (F_laws_toMetric m) ((rii_tab 0 rfl) w hw))) rfl rfl rfl ?_
      refine TL.nil ?_
      refine TH.back (fun w hw => Hp.sublist hw (.cons _ (.cons_cons _ (.cons_cons _ (.cons_cons _ (.cons_cons _ (.cons_cons _ (.cons_cons _ .slnil)))))))) ?_
      refine TH.take 4 rfl (by kernel_rfl) (y_not (ev_t rfl)) rfl rfl rfl ?_
      refine TH.done (by kernel_rfl) ?_
      refine TN.seq ?_
      refine TC.cond (b := !(F_laws_eqMetric (F_laws_toMetric m) (F_laws_toMetric m))) (ev_t rfl) (fun h23 => ?_) (fun h23 => ?_)
      · rw [bif_pos h23] at hF
        have q24 := (not_t h23)
        refine TC.seq ?_
        refine TC.region ?_
        refine TL.op (yq (y_assign ev_c)) rfl rfl rfl ?_
        refine TL.nil ?_
        refine TN.seq ?_
        refine TC.ret ?_
        refine TN.thenR ?_
        subst hF
        exact TN.ret1 rfl (ev_t rfl) (fun w' hw => ⟨rfl, Hp.sublist hw (List.nil_sublist _)⟩)
      · rw [bif_neg h23] at hF
        have q24 := (not_f h23)
        refine TC.skip ?_
        refine TN.seq ?_
        refine TC.seq ?_
        refine TC.region ?_
        refine TL.op (yq (y_assign ev_c)) rfl rfl rfl ?_
        refine TL.nil ?_
        refine TN.seq ?_
        refine TC.seq ?_
        refine TC.region ?_
        refine TL.op (yq (y_ldagg (cs := [r6_1.1]) 2 (ev_t rfl) agg_29 rfl)) rfl rfl rfl ?_
        refine TL.op (yq (y_move (ev_t rfl))) rfl rfl rfl ?_
        refine TL.callm (ι := Unit) 3 (vs := [(.agg #[r6_1.1]), (.int .i64 1)]) (fun _ => (.int .i64 ((F_laws_markMetric (F_laws_toMetric m) 1).1))) (fun _ => tabI 25 3 r6_1.1 r6_1.2 ((F_laws_markMetric (F_laws_toMetric m) 1).2)) en_26 ⟨(ev_t rfl), (ev_t rfl), trivial⟩ rfl rfl (fun w1 fr1 hw => laws_markMetric_ok w w1 fr1 r6_1.1 r6_1.2 (F_laws_toMetric m) hw 1 (by first | assumption | omega | grind) (by first | assumption | omega | grind)) (fun _ => ?_)
        refine TL.op (yq (y_assign (ev_t rfl))) rfl rfl rfl ?_
        refine TL.nil ?_
        refine TN.seq ?_
        refine TC.seq ?_
        refine TC.seq ?_
        refine TC.region ?_
        refine TL.op (yq (y_move (ev_t rfl))) rfl rfl rfl ?_
        refine TL.op (yq (y_lss (ev_t rfl) ev_c)) rfl rfl rfl ?_
        refine TL.op (yq (y_move (ev_t rfl))) rfl rfl rfl ?_
        refine TL.opw (w_f rfl rfl rfl) (fun hg => yq (y_move (ev_t rfl))) rfl rfl ?_
        refine TL.opw (w_f rfl rfl rfl) (fun hg => yq (y_move (ev_t rfl))) rfl rfl ?_
        refine TL.opw (w_f rfl rfl rfl) (fun hg => y_call (vs := [r7_3, r5_4]) (v := (.bool (F_laws_eqIntS ((F_impl_ShortestWay (F_laws_toMetric m) x y).1) ((F_spec_ShortestWay (F_laws_toMetric m) x y).1)))) en_21 ⟨(ev_g rfl hg), (ev_g rfl hg), trivial⟩ (fun w hw => laws_eqIntS_ok w r7_3 ((F_impl_ShortestWay (F_laws_toMetric m) x y).1) ((ri_row 1 rfl) w hw) r5_4 ((F_spec_ShortestWay (F_laws_toMetric m) x y).1) ((ri_row 4 rfl) w hw))) rfl rfl ?_
        refine TL.opw (w_f rfl rfl rfl) (fun hg => yq (y_not (ev_g rfl hg))) rfl rfl ?_
        refine TL.op (yq (y_or (ev_t rfl) (fun hq => (ev_g rfl hq)))) rfl rfl rfl ?_
        refine TL.op (yq (y_move (ev_t rfl))) rfl rfl rfl ?_
        refine TL.opw (w_f rfl rfl rfl) (fun hg => yq (y_move (ev_t rfl))) rfl rfl ?_
        refine TL.opw (w_f rfl rfl rfl) (fun hg => yq (y_move (ev_t rfl))) rfl rfl ?_
        refine TL.opw (w_f rfl rfl rfl) (fun hg => yq (y_bneq (ev_g rfl hg) (ev_g rfl hg) Try.underlying4)) rfl rfl ?_
        refine TL.op (yq (y_or (ev_t rfl) (fun hq => (ev_g rfl hq)))) rfl rfl rfl ?_
        refine TL.nil ?_
        refine TN.seq ?_
        refine TC.cond (b := (((decide ((F_laws_markMetric (F_laws_toMetric m) 1).1 < 0)) || (!(F_laws_eqIntS ((F_impl_ShortestWay (F_laws_toMetric m) x y).1) ((F_spec_ShortestWay (F_laws_toMetric m) x y).1)))) || (((F_impl_ShortestWay (F_laws_toMetric m) x y).2) != ((F_spec_ShortestWay (F_laws_toMetric m) x y).2)))) (ev_t rfl) (fun h25 => ?_) (fun h25 => ?_)
        · rw [bif_pos h25] at hF
          have q26 := ((or_t h25).imp (fun h => ((or_t h).imp (fun h => (of_decide_eq_true h)) (fun h => (not_t h)))) (fun h => h))
          refine TC.seq ?_
          refine TC.region ?_
          refine TL.op (yq (y_assign ev_c)) rfl rfl rfl ?_
          refine TL.nil ?_
          refine TN.seq ?_
          refine TC.ret ?_
          refine TN.thenR ?_
          subst hF
          exact TN.ret1 rfl (ev_t rfl) (fun w' hw => ⟨rfl, Hp.sublist hw (List.nil_sublist _)⟩)
        · rw [bif_neg h25] at hF
          have q26 := (and_imp (or_f h25) (fun h => (and_imp (or_f h) (fun h => (of_decide_eq_false h)) (fun h => (not_f h)))) (fun h => h))
          refine TC.skip ?_
          refine TN.seq ?_
          refine TC.seq ?_
          refine TC.region ?_
          refine TL.op (yq (y_assign ev_c)) rfl rfl rfl ?_
          refine TL.nil ?_
          refine TN.seq ?_
          refine TC.seq ?_
          refine TC.region ?_
          refine TL.op (yq (y_move (ev_t rfl))) rfl rfl rfl ?_
          refine TL.op (yq (y_move (ev_t rfl))) rfl rfl rfl ?_
          refine TL.callm (ι := Unit) 1 (vs := [r7_3, (.int .i64 1)]) (fun _ => (.int .i64 ((F_laws_markIntS ((F_impl_ShortestWay (F_laws_toMetric m) x y).1) 1).1))) (fun _ => rowI 3 r7_3 ((F_laws_markIntS ((F_impl_ShortestWay (F_laws_toMetric m) x y).1) 1).2)) en_27 ⟨(ev_t rfl), (ev_t rfl), trivial⟩ rfl rfl (fun w1 fr1 hw => laws_markIntS_ok w w1 fr1 r7_3 ((F_impl_ShortestWay (F_laws_toMetric m) x y).1) hw 1 (by first | assumption | omega | grind) (by first | assumption | omega | grind)) (fun _ => ?_)
          refine TL.op (yq (y_assign (ev_t rfl))) rfl rfl rfl ?_
          refine TL.nil ?_
          refine TN.seq ?_
          refine TC.seq ?_
          refine TC.region ?_
          refine TL.op (yq (y_assign ev_c)) rfl rfl rfl ?_
          refine TL.nil ?_
          refine TN.seq ?_
          refine TC.seq ?_
          refine TC.region ?_
          refine TL.op (yq (y_move (ev_t rfl))) rfl rfl rfl ?_
          refine TL.op (yq (y_move (ev_t rfl))) rfl rfl rfl ?_
          refine TL.op (y_call (vs := [r7_3, (.int .i64 1)]) (v := (.int .i64 (F_laws_heldIntS ((F_laws_markIntS ((F_impl_ShortestWay (F_laws_toMetric m) x y).1) 1).2) 1))) en_28 ⟨(ev_t rfl), (ev_t rfl), trivial⟩ (fun w hw => laws_heldIntS_ok w r7_3 ((F_laws_markIntS ((F_impl_ShortestWay (F_laws_toMetric m) x y).1) 1).2) ((ri_row 1 rfl) w hw) 1 (by first | assumption | omega | grind) (by first | assumption | omega | grind))) rfl rfl rfl ?_
          refine TL.op (yq (y_assign (ev_t rfl))) rfl rfl rfl ?_
          refine TL.nil ?_
          refine TN.seq ?_
          refine TC.seq ?_
          refine TC.seq ?_
          refine TC.region ?_
          refine TL.op (yq (y_move (ev_t rfl))) rfl rfl rfl ?_
          refine TL.op (yq (y_lss (ev_t rfl) ev_c)) rfl rfl rfl ?_
          refine TL.nil ?_
          refine TN.seq ?_
          refine TC.cond (b := decide ((F_laws_heldIntS ((F_laws_markIntS ((F_impl_ShortestWay (F_laws_toMetric m) x y).1) 1).2) 1) < 0)) (ev_t rfl) (fun h27 => ?_) (fun h27 => ?_)
          · rw [bif_pos h27] at hF
            have q28 := (of_decide_eq_true h27)
            refine TC.seq ?_
            refine TC.region ?_
            refine TL.op (yq (y_assign ev_c)) rfl rfl rfl ?_
            refine TL.nil ?_
            refine TN.seq ?_
            refine TC.ret ?_
            refine TN.thenR ?_
            subst hF
            exact TN.ret1 rfl (ev_t rfl) (fun w' hw => ⟨rfl, Hp.sublist hw (List.nil_sublist _)⟩)
          · rw [bif_neg h27] at hF
            have q28 := (of_decide_eq_false h27)
            refine TC.skip ?_
            refine TN.seq ?_
            refine TC.seq ?_
            refine TC.seq ?_
            refine TC.region ?_
            refine TL.op (yq (y_move (ev_t rfl))) rfl rfl rfl ?_
            refine TL.op (yq (y_move (ev_t rfl))) rfl rfl rfl ?_
            refine TL.op (yq (y_neq (ev_t rfl) (ev_t rfl))) rfl rfl rfl ?_
            refine TL.nil ?_
            refine TN.seq ?_
            refine TC.cond (b := !decide ((F_laws_heldIntS ((F_laws_markIntS ((F_impl_ShortestWay (F_laws_toMetric m) x y).1) 1).2) 1) = (F_laws_markIntS ((F_impl_ShortestWay (F_laws_toMetric m) x y).1) 1).1)) (ev_t rfl) (fun h29 => ?_) (fun h29 => ?_)
            · rw [bif_pos h29] at hF
              have q30 := (of_decide_eq_false (not_t h29))
              refine TC.seq ?_
              refine TC.region ?_
              refine TL.op (yq (y_assign ev_c)) rfl rfl rfl ?_
              refine TL.nil ?_
              refine TN.seq ?_
              refine TC.ret ?_
              refine TN.thenR ?_
              subst hF
              exact TN.ret1 rfl (ev_t rfl) (fun w' hw => ⟨rfl, Hp.sublist hw (List.nil_sublist _)⟩)
            · rw [bif_neg h29] at hF
              have q30 := (of_decide_eq_true (not_f h29))
              refine TC.skip ?_
              refine TN.seq ?_
              refine TC.seq ?_
              refine TC.region ?_
              refine TL.op (yq (y_ldagg (cs := [vm]) 6 (ev_t rfl) agg_24 rfl)) rfl rfl rfl ?_
              refine TL.callr (ι := Value × List Value) (vs := [(.agg #[vm])]) (fun i => (.agg #[i.1])) (fun i => [tabI 25 3 i.1 i.2 (F_laws_toMetric m)]) en_17 ⟨(ev_t rfl), trivial⟩ rfl (fun w hw => laws_toMetric_ok w vm um m ((rii_arg hm) w hw) (by first | assumption | omega | grind) (by first | assumption | omega | grind)) (fun r24_1 => ?_)
              refine TL.op (yq (y_move (ev_t rfl))) rfl rfl rfl ?_
              refine TL.op (yq (y_move (ev_t rfl))) rfl rfl rfl ?_
              refine TL.callr (ι := Value) (vs := [(.agg #[r24_1.1]), (.int .i64 x), (.int .i64 y)]) (fun i => (.tuple #[i, (.bool ((F_impl_ShortestWay (F_laws_toMetric m) x y).2))])) (fun i => [rowI 3 i ((F_impl_ShortestWay (F_laws_toMetric m) x y).1)]) en_25 ⟨(ev_t rfl), (ev_t rfl), (ev_t rfl), trivial⟩ rfl (fun w hw => impl_ShortestWay_ok w r24_1.1 r24_1.2 (F_laws_toMetric m) ((rii_tab 0 rfl) w hw) x y) (fun r24_4 => ?_)
              refine TL.op (yq (y_move (ev_t rfl))) rfl rfl rfl ?_
              refine TL.op (yq (y_extract (ev_t rfl) rfl)) rfl rfl rfl ?_
              refine TL.op (yq (y_extract (ev_t rfl) rfl)) rfl rfl rfl ?_
              refine TL.op (yq (y_assign (ev_t rfl))) rfl rfl rfl ?_
              refine TL.op (yq (y_assign (ev_t rfl))) rfl rfl rfl ?_
              refine TL.nil ?_
              refine TN.seq ?_
              refine TC.seq ?_
              refine TC.seq ?_
              refine TC.region ?_
              refine TL.op (yq (y_move (ev_t rfl))) rfl rfl rfl ?_
              refine TL.op (yq (y_move (ev_t rfl))) rfl rfl rfl ?_
              refine TL.op (y_call (vs := [r24_4, r5_4]) (v := (.bool (F_laws_eqIntS ((F_impl_ShortestWay (F_laws_toMetric m) x y).1) ((F_spec_ShortestWay (F_laws_toMetric m) x y).1)))) en_21 ⟨(ev_t rfl), (ev_t rfl), trivial⟩ (fun w hw => laws_eqIntS_ok w r24_4 ((F_impl_ShortestWay (F_laws_toMetric m) x y).1) ((ri_row 0 rfl) w hw) r5_4 ((F_spec_ShortestWay (F_laws_toMetric m) x y).1) ((ri_row 6 rfl) w hw))) rfl rfl rfl ?_
              refine TL.op (yq (y_not (ev_t rfl))) rfl rfl rfl ?_
              refine TL.op (yq (y_move (ev_t rfl))) rfl rfl rfl ?_
              refine TL.opw (w_f rfl rfl rfl) (fun hg => yq (y_move (ev_t rfl))) rfl rfl ?_
              refine TL.opw (w_f rfl rfl rfl) (fun hg => yq (y_move (ev_t rfl))) rfl rfl ?_
              refine TL.opw (w_f rfl rfl rfl) (fun hg => yq (y_bneq (ev_g rfl hg) (ev_g rfl hg) Try.underlying4)) rfl rfl ?_
              refine TL.op (yq (y_or (ev_t rfl) (fun hq => (ev_g rfl hq)))) rfl rfl rfl ?_
              refine TL.nil ?_
              refine TN.seq ?_
              refine TC.condF (ev_t rfl) h21 ?_
              refine TC.skip ?_
              refine TN.seq ?_
              refine TC.seq ?_
              refine TC.region ?_
              refine TL.op (yq (y_assign ev_c)) rfl rfl rfl ?_
              refine TL.nil ?_
              refine TN.seq ?_
              refine TC.seq ?_
              refine TC.region ?_
              refine TL.op (yq (y_move (ev_t rfl))) rfl rfl rfl ?_
              refine TL.op (yq (y_move (ev_t rfl))) rfl rfl rfl ?_
              refine TL.op (y_call (vs := [r7_3, (.int .i64 1)]) (v := (.int .i64 (F_laws_heldIntS ((F_laws_markIntS ((F_impl_ShortestWay (F_laws_toMetric m) x y).1) 1).2) 1))) en_28 ⟨(ev_t rfl), (ev_t rfl), trivial⟩ (fun w hw => laws_heldIntS_ok w r7_3 ((F_laws_markIntS ((F_impl_ShortestWay (F_laws_toMetric m) x y).1) 1).2) ((ri_row 3 rfl) w hw) 1 (by first | assumption | omega | grind) (by first | assumption | omega | grind))) rfl rfl rfl ?_
              refine TL.op (yq (y_assign (ev_t rfl))) rfl rfl rfl ?_
              refine TL.nil ?_
              refine TN.seq ?_
              refine TC.seq ?_
              refine TC.seq ?_
              refine TC.region ?_
              refine TL.op (yq (y_move (ev_t rfl))) rfl rfl rfl ?_
              refine TL.op (yq (y_lss (ev_t rfl) ev_c)) rfl rfl rfl ?_
              refine TL.nil ?_
              refine TN.seq ?_
              refine TC.condF (ev_t rfl) h27 ?_
              refine TC.skip ?_
              refine TN.seq ?_
              refine TC.seq ?_
              refine TC.seq ?_
              refine TC.region ?_
              refine TL.op (yq (y_move (ev_t rfl))) rfl rfl rfl ?_
              refine TL.op (yq (y_move (ev_t rfl))) rfl rfl rfl ?_
              refine TL.op (yq (y_neq (ev_t rfl) (ev_t rfl))) rfl rfl rfl ?_
              refine TL.nil ?_
              refine TN.seq ?_
              refine TC.condF (ev_t rfl) h29 ?_
              refine TC.skip ?_
              refine TN.seq ?_
              refine TC.seq ?_
              refine TC.region ?_
              refine TL.op (yq (y_assign ev_c)) rfl rfl rfl ?_
              refine TL.nil ?_
              refine TN.seq ?_
              refine TC.ret ?_
              subst hF
              exact TN.ret1 rfl (ev_t rfl) (fun w' hw => ⟨rfl, Hp.sublist hw (List.nil_sublist _)⟩)


end Go.Proofs.Ytcfjjnajeccbhaa
