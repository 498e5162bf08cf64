/-
  Walks of functions of the program: each computes its plain function. No condition but the bounds that are typed.
-/
import Derived.Test.YtfhhfhiooehlcaaT1
namespace Go.Proofs.Ytfhhfhiooehlcaa
open Go Go.RowKit
set_option linter.unusedVariables false

set_option maxRecDepth 4000 in
set_option maxHeartbeats 1000000 in
theorem impl_Metric_closed_ok (w : World) (vm : Value) (um : List Value) (m : List (List Int)) (hm : RII w vm um m) (hp0 : Tab m) :
    Calls Try.prog 61 ([(.agg #[vm])] : List Value).toArray w (fun e w' => ∃ i : Value × List Value, e = .returned i.1 ∧ Hp w [tabI 34 3 i.1 i.2 (F_impl_Metric_closed m)] w') := by
  obtain ⟨rz, hF⟩ : ∃ rz, (F_impl_Metric_closed m) = rz := ⟨_, rfl⟩
  rw [hF]
  unfold F_impl_Metric_closed at hF
  have hn6 := hp0.n6
  have hlen_m := argT_len hm
  refine calls_tc Try.func61 rfl rfl rfl ?_
  change TC _ _ _ _ (Hp w []) [(0, (.agg #[vm]))]
  refine TC.seq ?_
  refine TC.region ?_
  refine TL.box (ev_t rfl) rfl (fun g0_0 => ?_)
  refine TL.op (yq (y_assign ev_c)) rfl rfl rfl ?_
  refine TL.nil ?_
  refine TN.seq ?_
  refine TC.seq ?_
  refine TC.region ?_
  refine TL.buildSlice (zs := []) (vs := []) slT_43 rfl trivial (by simp) rfl (by decide) rfl (fun v1_0 => ?_)
  refine TL.cls (fun w hw => hw.emptyTab 3) ?_
  refine TL.op (yq (y_assign (ev_t rfl))) rfl rfl rfl ?_
  refine TL.nil ?_
  refine TN.seq ?_
  refine TC.seq ?_
  refine TC.seq ?_
  refine TC.region ?_
  refine TL.op (yq (y_fa (fa_45_0 g0_0) (ev_t rfl))) rfl rfl rfl ?_
  refine TL.op (yq (y_ldb 1 (ev_t rfl) one_43 rfl rfl)) rfl rfl rfl ?_
  refine TL.op (yq (y_len (ev_t rfl) Try.underlying43 (fun w hw => ((fun w hw => ((rii_arg hm) w hw).1) w hw).ln))) rfl rfl rfl ?_
  refine TL.op (yq (y_move ev_c)) rfl rfl rfl ?_
  refine TL.nil ?_
  refine TN.seq ?_
  refine TC.block ?_
  obtain ⟨c110, hc111⟩ : ∃ c, F_impl_Metric_closed_L1 m ((m.length - 0) + 1) (([]), 0) = c := ⟨_, rfl⟩
  rw [hc111] at hF
  refine TC.loop (ι := Nat × List (List Int) × Nat × Value × List Value) (fun (fu1, k3_1, k16_1, vk3_1, uk3_1) => [(3, vk3_1), (14, vm), (15, (.int .i64 (m.length : Int))), (16, (.int .i64 (k16_1 : Int)))]) (fun (fu1, k3_1, k16_1, vk3_1, uk3_1) => Hp w [tabI 34 3 vk3_1 uk3_1 k3_1]) (fun (fu1, k3_1, k16_1, vk3_1, uk3_1) => (k16_1 ≤ m.length) ∧ (k3_1.length = k16_1) ∧ (∀ r ∈ k3_1, r.length = m.length ∧ ∀ v ∈ r, 0 ≤ v ∧ v ≤ 1073741824) ∧ m.length - k16_1 < fu1 ∧ F_impl_Metric_closed_L1 m fu1 (k3_1, k16_1) = c110) (fun (fu1, k3_1, k16_1, vk3_1, uk3_1) => fu1) ((m.length - 0) + 1, [], 0, v1_0, []) ⟨(by first | omega | (simp [-List.getD_eq_getElem?_getD] <;> omega)), (by first | omega | (simp [-List.getD_eq_getElem?_getD] <;> omega)), (fun r hr => by cases hr), (by omega), hc111⟩ ⟨rfl, rfl, rfl, rfl, trivial⟩ (fun w hw => Hp.sublist hw (.cons_cons _ (.cons _ .slnil))) ?_
  rintro ⟨fu1, k3_1, k16_1, vk3_1, uk3_1⟩ hJ1
  obtain ⟨hi1_0, hi1_1, hi1_2, hmu1, hL1⟩ : (k16_1 ≤ m.length) ∧ (k3_1.length = k16_1) ∧ (∀ r ∈ k3_1, r.length = m.length ∧ ∀ v ∈ r, 0 ≤ v ∧ v ≤ 1073741824) ∧ m.length - k16_1 < fu1 ∧ F_impl_Metric_closed_L1 m fu1 (k3_1, k16_1) = c110 := hJ1
  change TC _ _ _ _ (Hp w [tabI 34 3 vk3_1 uk3_1 k3_1]) [(3, vk3_1), (14, vm), (15, (.int .i64 (m.length : Int))), (16, (.int .i64 (k16_1 : Int)))]
  obtain ⟨mf1, rfl⟩ : ∃ m, fu1 = m + 1 := ⟨fu1 - 1, by omega⟩
  rw [F_impl_Metric_closed_L1_s] at hL1
  have hrw := hp0.rows k16_1
  refine TC.seq ?_
  refine TC.region ?_
  refine TL.op (yq (y_lss (ev_t rfl) (ev_t rfl))) rfl rfl rfl ?_
  refine TL.nil ?_
  refine TN.seq ?_
  refine TC.seq ?_
  refine TC.cond (b := decide ((k16_1 : Int) < (m.length : Int))) (ev_t rfl) (fun h112 => ?_) (fun h112 => ?_)
  · rw [bif_pos h112] at hL1
    have q113 := (of_decide_eq_true h112)
    refine TC.skip ?_
    refine TN.seq ?_
    refine TC.seq ?_
    refine TC.block ?_
    refine TC.seq ?_
    refine TC.region ?_
    have hb114 : k16_1 < m.length := (by first | omega | (simp only [List.length_set, List.length_append, List.length_cons, List.length_nil, List.length_replicate]; omega) | (rw [sortI_length]; simp only [List.length_cons, List.length_nil]; omega))
    refine TL.op (yq (y_idx (k := k16_1) (ev_t rfl) (ev_t rfl) (by first | omega | simp) slT_43 (fun w hw => ((rii_arg hm) w hw).1) hb114)) rfl rfl rfl ?_
    have ha115 := hm.row (i := k16_1) hb114
    refine TL.op (yq (y_ldA (ev_t rfl) one_34 (rii_arg hm) hb114)) rfl rfl rfl ?_
    refine TL.op (yq (y_assign (ev_t rfl))) rfl rfl rfl ?_
    refine TL.nil ?_
    refine TN.seq ?_
    refine TC.seq ?_
    refine TC.region ?_
    refine TL.buildI (zs := []) (qs := []) slT_34 rfl trivial rfl (by decide) rfl (fun v5_0 => ?_)
    refine TL.op (yq (y_assign (ev_t rfl))) rfl rfl rfl ?_
    refine TL.nil ?_
    refine TN.seq ?_
    refine TC.seq ?_
    refine TC.seq ?_
    refine TC.region ?_
    refine TL.op (yq (y_move (ev_t rfl))) rfl rfl rfl ?_
    refine TL.op (yq (y_len (ev_t rfl) Try.underlying34 (fun w hw => ((ri_arg ha115) w hw).ln))) rfl rfl rfl ?_
    refine TL.op (yq (y_move ev_c)) rfl rfl rfl ?_
    refine TL.nil ?_
    refine TN.seq ?_
    refine TC.block ?_
    obtain ⟨c116, hc117⟩ : ∃ c, F_impl_Metric_closed_L2 m k16_1 ((((m.getD k16_1 []).length) - 0) + 1) (([] : List Int), 0) = c := ⟨_, rfl⟩
    rw [hc117] at hL1
    refine TC.loop (ι := Nat × List Int × Nat × Value) (fun (fu2, k6_2, k23_2, vk6_2) => [(3, vk3_1), (6, vk6_2), (14, vm), (15, (.int .i64 (m.length : Int))), (16, (.int .i64 (k16_1 : Int))), (21, (um.getD k16_1 undef)), (22, (.int .i64 ((m.getD k16_1 []).length : Int))), (23, (.int .i64 (k23_2 : Int)))]) (fun (fu2, k6_2, k23_2, vk6_2) => Hp w [rowI 3 vk6_2 k6_2, tabI 34 3 vk3_1 uk3_1 k3_1]) (fun (fu2, k6_2, k23_2, vk6_2) => (k23_2 ≤ ((m.getD k16_1 []).length)) ∧ (k6_2.length = k23_2) ∧ (∀ v ∈ k6_2, 0 ≤ v ∧ v ≤ 1073741824) ∧ ((m.getD k16_1 []).length) - k23_2 < fu2 ∧ F_impl_Metric_closed_L2 m k16_1 fu2 (k6_2, k23_2) = c116) (fun (fu2, k6_2, k23_2, vk6_2) => fu2) ((((m.getD k16_1 []).length) - 0) + 1, ([] : List Int), 0, v5_0) ⟨(by first | omega | (simp [-List.getD_eq_getElem?_getD] <;> omega)), (by first | omega | (simp [-List.getD_eq_getElem?_getD] <;> omega)), (fun r hr => by cases hr), (by omega), hc117⟩ ⟨rfl, rfl, rfl, rfl, rfl, rfl, rfl, rfl, trivial⟩ (fun w hw => hw) ?_
    rintro ⟨fu2, k6_2, k23_2, vk6_2⟩ hJ2
    obtain ⟨hi2_0, hi2_1, hi2_2, hmu2, hL2⟩ : (k23_2 ≤ ((m.getD k16_1 []).length)) ∧ (k6_2.length = k23_2) ∧ (∀ v ∈ k6_2, 0 ≤ v ∧ v ≤ 1073741824) ∧ ((m.getD k16_1 []).length) - k23_2 < fu2 ∧ F_impl_Metric_closed_L2 m k16_1 fu2 (k6_2, k23_2) = c116 := hJ2
    change TC _ _ _ _ (Hp w [rowI 3 vk6_2 k6_2, tabI 34 3 vk3_1 uk3_1 k3_1]) [(3, vk3_1), (6, vk6_2), (14, vm), (15, (.int .i64 (m.length : Int))), (16, (.int .i64 (k16_1 : Int))), (21, (um.getD k16_1 undef)), (22, (.int .i64 ((m.getD k16_1 []).length : Int))), (23, (.int .i64 (k23_2 : Int)))]
    obtain ⟨mf2, rfl⟩ : ∃ m, fu2 = m + 1 := ⟨fu2 - 1, by omega⟩
    rw [F_impl_Metric_closed_L2_s] at hL2
    have hme := hp0.el k16_1 k23_2
    refine TC.seq ?_
    refine TC.region ?_
    refine TL.op (yq (y_lss (ev_t rfl) (ev_t rfl))) rfl rfl rfl ?_
    refine TL.nil ?_
    refine TN.seq ?_
    refine TC.seq ?_
    refine TC.cond (b := decide ((k23_2 : Int) < ((m.getD k16_1 []).length : Int))) (ev_t rfl) (fun h118 => ?_) (fun h118 => ?_)
    · rw [bif_pos h118] at hL2
      have q119 := (of_decide_eq_true h118)
      refine TC.skip ?_
      refine TN.seq ?_
      refine TC.seq ?_
      refine TC.block ?_
      refine TC.seq ?_
      refine TC.region ?_
      have hb120 : k23_2 < (m.getD k16_1 []).length := (by first | omega | (simp only [List.length_set, List.length_append, List.length_cons, List.length_nil, List.length_replicate]; omega) | (rw [sortI_length]; simp only [List.length_cons, List.length_nil]; omega))
      refine TL.op (yq (y_idx (k := k23_2) (ev_t rfl) (ev_t rfl) (by first | omega | simp) slT_34 (ri_arg ha115) hb120)) rfl rfl rfl ?_
      refine TL.op (yq (y_ldi (ev_t rfl) one_3 (ri_arg ha115) hb120)) rfl rfl rfl ?_
      refine TL.op (yq (y_assign (ev_t rfl))) rfl rfl rfl ?_
      refine TL.nil ?_
      refine TN.seq ?_
      refine TC.seq ?_
      refine TC.seq ?_
      refine TC.region ?_
      refine TL.op (yq (y_move (ev_t rfl))) rfl rfl rfl ?_
      refine TL.op (yq (y_lss (ev_t rfl) ev_c)) rfl rfl rfl ?_
      refine TL.nil ?_
      refine TN.seq ?_
      refine TC.cond (b := decide (((m.getD k16_1 []).getD k23_2 0) < 0)) (ev_t rfl) (fun h121 => ?_) (fun h121 => ?_)
      · rw [bif_pos h121] at hL2
        have q122 := (of_decide_eq_true h121)
        refine TC.region ?_
        refine TL.op (yq (y_assign ev_c)) rfl rfl rfl ?_
        refine TL.nil ?_
        refine TN.seq ?_
        refine TC.region ?_
        refine TL.op (yq (y_move (ev_t rfl))) rfl rfl rfl ?_
        refine TL.op (yq (y_move (ev_t rfl))) rfl rfl rfl ?_
        refine TL.buildI (zs := [.tmp 30]) (qs := [1073741824]) slT_34 rfl ⟨(ev_t rfl), trivial⟩ rfl (by decide) rfl (fun v11_2 => ?_)
        refine TL.appendI 1 (ev_t rfl) (ev_t rfl) rfl slT_34 (ri_row 0 rfl) (by first | omega | (simp [-List.getD_eq_getElem?_getD] <;> omega)) rfl (fun v11_3 => ?_)
        refine TL.op (yq (y_assign (ev_t rfl))) rfl rfl rfl ?_
        refine TL.nil ?_
        refine TN.blockN ?_
        refine TN.seq ?_
        refine TC.region ?_
        refine TL.op (yq (y_add (ev_t rfl) ev_c (by unfold In64; omega))) rfl rfl rfl ?_
        refine TL.op (yq (y_move (ev_t rfl))) rfl rfl rfl ?_
        refine TL.nil ?_
        exact TN.hand (mf2, (k6_2 ++ ([1073741824])), (k23_2 + 1), v11_3) ⟨(by first | omega | (simp [-List.getD_eq_getElem?_getD] <;> omega)), (by first | omega | (simp [-List.getD_eq_getElem?_getD] <;> omega)), (push_all hi2_2 (by omega)), (by omega), hL2⟩ (Nat.lt_succ_self _) ⟨rfl, rfl, rfl, rfl, rfl, rfl, rfl, rfl, trivial⟩ (fun w hw => Hp.sublist hw (.cons _ (.cons_cons _ (.cons_cons _ .slnil))))
      · rw [bif_neg h121] at hL2
        have q122 := (of_decide_eq_false h121)
        refine TC.skip ?_
        refine TN.seq ?_
        refine TC.region ?_
        refine TL.op (yq (y_move (ev_t rfl))) rfl rfl rfl ?_
        refine TL.op (yq (y_move (ev_t rfl))) rfl rfl rfl ?_
        refine TL.buildI (zs := [.tmp 30]) (qs := [((m.getD k16_1 []).getD k23_2 0)]) slT_34 rfl ⟨(ev_t rfl), trivial⟩ rfl (by decide) rfl (fun v11_2 => ?_)
        refine TL.appendI 1 (ev_t rfl) (ev_t rfl) rfl slT_34 (ri_row 0 rfl) (by first | omega | (simp [-List.getD_eq_getElem?_getD] <;> omega)) rfl (fun v11_3 => ?_)
        refine TL.op (yq (y_assign (ev_t rfl))) rfl rfl rfl ?_
        refine TL.nil ?_
        refine TN.blockN ?_
        refine TN.seq ?_
        refine TC.region ?_
        refine TL.op (yq (y_add (ev_t rfl) ev_c (by unfold In64; omega))) rfl rfl rfl ?_
        refine TL.op (yq (y_move (ev_t rfl))) rfl rfl rfl ?_
        refine TL.nil ?_
        exact TN.hand (mf2, (k6_2 ++ ([((m.getD k16_1 []).getD k23_2 0)])), (k23_2 + 1), v11_3) ⟨(by first | omega | (simp [-List.getD_eq_getElem?_getD] <;> omega)), (by first | omega | (simp [-List.getD_eq_getElem?_getD] <;> omega)), (push_all hi2_2 (by omega)), (by omega), hL2⟩ (Nat.lt_succ_self _) ⟨rfl, rfl, rfl, rfl, rfl, rfl, rfl, rfl, trivial⟩ (fun w hw => Hp.sublist hw (.cons _ (.cons_cons _ (.cons_cons _ .slnil))))
    · rw [bif_neg h118] at hL2
      have q119 := (of_decide_eq_false h118)
      refine TC.exit ?_
      refine TN.thenE ?_
      refine TN.thenE ?_
      rw [← hL2, elim_next] at hL1
      try dsimp only at hL1
      refine TN.blockH ?_
      refine TN.seq ?_
      refine TC.region ?_
      refine TL.op (yq (y_move (ev_t rfl))) rfl rfl rfl ?_
      refine TL.op (yq (y_move (ev_t rfl))) rfl rfl rfl ?_
      refine TL.buildU slT_43 (ev_t rfl) (fun w hw => ((ri_row 0 rfl) w hw).ln) rfl (fun v13_2 => ?_)
      refine TL.appendT 2 1 rfl (ev_t rfl) (ev_t rfl) rfl rfl slT_43 (rd_row 0 rfl) (by first | omega | (simp [-List.getD_eq_getElem?_getD] <;> omega)) rfl (fun v13_3 => ?_)
      refine TL.op (yq (y_assign (ev_t rfl))) rfl rfl rfl ?_
      refine TL.nil ?_
      refine TN.blockN ?_
      refine TN.seq ?_
      refine TC.region ?_
      refine TL.op (yq (y_add (ev_t rfl) ev_c (by unfold In64; omega))) rfl rfl rfl ?_
      refine TL.op (yq (y_move (ev_t rfl))) rfl rfl rfl ?_
      refine TL.nil ?_
      exact TN.hand (mf1, (k3_1 ++ [k6_2]), (k16_1 + 1), v13_3, (uk3_1 ++ [vk6_2])) ⟨(by first | omega | (simp [-List.getD_eq_getElem?_getD] <;> omega)), (by first | omega | (simp [-List.getD_eq_getElem?_getD] <;> omega)), (push_all hi1_2 ⟨by omega, hi2_2⟩), (by omega), hL1⟩ (Nat.lt_succ_self _) ⟨rfl, rfl, rfl, rfl, trivial⟩ (fun w hw => Hp.sublist hw (.cons _ (.cons _ (.cons_cons _ .slnil))))
  · rw [bif_neg h112] at hL1
    have q113 := (of_decide_eq_false h112)
    refine TC.exit ?_
    refine TN.thenE ?_
    refine TN.thenE ?_
    rw [← hL1, elim_next] at hF
    try dsimp only at hF
    refine TN.blockH ?_
    refine TN.seq ?_
    refine TC.seq ?_
    refine TC.seq ?_
    refine TC.region ?_
    refine TL.op (yq (y_move (ev_t rfl))) rfl rfl rfl ?_
    refine TL.op (yq (y_len (ev_t rfl) Try.underlying43 (fun w hw => ((fun w hw => ((rii_tab 0 rfl) w hw).1) w hw).ln))) rfl rfl rfl ?_
    refine TL.op (yq (y_move ev_c)) rfl rfl rfl ?_
    refine TL.nil ?_
    refine TN.seq ?_
    refine TC.block ?_
    have hbd := grid_bd (n := m.length) k3_1 (by omega) (fun i hi => (hi1_2 _ (getD_mem k3_1 i [] (by omega))).1) (fun r hr => (hi1_2 r hr).2)
    obtain ⟨c123, hc124⟩ : ∃ c, F_impl_Metric_closed_L3 k3_1 ((k3_1.length - 0) + 1) (0, k3_1) = c := ⟨_, rfl⟩
    rw [hc124] at hF
    refine TC.loop (ι := Nat × Nat × List (List Int)) (fun (fu3, k41_3, m0_3) => [(3, vk3_1), (40, (.int .i64 (k3_1.length : Int))), (41, (.int .i64 (k41_3 : Int)))]) (fun (fu3, k41_3, m0_3) => Hp w [tabI 34 3 vk3_1 uk3_1 m0_3]) (fun (fu3, k41_3, m0_3) => (k41_3 ≤ k3_1.length) ∧ (Bd m.length m0_3) ∧ k3_1.length - k41_3 < fu3 ∧ F_impl_Metric_closed_L3 k3_1 fu3 (k41_3, m0_3) = c123) (fun (fu3, k41_3, m0_3) => fu3) ((k3_1.length - 0) + 1, 0, k3_1) ⟨(by first | omega | (simp [-List.getD_eq_getElem?_getD] <;> omega)), hbd, (by omega), hc124⟩ ⟨rfl, rfl, rfl, trivial⟩ (fun w hw => hw) ?_
    rintro ⟨fu3, k41_3, m0_3⟩ hJ3
    obtain ⟨hi3_0, hi3_1, hmu3, hL3⟩ : (k41_3 ≤ k3_1.length) ∧ (Bd m.length m0_3) ∧ k3_1.length - k41_3 < fu3 ∧ F_impl_Metric_closed_L3 k3_1 fu3 (k41_3, m0_3) = c123 := hJ3
    change TC _ _ _ _ (Hp w [tabI 34 3 vk3_1 uk3_1 m0_3]) [(3, vk3_1), (40, (.int .i64 (k3_1.length : Int))), (41, (.int .i64 (k41_3 : Int)))]
    obtain ⟨mf3, rfl⟩ : ∃ m, fu3 = m + 1 := ⟨fu3 - 1, by omega⟩
    rw [F_impl_Metric_closed_L3_s] at hL3
    have hsl3 := hi3_1.sq.len
    refine TC.seq ?_
    refine TC.region ?_
    refine TL.op (yq (y_lss (ev_t rfl) (ev_t rfl))) rfl rfl rfl ?_
    refine TL.nil ?_
    refine TN.seq ?_
    refine TC.seq ?_
    refine TC.cond (b := decide ((k41_3 : Int) < (k3_1.length : Int))) (ev_t rfl) (fun h125 => ?_) (fun h125 => ?_)
    · rw [bif_pos h125] at hL3
      have q126 := (of_decide_eq_true h125)
      refine TC.skip ?_
      refine TN.seq ?_
      refine TC.seq ?_
      refine TC.block ?_
      refine TC.seq ?_
      refine TC.region ?_
      refine TL.op (yq (y_move (ev_t rfl))) rfl rfl rfl ?_
      refine TL.op (yq (y_assign (ev_t rfl))) rfl rfl rfl ?_
      refine TL.nil ?_
      refine TN.seq ?_
      refine TC.seq ?_
      refine TC.region ?_
      refine TL.op (yq (y_move (ev_t rfl))) rfl rfl rfl ?_
      refine TL.op (yq (y_len (ev_t rfl) Try.underlying43 (fun w hw => ((fun w hw => ((rii_tab 0 rfl) w hw).1) w hw).ln))) rfl rfl rfl ?_
      refine TL.op (yq (y_move ev_c)) rfl rfl rfl ?_
      refine TL.nil ?_
      refine TN.seq ?_
      refine TC.block ?_
      obtain ⟨c127, hc128⟩ : ∃ c, F_impl_Metric_closed_L4 k41_3 m0_3 ((m0_3.length - 0) + 1) (0, m0_3) = c := ⟨_, rfl⟩
      rw [hc128] at hL3
      refine TC.loop (ι := Nat × Nat × List (List Int)) (fun (fu4, k46_4, m0_4) => [(3, vk3_1), (9, (.int .i64 (k41_3 : Int))), (40, (.int .i64 (k3_1.length : Int))), (41, (.int .i64 (k41_3 : Int))), (45, (.int .i64 (m0_3.length : Int))), (46, (.int .i64 (k46_4 : Int)))]) (fun (fu4, k46_4, m0_4) => Hp w [tabI 34 3 vk3_1 uk3_1 m0_4]) (fun (fu4, k46_4, m0_4) => (k46_4 ≤ m0_3.length) ∧ (Bd m.length m0_4) ∧ m0_3.length - k46_4 < fu4 ∧ F_impl_Metric_closed_L4 k41_3 m0_3 fu4 (k46_4, m0_4) = c127) (fun (fu4, k46_4, m0_4) => fu4) ((m0_3.length - 0) + 1, 0, m0_3) ⟨(by first | omega | (simp [-List.getD_eq_getElem?_getD] <;> omega)), hi3_1, (by omega), hc128⟩ ⟨rfl, rfl, rfl, rfl, rfl, rfl, trivial⟩ (fun w hw => hw) ?_
      rintro ⟨fu4, k46_4, m0_4⟩ hJ4
      obtain ⟨hi4_0, hi4_1, hmu4, hL4⟩ : (k46_4 ≤ m0_3.length) ∧ (Bd m.length m0_4) ∧ m0_3.length - k46_4 < fu4 ∧ F_impl_Metric_closed_L4 k41_3 m0_3 fu4 (k46_4, m0_4) = c127 := hJ4
      change TC _ _ _ _ (Hp w [tabI 34 3 vk3_1 uk3_1 m0_4]) [(3, vk3_1), (9, (.int .i64 (k41_3 : Int))), (40, (.int .i64 (k3_1.length : Int))), (41, (.int .i64 (k41_3 : Int))), (45, (.int .i64 (m0_3.length : Int))), (46, (.int .i64 (k46_4 : Int)))]
      obtain ⟨mf4, rfl⟩ : ∃ m, fu4 = m + 1 := ⟨fu4 - 1, by omega⟩
      rw [F_impl_Metric_closed_L4_s] at hL4
      have hsl4 := hi4_1.sq.len
      refine TC.seq ?_
      refine TC.region ?_
      refine TL.op (yq (y_lss (ev_t rfl) (ev_t rfl))) rfl rfl rfl ?_
      refine TL.nil ?_
      refine TN.seq ?_
      refine TC.seq ?_
      refine TC.cond (b := decide ((k46_4 : Int) < (m0_3.length : Int))) (ev_t rfl) (fun h129 => ?_) (fun h129 => ?_)
      · rw [bif_pos h129] at hL4
        have q130 := (of_decide_eq_true h129)
        refine TC.skip ?_
        refine TN.seq ?_
        refine TC.seq ?_
        refine TC.block ?_
        refine TC.seq ?_
        refine TC.region ?_
        refine TL.op (yq (y_move (ev_t rfl))) rfl rfl rfl ?_
        refine TL.op (yq (y_assign (ev_t rfl))) rfl rfl rfl ?_
        refine TL.nil ?_
        refine TN.seq ?_
        refine TC.seq ?_
        refine TC.region ?_
        refine TL.op (yq (y_move (ev_t rfl))) rfl rfl rfl ?_
        refine TL.op (yq (y_len (ev_t rfl) Try.underlying43 (fun w hw => ((fun w hw => ((rii_tab 0 rfl) w hw).1) w hw).ln))) rfl rfl rfl ?_
        refine TL.op (yq (y_move ev_c)) rfl rfl rfl ?_
        refine TL.nil ?_
        refine TN.seq ?_
        refine TC.block ?_
        obtain ⟨c131, hc132⟩ : ∃ c, F_impl_Metric_closed_L5 k41_3 k46_4 m0_4 ((m0_4.length - 0) + 1) (0, m0_4) = c := ⟨_, rfl⟩
        rw [hc132] at hL4
        refine TC.loop (ι := Nat × Nat × List (List Int)) (fun (fu5, k51_5, m0_5) => [(3, vk3_1), (9, (.int .i64 (k41_3 : Int))), (10, (.int .i64 (k46_4 : Int))), (40, (.int .i64 (k3_1.length : Int))), (41, (.int .i64 (k41_3 : Int))), (45, (.int .i64 (m0_3.length : Int))), (46, (.int .i64 (k46_4 : Int))), (50, (.int .i64 (m0_4.length : Int))), (51, (.int .i64 (k51_5 : Int)))]) (fun (fu5, k51_5, m0_5) => Hp w [tabI 34 3 vk3_1 uk3_1 m0_5]) (fun (fu5, k51_5, m0_5) => (k51_5 ≤ m0_4.length) ∧ (Bd m.length m0_5) ∧ m0_4.length - k51_5 < fu5 ∧ F_impl_Metric_closed_L5 k41_3 k46_4 m0_4 fu5 (k51_5, m0_5) = c131) (fun (fu5, k51_5, m0_5) => fu5) ((m0_4.length - 0) + 1, 0, m0_4) ⟨(by first | omega | (simp [-List.getD_eq_getElem?_getD] <;> omega)), hi4_1, (by omega), hc132⟩ ⟨rfl, rfl, rfl, rfl, rfl, rfl, rfl, rfl, rfl, trivial⟩ (fun w hw => hw) ?_
        rintro ⟨fu5, k51_5, m0_5⟩ hJ5
        obtain ⟨hi5_0, hi5_1, hmu5, hL5⟩ : (k51_5 ≤ m0_4.length) ∧ (Bd m.length m0_5) ∧ m0_4.length - k51_5 < fu5 ∧ F_impl_Metric_closed_L5 k41_3 k46_4 m0_4 fu5 (k51_5, m0_5) = c131 := hJ5
        change TC _ _ _ _ (Hp w [tabI 34 3 vk3_1 uk3_1 m0_5]) [(3, vk3_1), (9, (.int .i64 (k41_3 : Int))), (10, (.int .i64 (k46_4 : Int))), (40, (.int .i64 (k3_1.length : Int))), (41, (.int .i64 (k41_3 : Int))), (45, (.int .i64 (m0_3.length : Int))), (46, (.int .i64 (k46_4 : Int))), (50, (.int .i64 (m0_4.length : Int))), (51, (.int .i64 (k51_5 : Int)))]
        obtain ⟨mf5, rfl⟩ : ∃ m, fu5 = m + 1 := ⟨fu5 - 1, by omega⟩
        rw [F_impl_Metric_closed_L5_s] at hL5
        have hsl := hi5_1.sq.len
        have hr1 := hi5_1.sq.rows k46_4
        have hr2 := hi5_1.sq.rows k41_3
        have b1 := hi5_1.bd k46_4 k51_5
        have b2 := hi5_1.bd k46_4 k41_3
        have b3 := hi5_1.bd k41_3 k51_5
        refine TC.seq ?_
        refine TC.region ?_
        refine TL.op (yq (y_lss (ev_t rfl) (ev_t rfl))) rfl rfl rfl ?_
        refine TL.nil ?_
        refine TN.seq ?_
        refine TC.seq ?_
        refine TC.cond (b := decide ((k51_5 : Int) < (m0_4.length : Int))) (ev_t rfl) (fun h133 => ?_) (fun h133 => ?_)
        · rw [bif_pos h133] at hL5
          have q134 := (of_decide_eq_true h133)
          refine TC.skip ?_
          refine TN.seq ?_
          refine TC.seq ?_
          refine TC.block ?_
          refine TC.seq ?_
          refine TC.region ?_
          refine TL.op (yq (y_move (ev_t rfl))) rfl rfl rfl ?_
          refine TL.op (yq (y_assign (ev_t rfl))) rfl rfl rfl ?_
          refine TL.nil ?_
          refine TN.seq ?_
          refine TC.regionT 29 (by kernel_rfl) (by kernel_rfl) dr_hp ?_
          refine TQ.op (yq (y_move (ev_t rfl))) rfl rfl rfl ?_
          refine TQ.op (yq (y_move (ev_t rfl))) rfl rfl rfl ?_
          have hb135 : k46_4 < m0_5.length := (by first | omega | (simp only [List.length_set, List.length_append, List.length_cons, List.length_nil, List.length_replicate]; omega) | (rw [sortI_length]; simp only [List.length_cons, List.length_nil]; omega))
          refine TQ.op (yq (y_idx (k := k46_4) (ev_t rfl) (ev_t rfl) (by first | omega | simp) slT_43 (fun w hw => ((rii_tab 0 rfl) w hw).1) hb135)) rfl rfl rfl ?_
          refine TQ.op (yq (y_ldT 0 (ev_t rfl) one_34 rfl hb135)) rfl rfl rfl ?_
          refine TQ.op (yq (y_move (ev_t rfl))) rfl rfl rfl ?_
          refine TQ.op (yq (y_move (ev_t rfl))) rfl rfl rfl ?_
          refine TQ.op (yq (y_move (ev_t rfl))) rfl rfl rfl ?_
          have hb136 : k46_4 < m0_5.length := (by first | omega | (simp only [List.length_set, List.length_append, List.length_cons, List.length_nil, List.length_replicate]; omega) | (rw [sortI_length]; simp only [List.length_cons, List.length_nil]; omega))
          refine TQ.op (yq (y_idx (k := k46_4) (ev_t rfl) (ev_t rfl) (by first | omega | simp) slT_43 (fun w hw => ((rii_tab 0 rfl) w hw).1) hb136)) rfl rfl rfl ?_
          refine TQ.op (yq (y_ldT 0 (ev_t rfl) one_34 rfl hb136)) rfl rfl rfl ?_
          refine TQ.op (yq (y_move (ev_t rfl))) rfl rfl rfl ?_
          have hb137 : k51_5 < (m0_5.getD k46_4 []).length := (by first | omega | (simp only [List.length_set, List.length_append, List.length_cons, List.length_nil, List.length_replicate]; omega) | (rw [sortI_length]; simp only [List.length_cons, List.length_nil]; omega))
          refine TQ.op (yq (y_idx (k := k51_5) (ev_t rfl) (ev_t rfl) (by first | omega | simp) slT_34 (ri_tab 0 k46_4 rfl hb136) hb137)) rfl rfl rfl ?_
          refine TQ.op (yq (y_ldi (ev_t rfl) one_3 (ri_tab 0 k46_4 rfl hb136) hb137)) rfl rfl rfl ?_
          refine TQ.op (yq (y_move (ev_t rfl))) rfl rfl rfl ?_
          refine TQ.op (yq (y_move (ev_t rfl))) rfl rfl rfl ?_
          have hb138 : k46_4 < m0_5.length := (by first | omega | (simp only [List.length_set, List.length_append, List.length_cons, List.length_nil, List.length_replicate]; omega) | (rw [sortI_length]; simp only [List.length_cons, List.length_nil]; omega))
          refine TQ.op (yq (y_idx (k := k46_4) (ev_t rfl) (ev_t rfl) (by first | omega | simp) slT_43 (fun w hw => ((rii_tab 0 rfl) w hw).1) hb138)) rfl rfl rfl ?_
          refine TQ.op (yq (y_ldT 0 (ev_t rfl) one_34 rfl hb138)) rfl rfl rfl ?_
          refine TQ.op (yq (y_move (ev_t rfl))) rfl rfl rfl ?_
          have hb139 : k41_3 < (m0_5.getD k46_4 []).length := (by first | omega | (simp only [List.length_set, List.length_append, List.length_cons, List.length_nil, List.length_replicate]; omega) | (rw [sortI_length]; simp only [List.length_cons, List.length_nil]; omega))
          refine TQ.op (yq (y_idx (k := k41_3) (ev_t rfl) (ev_t rfl) (by first | omega | simp) slT_34 (ri_tab 0 k46_4 rfl hb138) hb139)) rfl rfl rfl ?_
          refine TQ.op (yq (y_ldi (ev_t rfl) one_3 (ri_tab 0 k46_4 rfl hb138) hb139)) rfl rfl rfl ?_
          refine TQ.op (yq (y_move (ev_t rfl))) rfl rfl rfl ?_
          refine TQ.op (yq (y_move (ev_t rfl))) rfl rfl rfl ?_
          have hb140 : k41_3 < m0_5.length := (by first | omega | (simp only [List.length_set, List.length_append, List.length_cons, List.length_nil, List.length_replicate]; omega) | (rw [sortI_length]; simp only [List.length_cons, List.length_nil]; omega))
          refine TQ.op (yq (y_idx (k := k41_3) (ev_t rfl) (ev_t rfl) (by first | omega | simp) slT_43 (fun w hw => ((rii_tab 0 rfl) w hw).1) hb140)) rfl rfl rfl ?_
          refine TQ.op (yq (y_ldT 0 (ev_t rfl) one_34 rfl hb140)) rfl rfl rfl ?_
          refine TQ.op (yq (y_move (ev_t rfl))) rfl rfl rfl ?_
          have hb141 : k51_5 < (m0_5.getD k41_3 []).length := (by first | omega | (simp only [List.length_set, List.length_append, List.length_cons, List.length_nil, List.length_replicate]; omega) | (rw [sortI_length]; simp only [List.length_cons, List.length_nil]; omega))
          refine TQ.op (yq (y_idx (k := k51_5) (ev_t rfl) (ev_t rfl) (by first | omega | simp) slT_34 (ri_tab 0 k41_3 rfl hb140) hb141)) rfl rfl rfl ?_
          refine TQ.op (yq (y_ldi (ev_t rfl) one_3 (ri_tab 0 k41_3 rfl hb140) hb141)) rfl rfl rfl ?_
          refine TQ.op (yq (y_add (ev_t rfl) (ev_t rfl) (by unfold In64; omega))) rfl rfl rfl ?_
          refine TQ.op (yq (y_min (ev_t rfl) (ev_t rfl))) rfl rfl rfl ?_
          have hb142 : k51_5 < (m0_5.getD k46_4 []).length := (by first | omega | (simp only [List.length_set, List.length_append, List.length_cons, List.length_nil, List.length_replicate]; omega) | (rw [sortI_length]; simp only [List.length_cons, List.length_nil]; omega))
          refine TQ.op (yq (y_idx (k := k51_5) (ev_t rfl) (ev_t rfl) (by first | omega | simp) slT_34 (ri_tab 0 k46_4 rfl hb135) hb142)) rfl rfl rfl ?_
          refine TQ.tail ?_
          refine TL.storeT 0 (ev_t rfl) (ev_t rfl) one_3 rfl hb135 hb142 ?_
          refine TL.nil ?_
          refine TN.blockN ?_
          refine TN.seq ?_
          refine TC.region ?_
          refine TL.op (yq (y_add (ev_t rfl) ev_c (by unfold In64; omega))) rfl rfl rfl ?_
          refine TL.op (yq (y_move (ev_t rfl))) rfl rfl rfl ?_
          refine TL.nil ?_
          exact TN.hand (mf5, (k51_5 + 1), (m0_5.set k46_4 ((m0_5.getD k46_4 []).set k51_5 (min ((m0_5.getD k46_4 []).getD k51_5 0) (((m0_5.getD k46_4 []).getD k41_3 0) + ((m0_5.getD k41_3 []).getD k51_5 0)))))) ⟨(by first | omega | (simp [-List.getD_eq_getElem?_getD] <;> omega)), (hi5_1.set (by omega) (by omega) (by omega)), (by omega), hL5⟩ (Nat.lt_succ_self _) ⟨rfl, rfl, rfl, rfl, rfl, rfl, rfl, rfl, rfl, trivial⟩ (fun w hw => hw)
        · rw [bif_neg h133] at hL5
          have q134 := (of_decide_eq_false h133)
          refine TC.exit ?_
          refine TN.thenE ?_
          refine TN.thenE ?_
          rw [← hL5, elim_next] at hL4
          try dsimp only at hL4
          refine TN.blockH ?_
          refine TN.blockN ?_
          refine TN.seq ?_
          refine TC.region ?_
          refine TL.op (yq (y_add (ev_t rfl) ev_c (by unfold In64; omega))) rfl rfl rfl ?_
          refine TL.op (yq (y_move (ev_t rfl))) rfl rfl rfl ?_
          refine TL.nil ?_
          exact TN.hand (mf4, (k46_4 + 1), m0_5) ⟨(by first | omega | (simp [-List.getD_eq_getElem?_getD] <;> omega)), hi5_1, (by omega), hL4⟩ (Nat.lt_succ_self _) ⟨rfl, rfl, rfl, rfl, rfl, rfl, trivial⟩ (fun w hw => hw)
      · rw [bif_neg h129] at hL4
        have q130 := (of_decide_eq_false h129)
        refine TC.exit ?_
        refine TN.thenE ?_
        refine TN.thenE ?_
        rw [← hL4, elim_next] at hL3
        try dsimp only at hL3
        refine TN.blockH ?_
        refine TN.blockN ?_
        refine TN.seq ?_
        refine TC.region ?_
        refine TL.op (yq (y_add (ev_t rfl) ev_c (by unfold In64; omega))) rfl rfl rfl ?_
        refine TL.op (yq (y_move (ev_t rfl))) rfl rfl rfl ?_
        refine TL.nil ?_
        exact TN.hand (mf3, (k41_3 + 1), m0_4) ⟨(by first | omega | (simp [-List.getD_eq_getElem?_getD] <;> omega)), hi4_1, (by omega), hL3⟩ (Nat.lt_succ_self _) ⟨rfl, rfl, rfl, trivial⟩ (fun w hw => hw)
    · rw [bif_neg h125] at hL3
      have q126 := (of_decide_eq_false h125)
      refine TC.exit ?_
      refine TN.thenE ?_
      refine TN.thenE ?_
      rw [← hL3, elim_next] at hF
      try dsimp only at hF
      refine TN.blockH ?_
      refine TN.seq ?_
      refine TC.seq ?_
      refine TC.region ?_
      refine TL.op (yq (y_move (ev_t rfl))) rfl rfl rfl ?_
      refine TL.op (yq (y_assign (ev_t rfl))) rfl rfl rfl ?_
      refine TL.nil ?_
      refine TN.seq ?_
      refine TC.ret ?_
      subst hF
      exact TN.ret1 rfl (ev_t rfl) (fun w' hw => ⟨(vk3_1, uk3_1), rfl, hw⟩)

set_option maxRecDepth 4000 in
set_option maxHeartbeats 1000000 in
theorem impl_ClosedMetric_ok (w : World) (vm : Value) (um : List Value) (m : List (List Int)) (hm : RII w vm um m)  :
    Calls Try.prog 26 ([(.agg #[vm])] : List Value).toArray w (fun e w' => ∃ i : Value × List Value, e = .returned (.tuple #[(.agg #[i.1]), (.bool ((F_impl_ClosedMetric m).2))]) ∧ Hp w [tabI 34 3 i.1 i.2 ((F_impl_ClosedMetric m).1)] w') := by
  obtain ⟨rz, hF⟩ : ∃ rz, (F_impl_ClosedMetric m) = rz := ⟨_, rfl⟩
  rw [hF]
  unfold F_impl_ClosedMetric at hF
  have hlen_m := argT_len hm
  refine calls_tc Try.func26 rfl rfl rfl ?_
  change TC _ _ _ _ (Hp w []) [(0, (.agg #[vm]))]
  refine TC.seq ?_
  refine TC.region ?_
  refine TL.box (ev_t rfl) rfl (fun g0_0 => ?_)
  refine TL.alloc (u := (.agg #[(.slice none 0 0)])) (by kernel_rfl) rfl (fun g0_1 => ?_)
  refine TL.op (yq (y_assign ev_c)) rfl rfl rfl ?_
  refine TL.nil ?_
  refine TN.seq ?_
  refine TC.seq ?_
  refine TC.seq ?_
  refine TC.region ?_
  refine TL.op (yq (y_ldagg (cs := [vm]) 1 (ev_t rfl) agg_45 rfl)) rfl rfl rfl ?_
  refine TL.op (y_call (vs := [(.agg #[vm]), (.bool true)]) (v := (.bool (F_impl_Metric_isTable m true))) en_59 ⟨(ev_t rfl), ev_c, trivial⟩ (fun w hw => impl_Metric_isTable_ok w vm um m ((rii_arg hm) w hw) true)) rfl rfl rfl ?_
  refine TL.op (yq (y_not (ev_t rfl))) rfl rfl rfl ?_
  refine TL.nil ?_
  refine TN.seq ?_
  refine TC.cond (b := !(F_impl_Metric_isTable m true)) (ev_t rfl) (fun h3 => ?_) (fun h3 => ?_)
  · rw [bif_pos h3] at hF
    have q4 := (not_t h3)
    refine TC.seq ?_
    refine TC.region ?_
    refine TL.op (yq (y_bld0 bd_45_0)) rfl rfl rfl ?_
    refine TL.storeAgg (cs := [(.slice none 0 0)]) (us := [(.slice none 0 0)]) 0 (ev_t rfl) (ev_t rfl) agg_45 rfl rfl (fun w hw => (ocs_cons rfl ocs_nil)) ?_
    refine TL.op (yq (y_assign ev_c)) rfl rfl rfl ?_
    refine TL.nil ?_
    refine TN.seq ?_
    refine TC.ret ?_
    refine TN.thenR ?_
    subst hF
    refine TN.cls (fun w hw => hw.nilTab 34 3) ?_
    exact TN.retCT (cs := [(.slice none 0 0)]) 1 (by simp) rfl (ev_t rfl) (ev_t rfl) agg_45 rfl (fun w' hw => ⟨((.slice none 0 0), []), rfl, Hp.sublist hw (.cons_cons _ (.cons _ (.cons _ .slnil)))⟩)
  · rw [bif_neg h3] at hF
    have q4 := (isTable_t (not_f h3))
    refine TC.skip ?_
    refine TN.seq ?_
    refine TC.seq ?_
    refine TC.region ?_
    refine TL.op (yq (y_ldagg (cs := [vm]) 1 (ev_t rfl) agg_45 rfl)) rfl rfl rfl ?_
    refine TL.callr (ι := Value × List Value) (vs := [(.agg #[vm])]) (fun i => i.1) (fun i => [tabI 34 3 i.1 i.2 (F_impl_Metric_closed m)]) en_61 ⟨(ev_t rfl), trivial⟩ rfl (fun w hw => impl_Metric_closed_ok w vm um m ((rii_arg hm) w hw) (by first | assumption | omega | grind)) (fun r3_1 => ?_)
    refine TL.callmR (ι := Value × List Value) 0 (vs := [r3_1.1]) (fun i => (.tuple #[(.agg #[i.1]), (.bool ((F_impl_metricOf (F_impl_Metric_closed m)).2))])) (fun i => tabI 34 3 i.1 i.2 ((F_impl_metricOf (F_impl_Metric_closed m)).1)) en_60 ⟨(ev_t rfl), trivial⟩ rfl rfl (fun w1 _ hw => impl_metricOf_ok w w1 _ r3_1.1 r3_1.2 (F_impl_Metric_closed m) hw) (fun r3_2 => ?_)
    refine TL.op (yq (y_extract (ev_t rfl) rfl)) rfl rfl rfl ?_
    refine TL.op (yq (y_extract (ev_t rfl) rfl)) rfl rfl rfl ?_
    refine TL.storeAgg (cs := [(.slice none 0 0)]) (us := [r3_2.1]) 1 (ev_t rfl) (ev_t rfl) agg_45 rfl rfl (fun w hw => (ocs_cons (ln_one ((fun w hw => ((rii_tab 0 rfl) w hw).1) w hw).ln) ocs_nil)) ?_
    refine TL.op (yq (y_assign (ev_t rfl))) rfl rfl rfl ?_
    refine TL.nil ?_
    refine TN.seq ?_
    refine TC.ret ?_
    subst hF
    exact TN.retCT (cs := [r3_2.1]) 1 (by simp) rfl (ev_t rfl) (ev_t rfl) agg_45 rfl (fun w' hw => ⟨(r3_2.1, r3_2.2), rfl, Hp.sublist hw (.cons_cons _ (.cons _ (.cons _ .slnil)))⟩)

set_option maxRecDepth 4000 in
set_option maxHeartbeats 1000000 in
theorem spec_l6Own_ok (w : World) (vm : Value) (um : List Value) (m : List (List Int)) (hm : RII w vm um m) (hp0 : m.length ≤ 1000000) (hp1 : ∀ i, (m.getD i []).length ≤ 1000000) :
    Calls Try.prog 99 ([(.agg #[vm])] : List Value).toArray w (fun e w' => ∃ i : Value × List Value, e = .returned (.agg #[i.1]) ∧ Hp w [tabI 34 3 i.1 i.2 (F_spec_l6Own m)] w') := by
  obtain ⟨rz, hF⟩ : ∃ rz, (F_spec_l6Own m) = rz := ⟨_, rfl⟩
  rw [hF]
  unfold F_spec_l6Own at hF
  have hlen_m := argT_len hm
  refine calls_tc Try.func99 rfl rfl rfl ?_
  change TC _ _ _ _ (Hp w []) [(0, (.agg #[vm]))]
  refine TC.seq ?_
  refine TC.region ?_
  refine TL.box (ev_t rfl) rfl (fun g0_0 => ?_)
  refine TL.alloc (u := (.agg #[(.slice none 0 0)])) (by kernel_rfl) rfl (fun g0_1 => ?_)
  refine TL.nil ?_
  refine TN.seq ?_
  refine TC.seq ?_
  refine TC.region ?_
  refine TL.buildSlice (zs := []) (vs := []) slT_43 rfl trivial (by simp) rfl (by decide) rfl (fun v1_0 => ?_)
  refine TL.cls (fun w hw => hw.emptyTab 3) ?_
  refine TL.op (yq (y_bld1 (ev_t rfl) bd_45_1 (fun w hw => ((fun w hw => ((rii_tab 0 rfl) w hw).1) w hw).ln))) rfl rfl rfl ?_
  refine TL.alloc (u := (.agg #[(.slice none 0 0)])) (by kernel_rfl) rfl (fun g1_2 => ?_)
  refine TL.storeAgg (cs := [(.slice none 0 0)]) (us := [v1_0]) 0 (ev_t rfl) (ev_t rfl) agg_45 rfl rfl (fun w hw => (ocs_cons (ln_one ((fun w hw => ((rii_tab 1 rfl) w hw).1) w hw).ln) ocs_nil)) ?_
  refine TL.nil ?_
  refine TN.seq ?_
  refine TC.seq ?_
  refine TC.seq ?_
  refine TC.region ?_
  refine TL.op (yq (y_assign ev_c)) rfl rfl rfl ?_
  refine TL.nil ?_
  refine TN.seq ?_
  refine TC.block ?_
  obtain ⟨c25, hc26⟩ : ∃ c, F_spec_l6Own_L1 m ((m.length - 0) + 1) (0, ([])) = c := ⟨_, rfl⟩
  rw [hc26] at hF
  refine TC.loop (ι := Nat × Nat × List (List Int) × Value × List Value) (fun (fu1, x1, zg1_2_0_1, vzg1_2_0_1, uzg1_2_0_1) => [(1, (.pointer (some ⟨g0_0, 0, none⟩))), (2, (.pointer (some ⟨g0_1, 0, none⟩))), (3, (.pointer (some ⟨g1_2, 0, none⟩))), (4, (.int .i64 (x1 : Int)))]) (fun (fu1, x1, zg1_2_0_1, vzg1_2_0_1, uzg1_2_0_1) => Hp w [.blk g1_2 45 [vzg1_2_0_1], tabI 34 3 vzg1_2_0_1 uzg1_2_0_1 zg1_2_0_1, .blk g0_1 45 [(.slice none 0 0)], .blk g0_0 45 [vm]]) (fun (fu1, x1, zg1_2_0_1, vzg1_2_0_1, uzg1_2_0_1) => (x1 ≤ m.length) ∧ (zg1_2_0_1.length = x1) ∧ m.length - x1 < fu1 ∧ F_spec_l6Own_L1 m fu1 (x1, zg1_2_0_1) = c25) (fun (fu1, x1, zg1_2_0_1, vzg1_2_0_1, uzg1_2_0_1) => fu1) ((m.length - 0) + 1, 0, [], v1_0, []) ⟨(by first | omega | (simp [-List.getD_eq_getElem?_getD] <;> omega)), (by first | omega | (simp [-List.getD_eq_getElem?_getD] <;> omega)), (by omega), hc26⟩ ⟨rfl, rfl, rfl, rfl, trivial⟩ (fun w hw => hw) ?_
  rintro ⟨fu1, x1, zg1_2_0_1, vzg1_2_0_1, uzg1_2_0_1⟩ hJ1
  obtain ⟨hi1_0, hi1_1, hmu1, hL1⟩ : (x1 ≤ m.length) ∧ (zg1_2_0_1.length = x1) ∧ m.length - x1 < fu1 ∧ F_spec_l6Own_L1 m fu1 (x1, zg1_2_0_1) = c25 := hJ1
  change TC _ _ _ _ (Hp w [.blk g1_2 45 [vzg1_2_0_1], tabI 34 3 vzg1_2_0_1 uzg1_2_0_1 zg1_2_0_1, .blk g0_1 45 [(.slice none 0 0)], .blk g0_0 45 [vm]]) [(1, (.pointer (some ⟨g0_0, 0, none⟩))), (2, (.pointer (some ⟨g0_1, 0, none⟩))), (3, (.pointer (some ⟨g1_2, 0, none⟩))), (4, (.int .i64 (x1 : Int)))]
  obtain ⟨mf1, rfl⟩ : ∃ m, fu1 = m + 1 := ⟨fu1 - 1, by omega⟩
  rw [F_spec_l6Own_L1_s] at hL1
  have hrl := hp1 x1
  refine TC.seq ?_
  refine TC.seq ?_
  refine TC.region ?_
  refine TL.op (yq (y_move (ev_t rfl))) rfl rfl rfl ?_
  refine TL.op (yq (y_fa (fa_45_0 g0_0) (ev_t rfl))) rfl rfl rfl ?_
  refine TL.op (yq (y_ldb 3 (ev_t rfl) one_43 rfl rfl)) rfl rfl rfl ?_
  refine TL.op (yq (y_len (ev_t rfl) Try.underlying43 (fun w hw => ((fun w hw => ((rii_arg hm) w hw).1) w hw).ln))) rfl rfl rfl ?_
  refine TL.op (yq (y_lss (ev_t rfl) (ev_t rfl))) rfl rfl rfl ?_
  refine TL.nil ?_
  refine TN.seq ?_
  refine TC.cond (b := decide ((x1 : Int) < (m.length : Int))) (ev_t rfl) (fun h27 => ?_) (fun h27 => ?_)
  · rw [bif_pos h27] at hL1
    have q28 := (of_decide_eq_true h27)
    refine TC.skip ?_
    refine TN.seq ?_
    refine TC.seq ?_
    refine TC.block ?_
    refine TC.mid (fun a' w' => ∃ v5_8 : Value, ∃ v5_10 : Value, Slots 27 [(1, (.pointer (some ⟨g0_0, 0, none⟩))), (2, (.pointer (some ⟨g0_1, 0, none⟩))), (3, (.pointer (some ⟨g1_2, 0, none⟩))), (4, (.int .i64 (x1 : Int)))] a' ∧ Hp w [.blk g1_2 45 [v5_10], tabI 34 3 v5_10 (uzg1_2_0_1 ++ [v5_8]) (zg1_2_0_1 ++ [(([] : List Int) ++ (m.getD x1 []))]), .blk g0_1 45 [(.slice none 0 0)], .blk g0_0 45 [vm]] w') ?_ ?_
    · refine TC.regionH 13 (Hp w [.blk g0_1 45 [(.slice none 0 0)], .blk g0_0 45 [vm]]) rfl (by kernel_rfl) dr_hp (fun w hw => Hp.sublist hw (.cons _ (.cons _ (.cons_cons _ (.cons_cons _ .slnil))))) ?_
      refine TH.take 0 rfl (by kernel_rfl) (y_fa (fa_45_0 g1_2) (ev_t rfl)) rfl rfl rfl ?_
      refine TH.take 3 rfl (by kernel_rfl) (y_fa (fa_45_0 g0_0) (ev_t rfl)) rfl rfl rfl ?_
      refine TH.take 4 rfl (by kernel_rfl) (y_ldb 1 (ev_t rfl) one_43 rfl rfl) rfl rfl rfl ?_
      refine TH.take 5 rfl (by kernel_rfl) (y_move (ev_t rfl)) rfl rfl rfl ?_
      have hb33 : x1 < m.length := (by first | omega | (simp only [List.length_set, List.length_append, List.length_cons, List.length_nil, List.length_replicate]; omega) | (rw [sortI_length]; simp only [List.length_cons, List.length_nil]; omega))
      refine TH.take 6 rfl (by kernel_rfl) (y_idx (k := x1) (ev_t rfl) (ev_t rfl) (by first | omega | simp) slT_43 (fun w hw => ((rii_arg hm) w hw).1) hb33) rfl rfl rfl ?_
      have ha34 := hm.row (i := x1) hb33
      refine TH.take 7 rfl (by kernel_rfl) (y_ldA (ev_t rfl) one_34 (rii_arg hm) hb33) rfl rfl rfl ?_
      refine TH.loud2 1 2 rfl rfl (by kernel_rfl) ?_ ?_
      · refine TL.op (yq (y_ldb 0 (ev_t rfl) one_43 rfl rfl)) rfl rfl rfl ?_
        refine TL.nil ?_
        refine TH.back (fun w hw => Hp.sublist hw (.cons _ (.cons _ (.cons_cons _ (.cons_cons _ .slnil))))) ?_
        refine TH.loud 2 rfl (by kernel_rfl) ?_
        refine TL.buildI (zs := []) (qs := []) slT_34 rfl trivial rfl (by decide) rfl (fun v5_2 => ?_)
        refine TL.nil ?_
        refine TH.back (fun w hw => Hp.sublist hw (.cons _ (.cons _ (.cons _ (.cons_cons _ (.cons_cons _ .slnil)))))) ?_
        refine TH.loud 8 rfl (by kernel_rfl) ?_
        refine TL.appendI 0 (ev_t rfl) (ev_t rfl) rfl slT_34 (ri_arg ha34) (by first | omega | (simp [-List.getD_eq_getElem?_getD] <;> omega)) rfl (fun v5_8 => ?_)
        refine TL.nil ?_
        refine TH.back (fun w hw => Hp.sublist hw (.cons _ (.cons _ (.cons _ (.cons_cons _ (.cons_cons _ .slnil)))))) ?_
        refine TH.loud 9 rfl (by kernel_rfl) ?_
        refine TL.buildU slT_43 (ev_t rfl) (fun w hw => ((ri_row 0 rfl) w hw).ln) rfl (fun v5_9 => ?_)
        refine TL.nil ?_
        refine TH.back (fun w hw => Hp.sublist hw (.cons _ (.cons _ (.cons _ (.cons _ (.cons_cons _ (.cons_cons _ .slnil))))))) ?_
        refine TH.loud 10 rfl (by kernel_rfl) ?_
        refine TL.appendT 3 1 rfl (ev_t rfl) (ev_t rfl) rfl rfl slT_43 (rd_row 0 rfl) (by first | omega | (simp [-List.getD_eq_getElem?_getD] <;> omega)) rfl (fun v5_10 => ?_)
        refine TL.nil ?_
        refine TH.back (fun w hw => Hp.sublist hw (.cons _ (.cons _ (.cons _ (.cons _ (.cons_cons _ (.cons_cons _ .slnil))))))) ?_
        refine TH.take 11 rfl (by kernel_rfl) (y_fa (fa_45_0 g1_2) (ev_t rfl)) rfl rfl rfl ?_
        refine TH.loud 12 rfl (by kernel_rfl) ?_
        refine TL.storeB 2 (ev_t rfl) (ev_t rfl) one_43 rfl (by first | decide | simp) (fun w hw => (ln_one ((fun w hw => ((rii_tab 3 rfl) w hw).1) w hw).ln)) ?_
        refine TL.nil ?_
        refine TH.back (fun w hw => Hp.sublist hw (.cons _ (.cons _ (.cons _ (.cons _ (.cons_cons _ (.cons_cons _ .slnil))))))) ?_
        refine TH.done (by kernel_rfl) ?_
        exact fun a' w' hs hw => ⟨v5_8, v5_10, hs.sub ⟨rfl, rfl, rfl, rfl, trivial⟩, Hp.sublist hw (.cons _ (.cons _ (.cons_cons _ (.cons_cons _ (.cons_cons _ (.cons_cons _ .slnil))))))⟩
      · refine TL.buildI (zs := []) (qs := []) slT_34 rfl trivial rfl (by decide) rfl (fun v5_2 => ?_)
        refine TL.nil ?_
        refine TH.back (fun w hw => Hp.sublist hw (.cons _ (.cons _ (.cons _ (.cons_cons _ (.cons_cons _ .slnil)))))) ?_
        refine TH.loud2 1 8 rfl rfl (by kernel_rfl) ?_ ?_
        · refine TL.op (yq (y_ldb 1 (ev_t rfl) one_43 rfl rfl)) rfl rfl rfl ?_
          refine TL.nil ?_
          refine TH.back (fun w hw => Hp.sublist hw (.cons _ (.cons _ (.cons _ (.cons_cons _ (.cons_cons _ .slnil)))))) ?_
          refine TH.loud 8 rfl (by kernel_rfl) ?_
          refine TL.appendI 0 (ev_t rfl) (ev_t rfl) rfl slT_34 (ri_arg ha34) (by first | omega | (simp [-List.getD_eq_getElem?_getD] <;> omega)) rfl (fun v5_8 => ?_)
          refine TL.nil ?_
          refine TH.back (fun w hw => Hp.sublist hw (.cons _ (.cons _ (.cons _ (.cons_cons _ (.cons_cons _ .slnil)))))) ?_
          refine TH.loud 9 rfl (by kernel_rfl) ?_
          refine TL.buildU slT_43 (ev_t rfl) (fun w hw => ((ri_row 0 rfl) w hw).ln) rfl (fun v5_9 => ?_)
          refine TL.nil ?_
          refine TH.back (fun w hw => Hp.sublist hw (.cons _ (.cons _ (.cons _ (.cons _ (.cons_cons _ (.cons_cons _ .slnil))))))) ?_
          refine TH.loud 10 rfl (by kernel_rfl) ?_
          refine TL.appendT 3 1 rfl (ev_t rfl) (ev_t rfl) rfl rfl slT_43 (rd_row 0 rfl) (by first | omega | (simp [-List.getD_eq_getElem?_getD] <;> omega)) rfl (fun v5_10 => ?_)
          refine TL.nil ?_
          refine TH.back (fun w hw => Hp.sublist hw (.cons _ (.cons _ (.cons _ (.cons _ (.cons_cons _ (.cons_cons _ .slnil))))))) ?_
          refine TH.take 11 rfl (by kernel_rfl) (y_fa (fa_45_0 g1_2) (ev_t rfl)) rfl rfl rfl ?_
          refine TH.loud 12 rfl (by kernel_rfl) ?_
          refine TL.storeB 2 (ev_t rfl) (ev_t rfl) one_43 rfl (by first | decide | simp) (fun w hw => (ln_one ((fun w hw => ((rii_tab 3 rfl) w hw).1) w hw).ln)) ?_
          refine TL.nil ?_
          refine TH.back (fun w hw => Hp.sublist hw (.cons _ (.cons _ (.cons _ (.cons _ (.cons_cons _ (.cons_cons _ .slnil))))))) ?_
          refine TH.done (by kernel_rfl) ?_
          exact fun a' w' hs hw => ⟨v5_8, v5_10, hs.sub ⟨rfl, rfl, rfl, rfl, trivial⟩, Hp.sublist hw (.cons _ (.cons _ (.cons_cons _ (.cons_cons _ (.cons_cons _ (.cons_cons _ .slnil))))))⟩
        · refine TL.appendI 0 (ev_t rfl) (ev_t rfl) rfl slT_34 (ri_arg ha34) (by first | omega | (simp [-List.getD_eq_getElem?_getD] <;> omega)) rfl (fun v5_8 => ?_)
          refine TL.nil ?_
          refine TH.back (fun w hw => Hp.sublist hw (.cons _ (.cons _ (.cons _ (.cons_cons _ (.cons_cons _ .slnil)))))) ?_
          refine TH.loud2 1 9 rfl rfl (by kernel_rfl) ?_ ?_
          · refine TL.op (yq (y_ldb 1 (ev_t rfl) one_43 rfl rfl)) rfl rfl rfl ?_
            refine TL.nil ?_
            refine TH.back (fun w hw => Hp.sublist hw (.cons _ (.cons _ (.cons _ (.cons_cons _ (.cons_cons _ .slnil)))))) ?_
            refine TH.loud 9 rfl (by kernel_rfl) ?_
            refine TL.buildU slT_43 (ev_t rfl) (fun w hw => ((ri_row 0 rfl) w hw).ln) rfl (fun v5_9 => ?_)
            refine TL.nil ?_
            refine TH.back (fun w hw => Hp.sublist hw (.cons _ (.cons _ (.cons _ (.cons _ (.cons_cons _ (.cons_cons _ .slnil))))))) ?_
            refine TH.loud 10 rfl (by kernel_rfl) ?_
            refine TL.appendT 3 1 rfl (ev_t rfl) (ev_t rfl) rfl rfl slT_43 (rd_row 0 rfl) (by first | omega | (simp [-List.getD_eq_getElem?_getD] <;> omega)) rfl (fun v5_10 => ?_)
            refine TL.nil ?_
            refine TH.back (fun w hw => Hp.sublist hw (.cons _ (.cons _ (.cons _ (.cons _ (.cons_cons _ (.cons_cons _ .slnil))))))) ?_
            refine TH.take 11 rfl (by kernel_rfl) (y_fa (fa_45_0 g1_2) (ev_t rfl)) rfl rfl rfl ?_
            refine TH.loud 12 rfl (by kernel_rfl) ?_
            refine TL.storeB 2 (ev_t rfl) (ev_t rfl) one_43 rfl (by first | decide | simp) (fun w hw => (ln_one ((fun w hw => ((rii_tab 3 rfl) w hw).1) w hw).ln)) ?_
            refine TL.nil ?_
            refine TH.back (fun w hw => Hp.sublist hw (.cons _ (.cons _ (.cons _ (.cons _ (.cons_cons _ (.cons_cons _ .slnil))))))) ?_
            refine TH.done (by kernel_rfl) ?_
            exact fun a' w' hs hw => ⟨v5_8, v5_10, hs.sub ⟨rfl, rfl, rfl, rfl, trivial⟩, Hp.sublist hw (.cons _ (.cons _ (.cons_cons _ (.cons_cons _ (.cons_cons _ (.cons_cons _ .slnil))))))⟩
          · refine TL.buildU slT_43 (ev_t rfl) (fun w hw => ((ri_row 0 rfl) w hw).ln) rfl (fun v5_9 => ?_)
            refine TL.nil ?_
            refine TH.back (fun w hw => Hp.sublist hw (.cons _ (.cons _ (.cons _ (.cons _ (.cons_cons _ (.cons_cons _ .slnil))))))) ?_
            refine TH.loud 1 rfl (by kernel_rfl) ?_
            refine TL.op (yq (y_ldb 2 (ev_t rfl) one_43 rfl rfl)) rfl rfl rfl ?_
            refine TL.nil ?_
            refine TH.back (fun w hw => Hp.sublist hw (.cons _ (.cons _ (.cons _ (.cons _ (.cons_cons _ (.cons_cons _ .slnil))))))) ?_
            refine TH.loud 10 rfl (by kernel_rfl) ?_
            refine TL.appendT 3 1 rfl (ev_t rfl) (ev_t rfl) rfl rfl slT_43 (rd_row 0 rfl) (by first | omega | (simp [-List.getD_eq_getElem?_getD] <;> omega)) rfl (fun v5_10 => ?_)
            refine TL.nil ?_
            refine TH.back (fun w hw => Hp.sublist hw (.cons _ (.cons _ (.cons _ (.cons _ (.cons_cons _ (.cons_cons _ .slnil))))))) ?_
            refine TH.take 11 rfl (by kernel_rfl) (y_fa (fa_45_0 g1_2) (ev_t rfl)) rfl rfl rfl ?_
            refine TH.loud 12 rfl (by kernel_rfl) ?_
            refine TL.storeB 2 (ev_t rfl) (ev_t rfl) one_43 rfl (by first | decide | simp) (fun w hw => (ln_one ((fun w hw => ((rii_tab 3 rfl) w hw).1) w hw).ln)) ?_
            refine TL.nil ?_
            refine TH.back (fun w hw => Hp.sublist hw (.cons _ (.cons _ (.cons _ (.cons _ (.cons_cons _ (.cons_cons _ .slnil))))))) ?_
            refine TH.done (by kernel_rfl) ?_
            exact fun a' w' hs hw => ⟨v5_8, v5_10, hs.sub ⟨rfl, rfl, rfl, rfl, trivial⟩, Hp.sublist hw (.cons _ (.cons _ (.cons_cons _ (.cons_cons _ (.cons_cons _ (.cons_cons _ .slnil))))))⟩
    · rintro a' w' ⟨v5_8, v5_10, hs', hw'⟩
      refine (?_ : TN _ .normal 27 (Hp w [.blk g1_2 45 [v5_10], tabI 34 3 v5_10 (uzg1_2_0_1 ++ [v5_8]) (zg1_2_0_1 ++ [(([] : List Int) ++ (m.getD x1 []))]), .blk g0_1 45 [(.slice none 0 0)], .blk g0_0 45 [vm]]) [(1, (.pointer (some ⟨g0_0, 0, none⟩))), (2, (.pointer (some ⟨g0_1, 0, none⟩))), (3, (.pointer (some ⟨g1_2, 0, none⟩))), (4, (.int .i64 (x1 : Int)))]) a' w' hs' hw'
      clear hs' hw'
      refine TN.blockN ?_
      refine TN.seq ?_
      refine TC.region ?_
      refine TL.op (yq (y_move (ev_t rfl))) rfl rfl rfl ?_
      refine TL.op (yq (y_add (ev_t rfl) ev_c (by unfold In64; omega))) rfl rfl rfl ?_
      refine TL.op (yq (y_assign (ev_t rfl))) rfl rfl rfl ?_
      refine TL.nil ?_
      exact TN.hand (mf1, (x1 + 1), (zg1_2_0_1 ++ [(([] : List Int) ++ (m.getD x1 []))]), v5_10, (uzg1_2_0_1 ++ [v5_8])) ⟨(by first | omega | (simp [-List.getD_eq_getElem?_getD] <;> omega)), (by first | omega | (simp [-List.getD_eq_getElem?_getD] <;> omega)), (by omega), hL1⟩ (Nat.lt_succ_self _) ⟨rfl, rfl, rfl, rfl, trivial⟩ (fun w hw => hw)
  · rw [bif_neg h27] at hL1
    have q28 := (of_decide_eq_false h27)
    refine TC.exit ?_
    refine TN.thenE ?_
    refine TN.thenE ?_
    rw [← hL1, elim_next] at hF
    try dsimp only at hF
    refine TN.blockH ?_
    refine TN.seq ?_
    refine TC.seq ?_
    refine TC.region ?_
    refine TL.op (yq (y_ldagg (cs := [vzg1_2_0_1]) 0 (ev_t rfl) agg_45 rfl)) rfl rfl rfl ?_
    refine TL.storeAgg (cs := [(.slice none 0 0)]) (us := [vzg1_2_0_1]) 2 (ev_t rfl) (ev_t rfl) agg_45 rfl rfl (fun w hw => (ocs_cons (ln_one ((fun w hw => ((rii_tab 1 rfl) w hw).1) w hw).ln) ocs_nil)) ?_
    refine TL.nil ?_
    refine TN.seq ?_
    refine TC.ret ?_
    subst hF
    exact TN.retC (cs := [vzg1_2_0_1]) 2 (by simp) rfl (ev_t rfl) agg_45 rfl (fun w' hw => ⟨(vzg1_2_0_1, uzg1_2_0_1), rfl, Hp.sublist hw (.cons _ (.cons_cons _ (.cons _ (.cons _ .slnil))))⟩)

set_option maxRecDepth 4000 in
set_option maxHeartbeats 1000000 in
theorem spec_l6Close_ok (w : World) (vm : Value) (um : List Value) (m : List (List Int)) (hm : RII w vm um m) (hp0 : TabP true m) :
    Calls Try.prog 64 ([(.agg #[vm])] : List Value).toArray w (fun e w' => ∃ i : Value × List Value, e = .returned (.agg #[i.1]) ∧ Hp w [tabI 34 3 i.1 i.2 (F_spec_l6Close m)] w') := by
  obtain ⟨rz, hF⟩ : ∃ rz, (F_spec_l6Close m) = rz := ⟨_, rfl⟩
  rw [hF]
  unfold F_spec_l6Close at hF
  have hn6 := hp0.n6
  have howl := own_eq m
  have hrw0 : ∀ i, (m.getD i []).length ≤ 1000000 := fun i => by by_cases hi : i < m.length; (have := hp0.rows i hi; omega); (rw [getD_ge m i [] (by omega)]; simp)
  have hlen_m := argT_len hm
  refine calls_tc Try.func64 rfl rfl rfl ?_
  change TC _ _ _ _ (Hp w []) [(0, (.agg #[vm]))]
  refine TC.seq ?_
  refine TC.region ?_
  refine TL.box (ev_t rfl) rfl (fun g0_0 => ?_)
  refine TL.alloc (u := (.agg #[(.slice none 0 0)])) (by kernel_rfl) rfl (fun g0_1 => ?_)
  refine TL.nil ?_
  refine TN.seq ?_
  refine TC.seq ?_
  refine TC.region ?_
  refine TL.op (yq (y_ldagg (cs := [vm]) 1 (ev_t rfl) agg_45 rfl)) rfl rfl rfl ?_
  refine TL.callr (ι := Value × List Value) (vs := [(.agg #[vm])]) (fun i => (.agg #[i.1])) (fun i => [tabI 34 3 i.1 i.2 (F_spec_l6Own m)]) en_99 ⟨(ev_t rfl), trivial⟩ rfl (fun w hw => spec_l6Own_ok w vm um m ((rii_arg hm) w hw) (by first | assumption | omega | grind) (by first | assumption | omega | grind)) (fun r1_1 => ?_)
  refine TL.alloc (u := (.agg #[(.slice none 0 0)])) (by kernel_rfl) rfl (fun g1_2 => ?_)
  refine TL.storeAgg (cs := [(.slice none 0 0)]) (us := [r1_1.1]) 0 (ev_t rfl) (ev_t rfl) agg_45 rfl rfl (fun w hw => (ocs_cons (ln_one ((fun w hw => ((rii_tab 1 rfl) w hw).1) w hw).ln) ocs_nil)) ?_
  refine TL.nil ?_
  refine TN.seq ?_
  refine TC.seq ?_
  refine TC.region ?_
  refine TL.op (yq (y_fa (fa_45_0 g0_0) (ev_t rfl))) rfl rfl rfl ?_
  refine TL.op (yq (y_ldb 3 (ev_t rfl) one_43 rfl rfl)) rfl rfl rfl ?_
  refine TL.op (yq (y_len (ev_t rfl) Try.underlying43 (fun w hw => ((fun w hw => ((rii_arg hm) w hw).1) w hw).ln))) rfl rfl rfl ?_
  refine TL.op (yq (y_assign (ev_t rfl))) rfl rfl rfl ?_
  refine TL.nil ?_
  refine TN.seq ?_
  refine TC.seq ?_
  refine TC.seq ?_
  refine TC.region ?_
  refine TL.op (yq (y_assign ev_c)) rfl rfl rfl ?_
  refine TL.nil ?_
  refine TN.seq ?_
  refine TC.block ?_
  obtain ⟨c129, hc130⟩ : ∃ c, F_spec_l6Close_L1 m ((m.length - 0) + 1) (0, (F_spec_l6Own m)) = c := ⟨_, rfl⟩
  rw [hc130] at hF
  refine TC.loop (ι := Nat × Nat × List (List Int)) (fun (fu1, k5_1, m0_1) => [(2, (.pointer (some ⟨g0_1, 0, none⟩))), (3, (.pointer (some ⟨g1_2, 0, none⟩))), (4, (.int .i64 (m.length : Int))), (5, (.int .i64 (k5_1 : Int)))]) (fun (fu1, k5_1, m0_1) => Hp w [.blk g1_2 45 [r1_1.1], tabI 34 3 r1_1.1 r1_1.2 m0_1, .blk g0_1 45 [(.slice none 0 0)]]) (fun (fu1, k5_1, m0_1) => (k5_1 ≤ m.length) ∧ (Ci m.length k5_1 (99 * 2 ^ k5_1) m0_1) ∧ m.length - k5_1 < fu1 ∧ F_spec_l6Close_L1 m fu1 (k5_1, m0_1) = c129) (fun (fu1, k5_1, m0_1) => fu1) ((m.length - 0) + 1, 0, (F_spec_l6Own m)) ⟨(by first | omega | (simp [-List.getD_eq_getElem?_getD] <;> omega)), (by rw [own_eq]; exact (ci_start hp0).weak (by simp)), (by omega), hc130⟩ ⟨rfl, rfl, rfl, rfl, trivial⟩ (fun w hw => Hp.sublist hw (.cons_cons _ (.cons_cons _ (.cons_cons _ (.cons _ .slnil))))) ?_
  rintro ⟨fu1, k5_1, m0_1⟩ hJ1
  obtain ⟨hi1_0, hi1_1, hmu1, hL1⟩ : (k5_1 ≤ m.length) ∧ (Ci m.length k5_1 (99 * 2 ^ k5_1) m0_1) ∧ m.length - k5_1 < fu1 ∧ F_spec_l6Close_L1 m fu1 (k5_1, m0_1) = c129 := hJ1
  change TC _ _ _ _ (Hp w [.blk g1_2 45 [r1_1.1], tabI 34 3 r1_1.1 r1_1.2 m0_1, .blk g0_1 45 [(.slice none 0 0)]]) [(2, (.pointer (some ⟨g0_1, 0, none⟩))), (3, (.pointer (some ⟨g1_2, 0, none⟩))), (4, (.int .i64 (m.length : Int))), (5, (.int .i64 (k5_1 : Int)))]
  obtain ⟨mf1, rfl⟩ : ∃ m, fu1 = m + 1 := ⟨fu1 - 1, by omega⟩
  rw [F_spec_l6Close_L1_s] at hL1
  refine TC.seq ?_
  refine TC.seq ?_
  refine TC.region ?_
  refine TL.op (yq (y_move (ev_t rfl))) rfl rfl rfl ?_
  refine TL.op (yq (y_move (ev_t rfl))) rfl rfl rfl ?_
  refine TL.op (yq (y_lss (ev_t rfl) (ev_t rfl))) rfl rfl rfl ?_
  refine TL.nil ?_
  refine TN.seq ?_
  refine TC.cond (b := decide ((k5_1 : Int) < (m.length : Int))) (ev_t rfl) (fun h131 => ?_) (fun h131 => ?_)
  · rw [bif_pos h131] at hL1
    have q132 := (of_decide_eq_true h131)
    refine TC.skip ?_
    refine TN.seq ?_
    refine TC.seq ?_
    refine TC.block ?_
    refine TC.seq ?_
    refine TC.region ?_
    refine TL.op (yq (y_assign ev_c)) rfl rfl rfl ?_
    refine TL.nil ?_
    refine TN.seq ?_
    refine TC.block ?_
    obtain ⟨c133, hc134⟩ : ∃ c, F_spec_l6Close_L2 m k5_1 ((m.length - 0) + 1) (0, m0_1) = c := ⟨_, rfl⟩
    rw [hc134] at hL1
    refine TC.loop (ι := Nat × Nat × List (List Int)) (fun (fu2, k6_2, m0_2) => [(2, (.pointer (some ⟨g0_1, 0, none⟩))), (3, (.pointer (some ⟨g1_2, 0, none⟩))), (4, (.int .i64 (m.length : Int))), (5, (.int .i64 (k5_1 : Int))), (6, (.int .i64 (k6_2 : Int)))]) (fun (fu2, k6_2, m0_2) => Hp w [.blk g1_2 45 [r1_1.1], tabI 34 3 r1_1.1 r1_1.2 m0_2, .blk g0_1 45 [(.slice none 0 0)]]) (fun (fu2, k6_2, m0_2) => (k6_2 ≤ m.length) ∧ (Ci m.length k5_1 (99 * 2 ^ k5_1) m0_2) ∧ m.length - k6_2 < fu2 ∧ F_spec_l6Close_L2 m k5_1 fu2 (k6_2, m0_2) = c133) (fun (fu2, k6_2, m0_2) => fu2) ((m.length - 0) + 1, 0, m0_1) ⟨(by first | omega | (simp [-List.getD_eq_getElem?_getD] <;> omega)), hi1_1, (by omega), hc134⟩ ⟨rfl, rfl, rfl, rfl, rfl, trivial⟩ (fun w hw => hw) ?_
    rintro ⟨fu2, k6_2, m0_2⟩ hJ2
    obtain ⟨hi2_0, hi2_1, hmu2, hL2⟩ : (k6_2 ≤ m.length) ∧ (Ci m.length k5_1 (99 * 2 ^ k5_1) m0_2) ∧ m.length - k6_2 < fu2 ∧ F_spec_l6Close_L2 m k5_1 fu2 (k6_2, m0_2) = c133 := hJ2
    change TC _ _ _ _ (Hp w [.blk g1_2 45 [r1_1.1], tabI 34 3 r1_1.1 r1_1.2 m0_2, .blk g0_1 45 [(.slice none 0 0)]]) [(2, (.pointer (some ⟨g0_1, 0, none⟩))), (3, (.pointer (some ⟨g1_2, 0, none⟩))), (4, (.int .i64 (m.length : Int))), (5, (.int .i64 (k5_1 : Int))), (6, (.int .i64 (k6_2 : Int)))]
    obtain ⟨mf2, rfl⟩ : ∃ m, fu2 = m + 1 := ⟨fu2 - 1, by omega⟩
    rw [F_spec_l6Close_L2_s] at hL2
    refine TC.seq ?_
    refine TC.seq ?_
    refine TC.region ?_
    refine TL.op (yq (y_move (ev_t rfl))) rfl rfl rfl ?_
    refine TL.op (yq (y_move (ev_t rfl))) rfl rfl rfl ?_
    refine TL.op (yq (y_lss (ev_t rfl) (ev_t rfl))) rfl rfl rfl ?_
    refine TL.nil ?_
    refine TN.seq ?_
    refine TC.cond (b := decide ((k6_2 : Int) < (m.length : Int))) (ev_t rfl) (fun h135 => ?_) (fun h135 => ?_)
    · rw [bif_pos h135] at hL2
      have q136 := (of_decide_eq_true h135)
      refine TC.skip ?_
      refine TN.seq ?_
      refine TC.seq ?_
      refine TC.block ?_
      refine TC.seq ?_
      refine TC.region ?_
      refine TL.op (yq (y_assign ev_c)) rfl rfl rfl ?_
      refine TL.nil ?_
      refine TN.seq ?_
      refine TC.block ?_
      obtain ⟨c137, hc138⟩ : ∃ c, F_spec_l6Close_L3 m k5_1 k6_2 ((m.length - 0) + 1) (0, m0_2) = c := ⟨_, rfl⟩
      rw [hc138] at hL2
      refine TC.loop (ι := Nat × Nat × List (List Int)) (fun (fu3, k7_3, m0_3) => [(2, (.pointer (some ⟨g0_1, 0, none⟩))), (3, (.pointer (some ⟨g1_2, 0, none⟩))), (4, (.int .i64 (m.length : Int))), (5, (.int .i64 (k5_1 : Int))), (6, (.int .i64 (k6_2 : Int))), (7, (.int .i64 (k7_3 : Int)))]) (fun (fu3, k7_3, m0_3) => Hp w [.blk g1_2 45 [r1_1.1], tabI 34 3 r1_1.1 r1_1.2 m0_3, .blk g0_1 45 [(.slice none 0 0)]]) (fun (fu3, k7_3, m0_3) => (k7_3 ≤ m.length) ∧ (Ci m.length k5_1 (99 * 2 ^ k5_1) m0_3) ∧ m.length - k7_3 < fu3 ∧ F_spec_l6Close_L3 m k5_1 k6_2 fu3 (k7_3, m0_3) = c137) (fun (fu3, k7_3, m0_3) => fu3) ((m.length - 0) + 1, 0, m0_2) ⟨(by first | omega | (simp [-List.getD_eq_getElem?_getD] <;> omega)), hi2_1, (by omega), hc138⟩ ⟨rfl, rfl, rfl, rfl, rfl, rfl, trivial⟩ (fun w hw => hw) ?_
      rintro ⟨fu3, k7_3, m0_3⟩ hJ3
      obtain ⟨hi3_0, hi3_1, hmu3, hL3⟩ : (k7_3 ≤ m.length) ∧ (Ci m.length k5_1 (99 * 2 ^ k5_1) m0_3) ∧ m.length - k7_3 < fu3 ∧ F_spec_l6Close_L3 m k5_1 k6_2 fu3 (k7_3, m0_3) = c137 := hJ3
      change TC _ _ _ _ (Hp w [.blk g1_2 45 [r1_1.1], tabI 34 3 r1_1.1 r1_1.2 m0_3, .blk g0_1 45 [(.slice none 0 0)]]) [(2, (.pointer (some ⟨g0_1, 0, none⟩))), (3, (.pointer (some ⟨g1_2, 0, none⟩))), (4, (.int .i64 (m.length : Int))), (5, (.int .i64 (k5_1 : Int))), (6, (.int .i64 (k6_2 : Int))), (7, (.int .i64 (k7_3 : Int)))]
      obtain ⟨mf3, rfl⟩ : ∃ m, fu3 = m + 1 := ⟨fu3 - 1, by omega⟩
      rw [F_spec_l6Close_L3_s] at hL3
      have hpb := pow_B k5_1
      have hsl := hi3_1.sq.len
      have hr1 := hi3_1.sq.rows k6_2
      have hr2 := hi3_1.sq.rows k5_1
      have b1 := hi3_1.bd k6_2 k5_1
      have b2 := hi3_1.bd k5_1 k7_3
      have b3 := hi3_1.bd k6_2 k7_3
      refine TC.seq ?_
      refine TC.seq ?_
      refine TC.region ?_
      refine TL.op (yq (y_move (ev_t rfl))) rfl rfl rfl ?_
      refine TL.op (yq (y_move (ev_t rfl))) rfl rfl rfl ?_
      refine TL.op (yq (y_lss (ev_t rfl) (ev_t rfl))) rfl rfl rfl ?_
      refine TL.nil ?_
      refine TN.seq ?_
      refine TC.cond (b := decide ((k7_3 : Int) < (m.length : Int))) (ev_t rfl) (fun h139 => ?_) (fun h139 => ?_)
      · rw [bif_pos h139] at hL3
        have q140 := (of_decide_eq_true h139)
        refine TC.skip ?_
        refine TN.seq ?_
        refine TC.seq ?_
        refine TC.block ?_
        refine TC.seq ?_
        refine TC.seq ?_
        refine TC.region ?_
        refine TL.op (yq (y_fa (fa_45_0 g1_2) (ev_t rfl))) rfl rfl rfl ?_
        refine TL.op (yq (y_ldb 0 (ev_t rfl) one_43 rfl rfl)) rfl rfl rfl ?_
        refine TL.op (yq (y_move (ev_t rfl))) rfl rfl rfl ?_
        have hb141 : k6_2 < m0_3.length := (by first | omega | (simp only [List.length_set, List.length_append, List.length_cons, List.length_nil, List.length_replicate]; omega) | (rw [sortI_length]; simp only [List.length_cons, List.length_nil]; omega))
        refine TL.op (yq (y_idx (k := k6_2) (ev_t rfl) (ev_t rfl) (by first | omega | simp) slT_43 (fun w hw => ((rii_tab 1 rfl) w hw).1) hb141)) rfl rfl rfl ?_
        refine TL.op (yq (y_ldT 1 (ev_t rfl) one_34 rfl hb141)) rfl rfl rfl ?_
        refine TL.op (yq (y_move (ev_t rfl))) rfl rfl rfl ?_
        have hb142 : k5_1 < (m0_3.getD k6_2 []).length := (by first | omega | (simp only [List.length_set, List.length_append, List.length_cons, List.length_nil, List.length_replicate]; omega) | (rw [sortI_length]; simp only [List.length_cons, List.length_nil]; omega))
        refine TL.op (yq (y_idx (k := k5_1) (ev_t rfl) (ev_t rfl) (by first | omega | simp) slT_34 (ri_tab 1 k6_2 rfl hb141) hb142)) rfl rfl rfl ?_
        refine TL.op (yq (y_ldi (ev_t rfl) one_3 (ri_tab 1 k6_2 rfl hb141) hb142)) rfl rfl rfl ?_
        refine TL.op (yq (y_lss (ev_t rfl) ev_c)) rfl rfl rfl ?_
        refine TL.op (yq (y_move (ev_t rfl))) rfl rfl rfl ?_
        refine TL.opw (w_f rfl rfl rfl) (fun hg => yq (y_fa (fa_45_0 g1_2) (ev_t rfl))) rfl rfl ?_
        refine TL.opw (w_f rfl rfl rfl) (fun hg => yq (y_ldb 0 (ev_g rfl hg) one_43 rfl rfl)) rfl rfl ?_
        refine TL.opw (w_f rfl rfl rfl) (fun hg => yq (y_move (ev_t rfl))) rfl rfl ?_
        refine TL.opw (w_f rfl rfl rfl) (fun hg => yq (y_idx (k := k5_1) (ev_g rfl hg) (ev_g rfl hg) (by first | omega | simp) slT_43 (fun w hw => ((rii_tab 1 rfl) w hw).1) (show k5_1 < m0_3.length by have hgf := (of_decide_eq_false (not_t hg)); omega))) rfl rfl ?_
        refine TL.opw (w_f rfl rfl rfl) (fun hg => yq (y_ldT 1 (ev_g rfl hg) one_34 rfl (show k5_1 < m0_3.length by have hgf := (of_decide_eq_false (not_t hg)); omega))) rfl rfl ?_
        refine TL.opw (w_f rfl rfl rfl) (fun hg => yq (y_move (ev_t rfl))) rfl rfl ?_
        refine TL.opw (w_f rfl rfl rfl) (fun hg => yq (y_idx (k := k7_3) (ev_g rfl hg) (ev_g rfl hg) (by first | omega | simp) slT_34 (ri_tab 1 k5_1 rfl (show k5_1 < m0_3.length by have hgf := (of_decide_eq_false (not_t hg)); omega)) (show k7_3 < (m0_3.getD k5_1 []).length by have hgf := (of_decide_eq_false (not_t hg)); omega))) rfl rfl ?_
        refine TL.opw (w_f rfl rfl rfl) (fun hg => yq (y_ldi (ev_g rfl hg) one_3 (ri_tab 1 k5_1 rfl (show k5_1 < m0_3.length by have hgf := (of_decide_eq_false (not_t hg)); omega)) (show k7_3 < (m0_3.getD k5_1 []).length by have hgf := (of_decide_eq_false (not_t hg)); omega))) rfl rfl ?_
        refine TL.opw (w_f rfl rfl rfl) (fun hg => yq (y_lss (ev_g rfl hg) ev_c)) rfl rfl ?_
        refine TL.op (yq (y_or (ev_t rfl) (fun hq => (ev_g rfl hq)))) rfl rfl rfl ?_
        refine TL.nil ?_
        refine TN.seq ?_
        refine TC.cond (b := ((decide (((m0_3.getD k6_2 []).getD k5_1 0) < 0)) || (decide (((m0_3.getD k5_1 []).getD k7_3 0) < 0)))) (ev_t rfl) (fun h143 => ?_) (fun h143 => ?_)
        · rw [bif_pos h143] at hL3
          have q144 := ((or_t h143).imp (fun h => (of_decide_eq_true h)) (fun h => (of_decide_eq_true h)))
          refine TC.exit ?_
          refine TN.thenE ?_
          refine TN.blockH ?_
          refine TN.seq ?_
          refine TC.region ?_
          refine TL.op (yq (y_move (ev_t rfl))) rfl rfl rfl ?_
          refine TL.op (yq (y_add (ev_t rfl) ev_c (by unfold In64; omega))) rfl rfl rfl ?_
          refine TL.op (yq (y_assign (ev_t rfl))) rfl rfl rfl ?_
          refine TL.nil ?_
          exact TN.hand (mf3, (k7_3 + 1), m0_3) ⟨(by first | omega | (simp [-List.getD_eq_getElem?_getD] <;> omega)), (by first | exact hi3_1 | exact hi3_1.set (by omega) (by omega) (by omega) (by omega) (by omega)), (by omega), hL3⟩ (Nat.lt_succ_self _) ⟨rfl, rfl, rfl, rfl, rfl, rfl, trivial⟩ (fun w hw => hw)
        · rw [bif_neg h143] at hL3
          have q144 := (and_imp (or_f h143) (fun h => (of_decide_eq_false h)) (fun h => (of_decide_eq_false h)))
          refine TC.skip ?_
          refine TN.seq ?_
          refine TC.seq ?_
          refine TC.regionQ (by kernel_rfl) (by kernel_rfl) dr_hp ?_
          refine TQ.op (yq (y_fa (fa_45_0 g1_2) (ev_t rfl))) rfl rfl rfl ?_
          refine TQ.op (yq (y_ldb 0 (ev_t rfl) one_43 rfl rfl)) rfl rfl rfl ?_
          refine TQ.op (yq (y_move (ev_t rfl))) rfl rfl rfl ?_
          have hb145 : k6_2 < m0_3.length := (by first | omega | (simp only [List.length_set, List.length_append, List.length_cons, List.length_nil, List.length_replicate]; omega) | (rw [sortI_length]; simp only [List.length_cons, List.length_nil]; omega))
          refine TQ.op (yq (y_idx (k := k6_2) (ev_t rfl) (ev_t rfl) (by first | omega | simp) slT_43 (fun w hw => ((rii_tab 1 rfl) w hw).1) hb145)) rfl rfl rfl ?_
          refine TQ.op (yq (y_ldT 1 (ev_t rfl) one_34 rfl hb145)) rfl rfl rfl ?_
          refine TQ.op (yq (y_move (ev_t rfl))) rfl rfl rfl ?_
          have hb146 : k5_1 < (m0_3.getD k6_2 []).length := (by first | omega | (simp only [List.length_set, List.length_append, List.length_cons, List.length_nil, List.length_replicate]; omega) | (rw [sortI_length]; simp only [List.length_cons, List.length_nil]; omega))
          refine TQ.op (yq (y_idx (k := k5_1) (ev_t rfl) (ev_t rfl) (by first | omega | simp) slT_34 (ri_tab 1 k6_2 rfl hb145) hb146)) rfl rfl rfl ?_
          refine TQ.op (yq (y_ldi (ev_t rfl) one_3 (ri_tab 1 k6_2 rfl hb145) hb146)) rfl rfl rfl ?_
          refine TQ.op (yq (y_fa (fa_45_0 g1_2) (ev_t rfl))) rfl rfl rfl ?_
          refine TQ.op (yq (y_ldb 0 (ev_t rfl) one_43 rfl rfl)) rfl rfl rfl ?_
          refine TQ.op (yq (y_move (ev_t rfl))) rfl rfl rfl ?_
          have hb147 : k5_1 < m0_3.length := (by first | omega | (simp only [List.length_set, List.length_append, List.length_cons, List.length_nil, List.length_replicate]; omega) | (rw [sortI_length]; simp only [List.length_cons, List.length_nil]; omega))
          refine TQ.op (yq (y_idx (k := k5_1) (ev_t rfl) (ev_t rfl) (by first | omega | simp) slT_43 (fun w hw => ((rii_tab 1 rfl) w hw).1) hb147)) rfl rfl rfl ?_
          refine TQ.op (yq (y_ldT 1 (ev_t rfl) one_34 rfl hb147)) rfl rfl rfl ?_
          refine TQ.op (yq (y_move (ev_t rfl))) rfl rfl rfl ?_
          have hb148 : k7_3 < (m0_3.getD k5_1 []).length := (by first | omega | (simp only [List.length_set, List.length_append, List.length_cons, List.length_nil, List.length_replicate]; omega) | (rw [sortI_length]; simp only [List.length_cons, List.length_nil]; omega))
          refine TQ.op (yq (y_idx (k := k7_3) (ev_t rfl) (ev_t rfl) (by first | omega | simp) slT_34 (ri_tab 1 k5_1 rfl hb147) hb148)) rfl rfl rfl ?_
          refine TQ.op (yq (y_ldi (ev_t rfl) one_3 (ri_tab 1 k5_1 rfl hb147) hb148)) rfl rfl rfl ?_
          refine TQ.op (yq (y_add (ev_t rfl) (ev_t rfl) (by unfold In64; omega))) rfl rfl rfl ?_
          refine TQ.op (yq (y_assign (ev_t rfl))) rfl rfl rfl ?_
          refine TQ.nil ?_
          refine TN.seq ?_
          refine TC.seq ?_
          refine TC.region ?_
          refine TL.op (yq (y_fa (fa_45_0 g1_2) (ev_t rfl))) rfl rfl rfl ?_
          refine TL.op (yq (y_ldb 0 (ev_t rfl) one_43 rfl rfl)) rfl rfl rfl ?_
          refine TL.op (yq (y_move (ev_t rfl))) rfl rfl rfl ?_
          have hb149 : k6_2 < m0_3.length := (by first | omega | (simp only [List.length_set, List.length_append, List.length_cons, List.length_nil, List.length_replicate]; omega) | (rw [sortI_length]; simp only [List.length_cons, List.length_nil]; omega))
          refine TL.op (yq (y_idx (k := k6_2) (ev_t rfl) (ev_t rfl) (by first | omega | simp) slT_43 (fun w hw => ((rii_tab 1 rfl) w hw).1) hb149)) rfl rfl rfl ?_
          refine TL.op (yq (y_ldT 1 (ev_t rfl) one_34 rfl hb149)) rfl rfl rfl ?_
          refine TL.op (yq (y_move (ev_t rfl))) rfl rfl rfl ?_
          have hb150 : k7_3 < (m0_3.getD k6_2 []).length := (by first | omega | (simp only [List.length_set, List.length_append, List.length_cons, List.length_nil, List.length_replicate]; omega) | (rw [sortI_length]; simp only [List.length_cons, List.length_nil]; omega))
          refine TL.op (yq (y_idx (k := k7_3) (ev_t rfl) (ev_t rfl) (by first | omega | simp) slT_34 (ri_tab 1 k6_2 rfl hb149) hb150)) rfl rfl rfl ?_
          refine TL.op (yq (y_ldi (ev_t rfl) one_3 (ri_tab 1 k6_2 rfl hb149) hb150)) rfl rfl rfl ?_
          refine TL.op (yq (y_lss (ev_t rfl) ev_c)) rfl rfl rfl ?_
          refine TL.op (yq (y_move (ev_t rfl))) rfl rfl rfl ?_
          refine TL.opw (w_f rfl rfl rfl) (fun hg => yq (y_move (ev_t rfl))) rfl rfl ?_
          refine TL.opw (w_f rfl rfl rfl) (fun hg => yq (y_fa (fa_45_0 g1_2) (ev_t rfl))) rfl rfl ?_
          refine TL.opw (w_f rfl rfl rfl) (fun hg => yq (y_ldb 0 (ev_g rfl hg) one_43 rfl rfl)) rfl rfl ?_
          refine TL.opw (w_f rfl rfl rfl) (fun hg => yq (y_move (ev_t rfl))) rfl rfl ?_
          refine TL.opw (w_f rfl rfl rfl) (fun hg => yq (y_idx (k := k6_2) (ev_g rfl hg) (ev_g rfl hg) (by first | omega | simp) slT_43 (fun w hw => ((rii_tab 1 rfl) w hw).1) (show k6_2 < m0_3.length by have hgf := (of_decide_eq_false (not_t hg)); omega))) rfl rfl ?_
          refine TL.opw (w_f rfl rfl rfl) (fun hg => yq (y_ldT 1 (ev_g rfl hg) one_34 rfl (show k6_2 < m0_3.length by have hgf := (of_decide_eq_false (not_t hg)); omega))) rfl rfl ?_
          refine TL.opw (w_f rfl rfl rfl) (fun hg => yq (y_move (ev_t rfl))) rfl rfl ?_
          refine TL.opw (w_f rfl rfl rfl) (fun hg => yq (y_idx (k := k7_3) (ev_g rfl hg) (ev_g rfl hg) (by first | omega | simp) slT_34 (ri_tab 1 k6_2 rfl (show k6_2 < m0_3.length by have hgf := (of_decide_eq_false (not_t hg)); omega)) (show k7_3 < (m0_3.getD k6_2 []).length by have hgf := (of_decide_eq_false (not_t hg)); omega))) rfl rfl ?_
          refine TL.opw (w_f rfl rfl rfl) (fun hg => yq (y_ldi (ev_g rfl hg) one_3 (ri_tab 1 k6_2 rfl (show k6_2 < m0_3.length by have hgf := (of_decide_eq_false (not_t hg)); omega)) (show k7_3 < (m0_3.getD k6_2 []).length by have hgf := (of_decide_eq_false (not_t hg)); omega))) rfl rfl ?_
          refine TL.opw (w_f rfl rfl rfl) (fun hg => yq (y_lss (ev_g rfl hg) (ev_g rfl hg))) rfl rfl ?_
          refine TL.op (yq (y_or (ev_t rfl) (fun hq => (ev_g rfl hq)))) rfl rfl rfl ?_
          refine TL.nil ?_
          refine TN.seq ?_
          refine TC.cond (b := ((decide (((m0_3.getD k6_2 []).getD k7_3 0) < 0)) || (decide (((m0_3.getD k6_2 []).getD k5_1 0) + ((m0_3.getD k5_1 []).getD k7_3 0) < ((m0_3.getD k6_2 []).getD k7_3 0))))) (ev_t rfl) (fun h151 => ?_) (fun h151 => ?_)
          · rw [bif_pos h151] at hL3
            have q152 := ((or_t h151).imp (fun h => (of_decide_eq_true h)) (fun h => (of_decide_eq_true h)))
            refine TC.region ?_
            refine TL.op (yq (y_fa (fa_45_0 g1_2) (ev_t rfl))) rfl rfl rfl ?_
            refine TL.op (yq (y_ldb 0 (ev_t rfl) one_43 rfl rfl)) rfl rfl rfl ?_
            refine TL.op (yq (y_move (ev_t rfl))) rfl rfl rfl ?_
            have hb153 : k6_2 < m0_3.length := (by first | omega | (simp only [List.length_set, List.length_append, List.length_cons, List.length_nil, List.length_replicate]; omega) | (rw [sortI_length]; simp only [List.length_cons, List.length_nil]; omega))
            refine TL.op (yq (y_idx (k := k6_2) (ev_t rfl) (ev_t rfl) (by first | omega | simp) slT_43 (fun w hw => ((rii_tab 1 rfl) w hw).1) hb153)) rfl rfl rfl ?_
            refine TL.op (yq (y_ldT 1 (ev_t rfl) one_34 rfl hb153)) rfl rfl rfl ?_
            refine TL.op (yq (y_move (ev_t rfl))) rfl rfl rfl ?_
            refine TL.op (yq (y_move (ev_t rfl))) rfl rfl rfl ?_
            have hb154 : k7_3 < (m0_3.getD k6_2 []).length := (by first | omega | (simp only [List.length_set, List.length_append, List.length_cons, List.length_nil, List.length_replicate]; omega) | (rw [sortI_length]; simp only [List.length_cons, List.length_nil]; omega))
            refine TL.op (yq (y_idx (k := k7_3) (ev_t rfl) (ev_t rfl) (by first | omega | simp) slT_34 (ri_tab 1 k6_2 rfl hb153) hb154)) rfl rfl rfl ?_
            refine TL.storeT 1 (ev_t rfl) (ev_t rfl) one_3 rfl hb153 hb154 ?_
            refine TL.nil ?_
            refine TN.blockN ?_
            refine TN.seq ?_
            refine TC.region ?_
            refine TL.op (yq (y_move (ev_t rfl))) rfl rfl rfl ?_
            refine TL.op (yq (y_add (ev_t rfl) ev_c (by unfold In64; omega))) rfl rfl rfl ?_
            refine TL.op (yq (y_assign (ev_t rfl))) rfl rfl rfl ?_
            refine TL.nil ?_
            exact TN.hand (mf3, (k7_3 + 1), (m0_3.set k6_2 ((m0_3.getD k6_2 []).set k7_3 (((m0_3.getD k6_2 []).getD k5_1 0) + ((m0_3.getD k5_1 []).getD k7_3 0))))) ⟨(by first | omega | (simp [-List.getD_eq_getElem?_getD] <;> omega)), (by first | exact hi3_1 | exact hi3_1.set (by omega) (by omega) (by omega) (by omega) (by omega)), (by omega), hL3⟩ (Nat.lt_succ_self _) ⟨rfl, rfl, rfl, rfl, rfl, rfl, trivial⟩ (fun w hw => hw)
          · rw [bif_neg h151] at hL3
            have q152 := (and_imp (or_f h151) (fun h => (of_decide_eq_false h)) (fun h => (of_decide_eq_false h)))
            refine TC.skip ?_
            refine TN.blockN ?_
            refine TN.seq ?_
            refine TC.region ?_
            refine TL.op (yq (y_move (ev_t rfl))) rfl rfl rfl ?_
            refine TL.op (yq (y_add (ev_t rfl) ev_c (by unfold In64; omega))) rfl rfl rfl ?_
            refine TL.op (yq (y_assign (ev_t rfl))) rfl rfl rfl ?_
            refine TL.nil ?_
            exact TN.hand (mf3, (k7_3 + 1), m0_3) ⟨(by first | omega | (simp [-List.getD_eq_getElem?_getD] <;> omega)), (by first | exact hi3_1 | exact hi3_1.set (by omega) (by omega) (by omega) (by omega) (by omega)), (by omega), hL3⟩ (Nat.lt_succ_self _) ⟨rfl, rfl, rfl, rfl, rfl, rfl, trivial⟩ (fun w hw => hw)
      · rw [bif_neg h139] at hL3
        have q140 := (of_decide_eq_false h139)
        refine TC.exit ?_
        refine TN.thenE ?_
        refine TN.thenE ?_
        rw [← hL3, elim_next] at hL2
        try dsimp only at hL2
        refine TN.blockH ?_
        refine TN.blockN ?_
        refine TN.seq ?_
        refine TC.region ?_
        refine TL.op (yq (y_move (ev_t rfl))) rfl rfl rfl ?_
        refine TL.op (yq (y_add (ev_t rfl) ev_c (by unfold In64; omega))) rfl rfl rfl ?_
        refine TL.op (yq (y_assign (ev_t rfl))) rfl rfl rfl ?_
        refine TL.nil ?_
        exact TN.hand (mf2, (k6_2 + 1), m0_3) ⟨(by first | omega | (simp [-List.getD_eq_getElem?_getD] <;> omega)), hi3_1, (by omega), hL2⟩ (Nat.lt_succ_self _) ⟨rfl, rfl, rfl, rfl, rfl, trivial⟩ (fun w hw => hw)
    · rw [bif_neg h135] at hL2
      have q136 := (of_decide_eq_false h135)
      refine TC.exit ?_
      refine TN.thenE ?_
      refine TN.thenE ?_
      rw [← hL2, elim_next] at hL1
      try dsimp only at hL1
      refine TN.blockH ?_
      refine TN.blockN ?_
      refine TN.seq ?_
      refine TC.region ?_
      refine TL.op (yq (y_move (ev_t rfl))) rfl rfl rfl ?_
      refine TL.op (yq (y_add (ev_t rfl) ev_c (by unfold In64; omega))) rfl rfl rfl ?_
      refine TL.op (yq (y_assign (ev_t rfl))) rfl rfl rfl ?_
      refine TL.nil ?_
      exact TN.hand (mf1, (k5_1 + 1), m0_2) ⟨(by first | omega | (simp [-List.getD_eq_getElem?_getD] <;> omega)), hi2_1.step, (by omega), hL1⟩ (Nat.lt_succ_self _) ⟨rfl, rfl, rfl, rfl, trivial⟩ (fun w hw => hw)
  · rw [bif_neg h131] at hL1
    have q132 := (of_decide_eq_false h131)
    refine TC.exit ?_
    refine TN.thenE ?_
    refine TN.thenE ?_
    rw [← hL1, elim_next] at hF
    try dsimp only at hF
    refine TN.blockH ?_
    refine TN.seq ?_
    refine TC.seq ?_
    refine TC.region ?_
    refine TL.op (yq (y_ldagg (cs := [r1_1.1]) 0 (ev_t rfl) agg_45 rfl)) rfl rfl rfl ?_
    refine TL.storeAgg (cs := [(.slice none 0 0)]) (us := [r1_1.1]) 2 (ev_t rfl) (ev_t rfl) agg_45 rfl rfl (fun w hw => (ocs_cons (ln_one ((fun w hw => ((rii_tab 1 rfl) w hw).1) w hw).ln) ocs_nil)) ?_
    refine TL.nil ?_
    refine TN.seq ?_
    refine TC.ret ?_
    subst hF
    exact TN.retC (cs := [r1_1.1]) 2 (by simp) rfl (ev_t rfl) agg_45 rfl (fun w' hw => ⟨(r1_1.1, r1_1.2), rfl, Hp.sublist hw (.cons _ (.cons_cons _ (.cons _ .slnil)))⟩)

set_option maxRecDepth 4000 in
set_option maxHeartbeats 1000000 in
theorem spec_l6Give_ok (w0 w : World) (fr : List Ck) (vm : Value) (um : List Value) (m : List (List Int)) (hw : Hp w0 (tabI 34 3 vm um m :: fr) w)  :
    Calls Try.prog 63 ([(.agg #[vm])] : List Value).toArray w (fun e w' => ∃ i : Value × List Value, e = .returned (.tuple #[(.agg #[i.1]), (.bool ((F_spec_l6Give m).2))]) ∧ Hp w0 ([tabI 34 3 i.1 i.2 ((F_spec_l6Give m).1)] ++ fr) w') := by
  obtain ⟨rz, hF⟩ : ∃ rz, (F_spec_l6Give m) = rz := ⟨_, rfl⟩
  rw [hF]
  unfold F_spec_l6Give at hF
  have hlen_m : m.length ≤ 9223372036854775807 := (hw.get 0 rfl).maxn
  refine calls_tcm Try.func63 rfl rfl rfl hw ?_
  change TC _ _ _ _ (Hp w0 ([tabI 34 3 vm um m] ++ fr)) [(0, (.agg #[vm]))]
  refine TC.seq ?_
  refine TC.region ?_
  refine TL.box (ev_t rfl) rfl (fun g0_0 => ?_)
  refine TL.alloc (u := (.agg #[(.slice none 0 0)])) (by kernel_rfl) rfl (fun g0_1 => ?_)
  refine TL.op (yq (y_assign ev_c)) rfl rfl rfl ?_
  refine TL.nil ?_
  refine TN.seq ?_
  refine TC.seq ?_
  refine TC.seq ?_
  refine TC.region ?_
  refine TL.op (yq (y_ldagg (cs := [vm]) 1 (ev_t rfl) agg_45 rfl)) rfl rfl rfl ?_
  refine TL.op (y_call (vs := [(.agg #[vm])]) (v := (.bool (F_spec_l6Good m))) en_98 ⟨(ev_t rfl), trivial⟩ (fun w hw => spec_l6Good_ok w vm um m ((rii_tab 2 rfl) w hw))) rfl rfl rfl ?_
  refine TL.op (yq (y_not (ev_t rfl))) rfl rfl rfl ?_
  refine TL.nil ?_
  refine TN.seq ?_
  refine TC.cond (b := !(F_spec_l6Good m)) (ev_t rfl) (fun h3 => ?_) (fun h3 => ?_)
  · rw [bif_pos h3] at hF
    have q4 := (not_t h3)
    refine TC.seq ?_
    refine TC.region ?_
    refine TL.op (yq (y_bld0 bd_45_0)) rfl rfl rfl ?_
    refine TL.storeAgg (cs := [(.slice none 0 0)]) (us := [(.slice none 0 0)]) 0 (ev_t rfl) (ev_t rfl) agg_45 rfl rfl (fun w hw => (ocs_cons rfl ocs_nil)) ?_
    refine TL.op (yq (y_assign ev_c)) rfl rfl rfl ?_
    refine TL.nil ?_
    refine TN.seq ?_
    refine TC.ret ?_
    refine TN.thenR ?_
    subst hF
    refine TN.cls (fun w hw => hw.nilTab 34 3) ?_
    exact TN.retCT (cs := [(.slice none 0 0)]) 1 (by simp) rfl (ev_t rfl) (ev_t rfl) agg_45 rfl (fun w' hw => ⟨((.slice none 0 0), []), rfl, Hp.sublist hw (.cons_cons _ (.cons _ (.cons _ (.cons _ (List.Sublist.refl _)))))⟩)
  · rw [bif_neg h3] at hF
    have q4 := (l6Good_t (not_f h3))
    refine TC.skip ?_
    refine TN.seq ?_
    refine TC.seq ?_
    refine TC.region ?_
    refine TL.op (yq (y_ldagg (cs := [vm]) 1 (ev_t rfl) agg_45 rfl)) rfl rfl rfl ?_
    refine TL.storeAgg (cs := [(.slice none 0 0)]) (us := [vm]) 0 (ev_t rfl) (ev_t rfl) agg_45 rfl rfl (fun w hw => (ocs_cons (ln_one ((fun w hw => ((rii_tab 2 rfl) w hw).1) w hw).ln) ocs_nil)) ?_
    refine TL.op (yq (y_assign ev_c)) rfl rfl rfl ?_
    refine TL.nil ?_
    refine TN.seq ?_
    refine TC.ret ?_
    subst hF
    exact TN.retCT (cs := [vm]) 0 (by simp) rfl (ev_t rfl) (ev_t rfl) agg_45 rfl (fun w' hw => ⟨(vm, um), rfl, Hp.sublist hw (.cons _ (.cons _ (.cons_cons _ (List.Sublist.refl _))))⟩)

set_option maxRecDepth 4000 in
set_option maxHeartbeats 1000000 in
theorem spec_ClosedMetric_ok (w : World) (vm : Value) (um : List Value) (m : List (List Int)) (hm : RII w vm um m)  :
    Calls Try.prog 27 ([(.agg #[vm])] : List Value).toArray w (fun e w' => ∃ i : Value × List Value, e = .returned (.tuple #[(.agg #[i.1]), (.bool ((F_spec_ClosedMetric m).2))]) ∧ Hp w [tabI 34 3 i.1 i.2 ((F_spec_ClosedMetric m).1)] w') := by
  obtain ⟨rz, hF⟩ : ∃ rz, (F_spec_ClosedMetric m) = rz := ⟨_, rfl⟩
  rw [hF]
  unfold F_spec_ClosedMetric at hF
  have hlen_m := argT_len hm
  refine calls_tc Try.func27 rfl rfl rfl ?_
  change TC _ _ _ _ (Hp w []) [(0, (.agg #[vm]))]
  refine TC.seq ?_
  refine TC.region ?_
  refine TL.box (ev_t rfl) rfl (fun g0_0 => ?_)
  refine TL.alloc (u := (.agg #[(.slice none 0 0)])) (by kernel_rfl) rfl (fun g0_1 => ?_)
  refine TL.op (yq (y_assign ev_c)) rfl rfl rfl ?_
  refine TL.nil ?_
  refine TN.seq ?_
  refine TC.seq ?_
  refine TC.seq ?_
  refine TC.region ?_
  refine TL.op (yq (y_ldagg (cs := [vm]) 1 (ev_t rfl) agg_45 rfl)) rfl rfl rfl ?_
  refine TL.op (y_call (vs := [(.agg #[vm]), (.bool true)]) (v := (.bool (F_spec_l6Table m true))) en_62 ⟨(ev_t rfl), ev_c, trivial⟩ (fun w hw => spec_l6Table_ok w vm um m ((rii_arg hm) w hw) true)) rfl rfl rfl ?_
  refine TL.op (yq (y_not (ev_t rfl))) rfl rfl rfl ?_
  refine TL.nil ?_
  refine TN.seq ?_
  refine TC.cond (b := !(F_spec_l6Table m true)) (ev_t rfl) (fun h3 => ?_) (fun h3 => ?_)
  · rw [bif_pos h3] at hF
    have q4 := (not_t h3)
    refine TC.seq ?_
    refine TC.region ?_
    refine TL.op (yq (y_bld0 bd_45_0)) rfl rfl rfl ?_
    refine TL.storeAgg (cs := [(.slice none 0 0)]) (us := [(.slice none 0 0)]) 0 (ev_t rfl) (ev_t rfl) agg_45 rfl rfl (fun w hw => (ocs_cons rfl ocs_nil)) ?_
    refine TL.op (yq (y_assign ev_c)) rfl rfl rfl ?_
    refine TL.nil ?_
    refine TN.seq ?_
    refine TC.ret ?_
    refine TN.thenR ?_
    subst hF
    refine TN.cls (fun w hw => hw.nilTab 34 3) ?_
    exact TN.retCT (cs := [(.slice none 0 0)]) 1 (by simp) rfl (ev_t rfl) (ev_t rfl) agg_45 rfl (fun w' hw => ⟨((.slice none 0 0), []), rfl, Hp.sublist hw (.cons_cons _ (.cons _ (.cons _ .slnil)))⟩)
  · rw [bif_neg h3] at hF
    have q4 := (l6Table_t (not_f h3))
    have hTP : TabP true m := (l6Table_iff m true).1 (by simpa using (by assumption : (!F_spec_l6Table m true) = false))
    refine TC.skip ?_
    refine TN.seq ?_
    refine TC.seq ?_
    refine TC.region ?_
    refine TL.op (yq (y_ldagg (cs := [vm]) 1 (ev_t rfl) agg_45 rfl)) rfl rfl rfl ?_
    refine TL.callr (ι := Value × List Value) (vs := [(.agg #[vm])]) (fun i => (.agg #[i.1])) (fun i => [tabI 34 3 i.1 i.2 (F_spec_l6Close m)]) en_64 ⟨(ev_t rfl), trivial⟩ rfl (fun w hw => spec_l6Close_ok w vm um m ((rii_arg hm) w hw) (by first | assumption | omega | grind)) (fun r3_1 => ?_)
    refine TL.callmR (ι := Value × List Value) 0 (vs := [(.agg #[r3_1.1])]) (fun i => (.tuple #[(.agg #[i.1]), (.bool ((F_spec_l6Give (F_spec_l6Close m)).2))])) (fun i => tabI 34 3 i.1 i.2 ((F_spec_l6Give (F_spec_l6Close m)).1)) en_63 ⟨(ev_t rfl), trivial⟩ rfl rfl (fun w1 _ hw => spec_l6Give_ok w w1 _ r3_1.1 r3_1.2 (F_spec_l6Close m) hw) (fun r3_2 => ?_)
    refine TL.op (yq (y_extract (ev_t rfl) rfl)) rfl rfl rfl ?_
    refine TL.op (yq (y_extract (ev_t rfl) rfl)) rfl rfl rfl ?_
    refine TL.storeAgg (cs := [(.slice none 0 0)]) (us := [r3_2.1]) 1 (ev_t rfl) (ev_t rfl) agg_45 rfl rfl (fun w hw => (ocs_cons (ln_one ((fun w hw => ((rii_tab 0 rfl) w hw).1) w hw).ln) ocs_nil)) ?_
    refine TL.op (yq (y_assign (ev_t rfl))) rfl rfl rfl ?_
    refine TL.nil ?_
    refine TN.seq ?_
    refine TC.ret ?_
    subst hF
    exact TN.retCT (cs := [r3_2.1]) 1 (by simp) rfl (ev_t rfl) (ev_t rfl) agg_45 rfl (fun w' hw => ⟨(r3_2.1, r3_2.2), rfl, Hp.sublist hw (.cons_cons _ (.cons _ (.cons _ .slnil)))⟩)

set_option maxRecDepth 4000 in
set_option maxHeartbeats 1000000 in
theorem impl_ShortestWay_ok (w : World) (vm : Value) (um : List Value) (m : List (List Int)) (hm : RII w vm um m) (x : Int) (y : Int)  :
    Calls Try.prog 29 ([(.agg #[vm]), (.int .i64 x), (.int .i64 y)] : List Value).toArray w (fun e w' => ∃ i : Value, e = .returned (.tuple #[i, (.bool ((F_impl_ShortestWay m x y).2))]) ∧ Hp w [rowI 3 i ((F_impl_ShortestWay m x y).1)] w') := by
  obtain ⟨rz, hF⟩ : ∃ rz, (F_impl_ShortestWay m x y) = rz := ⟨_, rfl⟩
  rw [hF]
  unfold F_impl_ShortestWay at hF
  have hlen_m := argT_len hm
  refine calls_tc Try.func29 rfl rfl rfl ?_
  change TC _ _ _ _ (Hp w []) [(0, (.agg #[vm])), (1, (.int .i64 x)), (2, (.int .i64 y))]
  refine TC.seq ?_
  refine TC.region ?_
  refine TL.box (ev_t rfl) rfl (fun g0_0 => ?_)
  refine TL.op (yq (y_assign ev_c)) rfl rfl rfl ?_
  refine TL.op (yq (y_assign ev_c)) rfl rfl rfl ?_
  refine TL.nil ?_
  refine TN.seq ?_
  refine TC.seq ?_
  refine TC.seq ?_
  refine TC.region ?_
  refine TL.op (yq (y_ldagg (cs := [vm]) 0 (ev_t rfl) agg_45 rfl)) rfl rfl rfl ?_
  refine TL.op (y_call (vs := [(.agg #[vm]), (.bool true)]) (v := (.bool (F_impl_Metric_isTable m true))) en_59 ⟨(ev_t rfl), ev_c, trivial⟩ (fun w hw => impl_Metric_isTable_ok w vm um m ((rii_arg hm) w hw) true)) rfl rfl rfl ?_
  refine TL.op (yq (y_not (ev_t rfl))) rfl rfl rfl ?_
  refine TL.op (yq (y_move (ev_t rfl))) rfl rfl rfl ?_
  refine TL.opw (w_f rfl rfl rfl) (fun hg => yq (y_ldagg (cs := [vm]) 0 (ev_t rfl) agg_45 rfl)) rfl rfl ?_
  refine TL.opw (w_f rfl rfl rfl) (fun hg => yq (y_move (ev_t rfl))) rfl rfl ?_
  refine TL.opw (w_f rfl rfl rfl) (fun hg => y_call (vs := [(.agg #[vm]), (.int .i64 x)]) (v := (.bool ((decide (0 ≤ x)) && (decide (x ≤ ((m.length : Int) - 1)))))) en_66 ⟨(ev_g rfl hg), (ev_g rfl hg), trivial⟩ (fun w hw => impl_Metric_isPoint_ok w vm um m ((rii_arg hm) w hw) x)) rfl rfl ?_
  refine TL.opw (w_f rfl rfl rfl) (fun hg => yq (y_not (ev_g rfl hg))) rfl rfl ?_
  refine TL.op (yq (y_or (ev_t rfl) (fun hq => (ev_g rfl hq)))) rfl rfl rfl ?_
  refine TL.op (yq (y_move (ev_t rfl))) rfl rfl rfl ?_
  refine TL.opw (w_f rfl rfl rfl) (fun hg => yq (y_ldagg (cs := [vm]) 0 (ev_t rfl) agg_45 rfl)) rfl rfl ?_
  refine TL.opw (w_f rfl rfl rfl) (fun hg => yq (y_move (ev_t rfl))) rfl rfl ?_
  refine TL.opw (w_f rfl rfl rfl) (fun hg => y_call (vs := [(.agg #[vm]), (.int .i64 y)]) (v := (.bool ((decide (0 ≤ y)) && (decide (y ≤ ((m.length : Int) - 1)))))) en_66 ⟨(ev_g rfl hg), (ev_g rfl hg), trivial⟩ (fun w hw => impl_Metric_isPoint_ok w vm um m ((rii_arg hm) w hw) y)) rfl rfl ?_
  refine TL.opw (w_f rfl rfl rfl) (fun hg => yq (y_not (ev_g rfl hg))) rfl rfl ?_
  refine TL.op (yq (y_or (ev_t rfl) (fun hq => (ev_g rfl hq)))) rfl rfl rfl ?_
  refine TL.nil ?_
  refine TN.seq ?_
  refine TC.cond (b := (((!(F_impl_Metric_isTable m true)) || (!((decide (0 ≤ x)) && (decide (x ≤ ((m.length : Int) - 1)))))) || (!((decide (0 ≤ y)) && (decide (y ≤ ((m.length : Int) - 1))))))) (ev_t rfl) (fun h30 => ?_) (fun h30 => ?_)
  · rw [bif_pos h30] at hF
    have q31 := ((or_t h30).imp (fun h => ((or_t h).imp (fun h => (not_t h)) (fun h => ((and_f (not_t h)).imp (fun h => (of_decide_eq_false h)) (fun h => (of_decide_eq_false h)))))) (fun h => ((and_f (not_t h)).imp (fun h => (of_decide_eq_false h)) (fun h => (of_decide_eq_false h)))))
    refine TC.seq ?_
    refine TC.region ?_
    refine TL.op (yq (y_assign ev_c)) rfl rfl rfl ?_
    refine TL.op (yq (y_assign ev_c)) rfl rfl rfl ?_
    refine TL.nil ?_
    refine TN.seq ?_
    refine TC.ret ?_
    refine TN.thenR ?_
    subst hF
    refine TN.cls (fun w hw => hw.nil 3 1) ?_
    exact TN.ret2 rfl (ev_t rfl) (ev_t rfl) (fun w' hw => ⟨(.slice none 0 0), rfl, Hp.sublist hw (.cons_cons _ (.cons _ .slnil))⟩)
  · rw [bif_neg h30] at hF
    have q31 := (and_imp (or_f h30) (fun h => (and_imp (or_f h) (fun h => (isTable_t (not_f h))) (fun h => (and_imp (and_t (not_f h)) (fun h => (of_decide_eq_true h)) (fun h => (of_decide_eq_true h)))))) (fun h => (and_imp (and_t (not_f h)) (fun h => (of_decide_eq_true h)) (fun h => (of_decide_eq_true h)))))
    have hT := q31.1.1
    have hTP : TabP true m := (isTable_iff m true).1 (by have hh := (by assumption : (((!(F_impl_Metric_isTable m true)) || (!((decide (0 ≤ x)) && (decide (x ≤ ((m.length : Int) - 1)))))) || (!((decide (0 ≤ y)) && (decide (y ≤ ((m.length : Int) - 1)))))) = false); simp at hh; exact hh.1.1)
    have hcs := (closed_el hTP).1
    have hcl := hcs.len
    have hcr0 := hcs.rows x.toNat
    have hfin := closed_fin hTP x.toNat y.toNat
    have hcb0 := closed_bd hTP x.toNat y.toNat
    refine TC.skip ?_
    refine TN.seq ?_
    refine TC.seq ?_
    refine TC.region ?_
    refine TL.op (yq (y_ldagg (cs := [vm]) 0 (ev_t rfl) agg_45 rfl)) rfl rfl rfl ?_
    refine TL.callr (ι := Value × List Value) (vs := [(.agg #[vm])]) (fun i => i.1) (fun i => [tabI 34 3 i.1 i.2 (F_impl_Metric_closed m)]) en_61 ⟨(ev_t rfl), trivial⟩ rfl (fun w hw => impl_Metric_closed_ok w vm um m ((rii_arg hm) w hw) (by first | assumption | omega | grind)) (fun r3_1 => ?_)
    refine TL.op (yq (y_assign (ev_t rfl))) rfl rfl rfl ?_
    refine TL.nil ?_
    refine TN.seq ?_
    refine TC.seq ?_
    refine TC.seq ?_
    refine TC.region ?_
    refine TL.op (yq (y_move (ev_t rfl))) rfl rfl rfl ?_
    refine TL.op (yq (y_move (ev_t rfl))) rfl rfl rfl ?_
    have hb33 : (x).toNat < (F_impl_Metric_closed m).length := (by first | omega | (simp only [List.length_set, List.length_append, List.length_cons, List.length_nil, List.length_replicate]; omega) | (rw [sortI_length]; simp only [List.length_cons, List.length_nil]; omega))
    refine TL.op (yq (y_idx (k := (x).toNat) (ev_t rfl) (ev_t rfl) (by first | omega | simp) slT_43 (fun w hw => ((rii_tab 0 rfl) w hw).1) hb33)) rfl rfl rfl ?_
    refine TL.op (yq (y_ldT 0 (ev_t rfl) one_34 rfl hb33)) rfl rfl rfl ?_
    refine TL.op (yq (y_move (ev_t rfl))) rfl rfl rfl ?_
    have hb34 : (y).toNat < ((F_impl_Metric_closed m).getD ((x).toNat) []).length := (by first | omega | (simp only [List.length_set, List.length_append, List.length_cons, List.length_nil, List.length_replicate]; omega) | (rw [sortI_length]; simp only [List.length_cons, List.length_nil]; omega))
    refine TL.op (yq (y_idx (k := (y).toNat) (ev_t rfl) (ev_t rfl) (by first | omega | simp) slT_34 (ri_tab 0 ((x).toNat) rfl hb33) hb34)) rfl rfl rfl ?_
    refine TL.op (yq (y_ldi (ev_t rfl) one_3 (ri_tab 0 ((x).toNat) rfl hb33) hb34)) rfl rfl rfl ?_
    refine TL.op (yq (y_geq (ev_t rfl) ev_c)) rfl rfl rfl ?_
    refine TL.nil ?_
    refine TN.seq ?_
    refine TC.cond (b := decide (1073741824 ≤ (((F_impl_Metric_closed m).getD ((x).toNat) []).getD ((y).toNat) 0))) (ev_t rfl) (fun h35 => ?_) (fun h35 => ?_)
    · rw [bif_pos h35] at hF
      have q36 := (of_decide_eq_true h35)
      refine TC.seq ?_
      refine TC.region ?_
      refine TL.op (yq (y_assign ev_c)) rfl rfl rfl ?_
      refine TL.op (yq (y_assign ev_c)) rfl rfl rfl ?_
      refine TL.nil ?_
      refine TN.seq ?_
      refine TC.ret ?_
      refine TN.thenR ?_
      subst hF
      refine TN.cls (fun w hw => hw.nil 3 1) ?_
      exact TN.ret2 rfl (ev_t rfl) (ev_t rfl) (fun w' hw => ⟨(.slice none 0 0), rfl, Hp.sublist hw (.cons_cons _ (.cons _ (.cons _ .slnil)))⟩)
    · rw [bif_neg h35] at hF
      have q36 := (of_decide_eq_false h35)
      refine TC.skip ?_
      refine TN.seq ?_
      refine TC.seq ?_
      refine TC.region ?_
      refine TL.op (yq (y_move (ev_t rfl))) rfl rfl rfl ?_
      refine TL.buildI (zs := [.tmp 37]) (qs := [x]) slT_34 rfl ⟨(ev_t rfl), trivial⟩ rfl (by decide) rfl (fun v6_1 => ?_)
      refine TL.op (yq (y_assign (ev_t rfl))) rfl rfl rfl ?_
      refine TL.nil ?_
      refine TN.seq ?_
      refine TC.seq ?_
      refine TC.block ?_
      obtain ⟨c38, hc39⟩ : ∃ c, F_impl_ShortestWay_L1 m y (((((F_impl_Metric_closed m).getD x.toNat []).getD y.toNat 0).toNat) + 1) (x, ([x])) = c := ⟨_, rfl⟩
      rw [hc39] at hF
      refine TC.loop (ι := Nat × Int × List Int × Value) (fun (fu1, k1_1, k9_1, vk9_1) => [(1, (.int .i64 k1_1)), (2, (.int .i64 y)), (3, (.pointer (some ⟨g0_0, 0, none⟩))), (8, r3_1.1), (9, vk9_1)]) (fun (fu1, k1_1, k9_1, vk9_1) => Hp w [rowI 3 vk9_1 k9_1, tabI 34 3 r3_1.1 r3_1.2 (F_impl_Metric_closed m), .blk g0_0 45 [vm]]) (fun (fu1, k1_1, k9_1, vk9_1) => (0 ≤ k1_1) ∧ (k1_1 < m.length) ∧ ((((F_impl_Metric_closed m).getD k1_1.toNat []).getD y.toNat 0) < 1073741824) ∧ (k9_1.length + (((F_impl_Metric_closed m).getD k1_1.toNat []).getD y.toNat 0).toNat ≤ 7000) ∧ (((F_impl_Metric_closed m).getD k1_1.toNat []).getD y.toNat 0).toNat < fu1 ∧ F_impl_ShortestWay_L1 m y fu1 (k1_1, k9_1) = c38) (fun (fu1, k1_1, k9_1, vk9_1) => fu1) (((((F_impl_Metric_closed m).getD x.toNat []).getD y.toNat 0).toNat) + 1, x, [x], v6_1) ⟨(by first | omega | (simp [-List.getD_eq_getElem?_getD] <;> omega)), (by first | omega | (simp [-List.getD_eq_getElem?_getD] <;> omega)), (by first | omega | (simp [-List.getD_eq_getElem?_getD] <;> omega)), (by first | omega | (simp [-List.getD_eq_getElem?_getD] <;> omega)), (by omega), hc39⟩ ⟨rfl, rfl, rfl, rfl, rfl, trivial⟩ (fun w hw => hw) ?_
      rintro ⟨fu1, k1_1, k9_1, vk9_1⟩ hJ1
      obtain ⟨hi1_0, hi1_1, hi1_2, hi1_3, hmu1, hL1⟩ : (0 ≤ k1_1) ∧ (k1_1 < m.length) ∧ ((((F_impl_Metric_closed m).getD k1_1.toNat []).getD y.toNat 0) < 1073741824) ∧ (k9_1.length + (((F_impl_Metric_closed m).getD k1_1.toNat []).getD y.toNat 0).toNat ≤ 7000) ∧ (((F_impl_Metric_closed m).getD k1_1.toNat []).getD y.toNat 0).toNat < fu1 ∧ F_impl_ShortestWay_L1 m y fu1 (k1_1, k9_1) = c38 := hJ1
      change TC _ _ _ _ (Hp w [rowI 3 vk9_1 k9_1, tabI 34 3 r3_1.1 r3_1.2 (F_impl_Metric_closed m), .blk g0_0 45 [vm]]) [(1, (.int .i64 k1_1)), (2, (.int .i64 y)), (3, (.pointer (some ⟨g0_0, 0, none⟩))), (8, r3_1.1), (9, vk9_1)]
      obtain ⟨mf1, rfl⟩ : ∃ m, fu1 = m + 1 := ⟨fu1 - 1, by omega⟩
      rw [F_impl_ShortestWay_L1_s] at hL1
      have hcr := hcs.rows k1_1.toNat
      have hrw := hT.rows k1_1.toNat
      have hcb1 := closed_bd hTP k1_1.toNat y.toNat
      refine TC.seq ?_
      refine TC.seq ?_
      refine TC.region ?_
      refine TL.op (yq (y_move (ev_t rfl))) rfl rfl rfl ?_
      refine TL.op (yq (y_move (ev_t rfl))) rfl rfl rfl ?_
      refine TL.op (yq (y_neq (ev_t rfl) (ev_t rfl))) rfl rfl rfl ?_
      refine TL.nil ?_
      refine TN.seq ?_
      refine TC.cond (b := !decide (k1_1 = y)) (ev_t rfl) (fun h40 => ?_) (fun h40 => ?_)
      · rw [bif_pos h40] at hL1
        have q41 := (of_decide_eq_false (not_t h40))
        refine TC.skip ?_
        refine TN.seq ?_
        refine TC.block ?_
        refine TC.seq ?_
        refine TC.seq ?_
        refine TC.region ?_
        refine TL.op (yq (y_fa (fa_45_0 g0_0) (ev_t rfl))) rfl rfl rfl ?_
        refine TL.op (yq (y_ldb 2 (ev_t rfl) one_43 rfl rfl)) rfl rfl rfl ?_
        refine TL.op (yq (y_move (ev_t rfl))) rfl rfl rfl ?_
        have hb42 : (k1_1).toNat < m.length := (by first | omega | (simp only [List.length_set, List.length_append, List.length_cons, List.length_nil, List.length_replicate]; omega) | (rw [sortI_length]; simp only [List.length_cons, List.length_nil]; omega))
        refine TL.op (yq (y_idx (k := (k1_1).toNat) (ev_t rfl) (ev_t rfl) (by first | omega | simp) slT_43 (fun w hw => ((rii_arg hm) w hw).1) hb42)) rfl rfl rfl ?_
        have ha43 := hm.row (i := (k1_1).toNat) hb42
        refine TL.op (yq (y_ldA (ev_t rfl) one_34 (rii_arg hm) hb42)) rfl rfl rfl ?_
        refine TL.op (yq (y_len (ev_t rfl) Try.underlying34 (fun w hw => ((ri_arg ha43) w hw).ln))) rfl rfl rfl ?_
        refine TL.op (yq (y_move ev_c)) rfl rfl rfl ?_
        refine TL.nil ?_
        refine TN.seq ?_
        refine TC.block ?_
        obtain ⟨c44, hc45⟩ : ∃ c, F_impl_ShortestWay_L2 m y k1_1 ((((m.getD ((k1_1).toNat) []).length) - 0) + 1) (k1_1, 0) = c := ⟨_, rfl⟩
        rw [hc45] at hL1
        refine TC.loop (ι := Nat × Int × Nat) (fun (fu2, k1_2, k48_2) => [(1, (.int .i64 k1_2)), (2, (.int .i64 y)), (3, (.pointer (some ⟨g0_0, 0, none⟩))), (8, r3_1.1), (9, vk9_1), (46, (um.getD ((k1_1).toNat) undef)), (47, (.int .i64 ((m.getD ((k1_1).toNat) []).length : Int))), (48, (.int .i64 (k48_2 : Int)))]) (fun (fu2, k1_2, k48_2) => Hp w [rowI 3 vk9_1 k9_1, tabI 34 3 r3_1.1 r3_1.2 (F_impl_Metric_closed m), .blk g0_0 45 [vm]]) (fun (fu2, k1_2, k48_2) => (k48_2 ≤ ((m.getD ((k1_1).toNat) []).length)) ∧ (k1_2 = k1_1) ∧ (∀ j, j < k48_2 → ¬ tight m y k1_1 j) ∧ ((m.getD ((k1_1).toNat) []).length) - k48_2 < fu2 ∧ F_impl_ShortestWay_L2 m y k1_1 fu2 (k1_2, k48_2) = c44) (fun (fu2, k1_2, k48_2) => fu2) ((((m.getD ((k1_1).toNat) []).length) - 0) + 1, k1_1, 0) ⟨(by first | omega | (simp [-List.getD_eq_getElem?_getD] <;> omega)), (by first | omega | (simp [-List.getD_eq_getElem?_getD] <;> omega)), (fun j hj => by omega), (by omega), hc45⟩ ⟨rfl, rfl, rfl, rfl, rfl, rfl, rfl, rfl, trivial⟩ (fun w hw => hw) ?_
        rintro ⟨fu2, k1_2, k48_2⟩ hJ2
        obtain ⟨hi2_0, hi2_1, hi2_2, hmu2, hL2⟩ : (k48_2 ≤ ((m.getD ((k1_1).toNat) []).length)) ∧ (k1_2 = k1_1) ∧ (∀ j, j < k48_2 → ¬ tight m y k1_1 j) ∧ ((m.getD ((k1_1).toNat) []).length) - k48_2 < fu2 ∧ F_impl_ShortestWay_L2 m y k1_1 fu2 (k1_2, k48_2) = c44 := hJ2
        change TC _ _ _ _ (Hp w [rowI 3 vk9_1 k9_1, tabI 34 3 r3_1.1 r3_1.2 (F_impl_Metric_closed m), .blk g0_0 45 [vm]]) [(1, (.int .i64 k1_2)), (2, (.int .i64 y)), (3, (.pointer (some ⟨g0_0, 0, none⟩))), (8, r3_1.1), (9, vk9_1), (46, (um.getD ((k1_1).toNat) undef)), (47, (.int .i64 ((m.getD ((k1_1).toNat) []).length : Int))), (48, (.int .i64 (k48_2 : Int)))]
        obtain ⟨mf2, rfl⟩ : ∃ m, fu2 = m + 1 := ⟨fu2 - 1, by omega⟩
        rw [F_impl_ShortestWay_L2_s] at hL2
        have hcr2 := hcs.rows k1_2.toNat
        have hcb2 := closed_bd hTP k1_2.toNat y.toNat
        have hcz := hcs.rows k48_2
        have hcb := closed_bd hTP k48_2 y.toNat
        have hme := hT.el k1_1.toNat k48_2
        refine TC.seq ?_
        refine TC.region ?_
        refine TL.op (yq (y_lss (ev_t rfl) (ev_t rfl))) rfl rfl rfl ?_
        refine TL.nil ?_
        refine TN.seq ?_
        refine TC.seq ?_
        refine TC.cond (b := decide ((k48_2 : Int) < ((m.getD ((k1_1).toNat) []).length : Int))) (ev_t rfl) (fun h46 => ?_) (fun h46 => ?_)
        · rw [bif_pos h46] at hL2
          have q47 := (of_decide_eq_true h46)
          refine TC.skip ?_
          refine TN.seq ?_
          refine TC.seq ?_
          refine TC.block ?_
          refine TC.seq ?_
          refine TC.region ?_
          refine TL.op (yq (y_move (ev_t rfl))) rfl rfl rfl ?_
          have hb48 : k48_2 < (m.getD ((k1_1).toNat) []).length := (by first | omega | (simp only [List.length_set, List.length_append, List.length_cons, List.length_nil, List.length_replicate]; omega) | (rw [sortI_length]; simp only [List.length_cons, List.length_nil]; omega))
          refine TL.op (yq (y_idx (k := k48_2) (ev_t rfl) (ev_t rfl) (by first | omega | simp) slT_34 (ri_arg ha43) hb48)) rfl rfl rfl ?_
          refine TL.op (yq (y_ldi (ev_t rfl) one_3 (ri_arg ha43) hb48)) rfl rfl rfl ?_
          refine TL.op (yq (y_assign (ev_t rfl))) rfl rfl rfl ?_
          refine TL.op (yq (y_assign (ev_t rfl))) rfl rfl rfl ?_
          refine TL.nil ?_
          refine TN.seq ?_
          refine TC.seq ?_
          refine TC.regionQ (by kernel_rfl) (by kernel_rfl) dr_hp ?_
          refine TQ.op (yq (y_move (ev_t rfl))) rfl rfl rfl ?_
          refine TQ.op (yq (y_move (ev_t rfl))) rfl rfl rfl ?_
          refine TQ.op (yq (y_neq (ev_t rfl) (ev_t rfl))) rfl rfl rfl ?_
          refine TQ.op (yq (y_move (ev_t rfl))) rfl rfl rfl ?_
          refine TQ.opw (w_t rfl rfl rfl) (fun hg => yq (y_move (ev_t rfl))) rfl rfl ?_
          refine TQ.opw (w_t rfl rfl rfl) (fun hg => yq (y_gtr (ev_g rfl hg) ev_c)) rfl rfl ?_
          refine TQ.op (yq (y_and (ev_t rfl) (fun hq => (ev_g rfl hq)))) rfl rfl rfl ?_
          refine TQ.op (yq (y_move (ev_t rfl))) rfl rfl rfl ?_
          refine TQ.opw (w_t rfl rfl rfl) (fun hg => yq (y_move (ev_t rfl))) rfl rfl ?_
          refine TQ.opw (w_t rfl rfl rfl) (fun hg => yq (y_move (ev_t rfl))) rfl rfl ?_
          refine TQ.opw (w_t rfl rfl rfl) (fun hg => yq (y_move (ev_t rfl))) rfl rfl ?_
          refine TQ.opw (w_t rfl rfl rfl) (fun hg => yq (y_idx (k := k48_2) (ev_g rfl hg) (ev_g rfl hg) (by first | omega | simp) slT_43 (fun w hw => ((rii_tab 1 rfl) w hw).1) (show k48_2 < (F_impl_Metric_closed m).length by have hgf := (and_imp (and_t hg) (fun h => (of_decide_eq_false (not_t h))) (fun h => (of_decide_eq_true h))); omega))) rfl rfl ?_
          refine TQ.opw (w_t rfl rfl rfl) (fun hg => yq (y_ldT 1 (ev_g rfl hg) one_34 rfl (show k48_2 < (F_impl_Metric_closed m).length by have hgf := (and_imp (and_t hg) (fun h => (of_decide_eq_false (not_t h))) (fun h => (of_decide_eq_true h))); omega))) rfl rfl ?_
          refine TQ.opw (w_t rfl rfl rfl) (fun hg => yq (y_move (ev_t rfl))) rfl rfl ?_
          refine TQ.opw (w_t rfl rfl rfl) (fun hg => yq (y_idx (k := (y).toNat) (ev_g rfl hg) (ev_g rfl hg) (by first | omega | simp) slT_34 (ri_tab 1 k48_2 rfl (show k48_2 < (F_impl_Metric_closed m).length by have hgf := (and_imp (and_t hg) (fun h => (of_decide_eq_false (not_t h))) (fun h => (of_decide_eq_true h))); omega)) (show (y).toNat < ((F_impl_Metric_closed m).getD k48_2 []).length by have hgf := (and_imp (and_t hg) (fun h => (of_decide_eq_false (not_t h))) (fun h => (of_decide_eq_true h))); omega))) rfl rfl ?_
          refine TQ.opw (w_t rfl rfl rfl) (fun hg => yq (y_ldi (ev_g rfl hg) one_3 (ri_tab 1 k48_2 rfl (show k48_2 < (F_impl_Metric_closed m).length by have hgf := (and_imp (and_t hg) (fun h => (of_decide_eq_false (not_t h))) (fun h => (of_decide_eq_true h))); omega)) (show (y).toNat < ((F_impl_Metric_closed m).getD k48_2 []).length by have hgf := (and_imp (and_t hg) (fun h => (of_decide_eq_false (not_t h))) (fun h => (of_decide_eq_true h))); omega))) rfl rfl ?_
          refine TQ.opw (w_t rfl rfl rfl) (fun hg => yq (y_add (ev_g rfl hg) (ev_g rfl hg) (by unfold In64; omega))) rfl rfl ?_
          refine TQ.opw (w_t rfl rfl rfl) (fun hg => yq (y_move (ev_t rfl))) rfl rfl ?_
          refine TQ.opw (w_t rfl rfl rfl) (fun hg => yq (y_move (ev_t rfl))) rfl rfl ?_
          refine TQ.opw (w_t rfl rfl rfl) (fun hg => yq (y_idx (k := (k1_2).toNat) (ev_g rfl hg) (ev_g rfl hg) (by first | omega | simp) slT_43 (fun w hw => ((rii_tab 1 rfl) w hw).1) (show (k1_2).toNat < (F_impl_Metric_closed m).length by have hgf := (and_imp (and_t hg) (fun h => (of_decide_eq_false (not_t h))) (fun h => (of_decide_eq_true h))); omega))) rfl rfl ?_
          refine TQ.opw (w_t rfl rfl rfl) (fun hg => yq (y_ldT 1 (ev_g rfl hg) one_34 rfl (show (k1_2).toNat < (F_impl_Metric_closed m).length by have hgf := (and_imp (and_t hg) (fun h => (of_decide_eq_false (not_t h))) (fun h => (of_decide_eq_true h))); omega))) rfl rfl ?_
          refine TQ.opw (w_t rfl rfl rfl) (fun hg => yq (y_move (ev_t rfl))) rfl rfl ?_
          refine TQ.opw (w_t rfl rfl rfl) (fun hg => yq (y_idx (k := (y).toNat) (ev_g rfl hg) (ev_g rfl hg) (by first | omega | simp) slT_34 (ri_tab 1 ((k1_2).toNat) rfl (show (k1_2).toNat < (F_impl_Metric_closed m).length by have hgf := (and_imp (and_t hg) (fun h => (of_decide_eq_false (not_t h))) (fun h => (of_decide_eq_true h))); omega)) (show (y).toNat < ((F_impl_Metric_closed m).getD ((k1_2).toNat) []).length by have hgf := (and_imp (and_t hg) (fun h => (of_decide_eq_false (not_t h))) (fun h => (of_decide_eq_true h))); omega))) rfl rfl ?_
          refine TQ.opw (w_t rfl rfl rfl) (fun hg => yq (y_ldi (ev_g rfl hg) one_3 (ri_tab 1 ((k1_2).toNat) rfl (show (k1_2).toNat < (F_impl_Metric_closed m).length by have hgf := (and_imp (and_t hg) (fun h => (of_decide_eq_false (not_t h))) (fun h => (of_decide_eq_true h))); omega)) (show (y).toNat < ((F_impl_Metric_closed m).getD ((k1_2).toNat) []).length by have hgf := (and_imp (and_t hg) (fun h => (of_decide_eq_false (not_t h))) (fun h => (of_decide_eq_true h))); omega))) rfl rfl ?_
          refine TQ.opw (w_t rfl rfl rfl) (fun hg => yq (y_eql (ev_g rfl hg) (ev_g rfl hg))) rfl rfl ?_
          refine TQ.op (yq (y_and (ev_t rfl) (fun hq => (ev_g rfl hq)))) rfl rfl rfl ?_
          refine TQ.nil ?_
          refine TN.seq ?_
          refine TC.cond (b := (((!decide ((k48_2 : Int) = k1_2)) && (decide (0 < ((m.getD ((k1_1).toNat) []).getD k48_2 0)))) && (decide (((m.getD ((k1_1).toNat) []).getD k48_2 0) + (((F_impl_Metric_closed m).getD k48_2 []).getD ((y).toNat) 0) = (((F_impl_Metric_closed m).getD ((k1_2).toNat) []).getD ((y).toNat) 0))))) (ev_t rfl) (fun h49 => ?_) (fun h49 => ?_)
          · rw [bif_pos h49] at hL2
            have q50 := (and_imp (and_t h49) (fun h => (and_imp (and_t h) (fun h => (of_decide_eq_false (not_t h))) (fun h => (of_decide_eq_true h)))) (fun h => (of_decide_eq_true h)))
            have htt := is_tight (m := m) (y := y) (x := k1_1) (x2 := k1_2) (k := k48_2) hi2_1 (by assumption)
            have hst := tight_step hTP htt
            have hkz : ((F_impl_Metric_closed m).getD ((k48_2 : Int)).toNat []).getD y.toNat 0 = ((F_impl_Metric_closed m).getD k48_2 []).getD y.toNat 0 := rfl
            refine TC.seq ?_
            refine TC.region ?_
            refine TL.op (yq (y_move (ev_t rfl))) rfl rfl rfl ?_
            refine TL.op (yq (y_assign (ev_t rfl))) rfl rfl rfl ?_
            refine TL.nil ?_
            refine TN.seq ?_
            refine TC.exit ?_
            refine TN.blockM rfl ?_
            refine TN.thenE ?_
            refine TN.thenE ?_
            rw [← hL2, elim_next] at hL1
            try dsimp only at hL1
            refine TN.blockH ?_
            refine TN.seq ?_
            refine TC.region ?_
            refine TL.op (yq (y_move (ev_t rfl))) rfl rfl rfl ?_
            refine TL.op (yq (y_move (ev_t rfl))) rfl rfl rfl ?_
            refine TL.buildI (zs := [.tmp 82]) (qs := [(k48_2 : Int)]) slT_34 rfl ⟨(ev_t rfl), trivial⟩ rfl (by decide) rfl (fun v14_2 => ?_)
            refine TL.appendI 1 (ev_t rfl) (ev_t rfl) rfl slT_34 (ri_row 0 rfl) (by first | omega | (simp [-List.getD_eq_getElem?_getD] <;> omega)) rfl (fun v14_3 => ?_)
            refine TL.op (yq (y_assign (ev_t rfl))) rfl rfl rfl ?_
            refine TL.nil ?_
            refine TN.blockN ?_
            exact TN.hand (mf1, (k48_2 : Int), (k9_1 ++ ([(k48_2 : Int)])), v14_3) ⟨(by first | omega | (simp [-List.getD_eq_getElem?_getD] <;> omega)), (by first | omega | (simp [-List.getD_eq_getElem?_getD] <;> omega)), (by first | omega | (simp [-List.getD_eq_getElem?_getD] <;> omega)), (by first | omega | (simp [-List.getD_eq_getElem?_getD] <;> omega)), (by omega), hL1⟩ (Nat.lt_succ_self _) ⟨rfl, rfl, rfl, rfl, rfl, trivial⟩ (fun w hw => Hp.sublist hw (.cons _ (.cons_cons _ (.cons_cons _ (.cons_cons _ .slnil)))))
          · rw [bif_neg h49] at hL2
            have q50 := ((and_f h49).imp (fun h => ((and_f h).imp (fun h => (of_decide_eq_true (not_f h))) (fun h => (of_decide_eq_false h)))) (fun h => (of_decide_eq_false h)))
            have hnt := not_tight (m := m) (y := y) (x := k1_1) (x2 := k1_2) (k := k48_2) hi2_1 (by assumption)
            refine TC.skip ?_
            refine TN.blockN ?_
            refine TN.seq ?_
            refine TC.region ?_
            refine TL.op (yq (y_add (ev_t rfl) ev_c (by unfold In64; omega))) rfl rfl rfl ?_
            refine TL.op (yq (y_move (ev_t rfl))) rfl rfl rfl ?_
            refine TL.nil ?_
            exact TN.hand (mf2, k1_2, (k48_2 + 1)) ⟨(by first | omega | (simp [-List.getD_eq_getElem?_getD] <;> omega)), (by first | omega | (simp [-List.getD_eq_getElem?_getD] <;> omega)), (upto_succ hi2_2 hnt), (by omega), hL2⟩ (Nat.lt_succ_self _) ⟨rfl, rfl, rfl, rfl, rfl, rfl, rfl, rfl, trivial⟩ (fun w hw => hw)
        · rw [bif_neg h46] at hL2
          have q47 := (of_decide_eq_false h46)
          have hF := tight_none hTP (x := k1_1) (y := y) (by omega) (by omega) (by assumption) hi1_2 (k := k48_2) (by omega) hi2_2
          refine TC.exit ?_
          refine TN.thenE ?_
          refine TN.thenE ?_
          rw [← hL2, elim_next] at hL1
          try dsimp only at hL1
          refine TN.blockH ?_
          refine TN.seq ?_
          refine TC.region ?_
          refine TL.op (yq (y_move (ev_t rfl))) rfl rfl rfl ?_
          refine TL.op (yq (y_move (ev_t rfl))) rfl rfl rfl ?_
          refine TL.buildI (zs := [.tmp 82]) (qs := [k1_2]) slT_34 rfl ⟨(ev_t rfl), trivial⟩ rfl (by decide) rfl (fun v14_2 => ?_)
          refine TL.appendI 1 (ev_t rfl) (ev_t rfl) rfl slT_34 (ri_row 0 rfl) (by first | omega | (simp [-List.getD_eq_getElem?_getD] <;> omega)) rfl (fun v14_3 => ?_)
          refine TL.op (yq (y_assign (ev_t rfl))) rfl rfl rfl ?_
          refine TL.nil ?_
          refine TN.blockN ?_
          exact TN.hand (mf1, k1_2, (k9_1 ++ ([k1_2])), v14_3) ⟨(by first | omega | (simp [-List.getD_eq_getElem?_getD] <;> omega)), (by first | omega | (simp [-List.getD_eq_getElem?_getD] <;> omega)), (by first | omega | (simp [-List.getD_eq_getElem?_getD] <;> omega)), (by first | omega | (simp [-List.getD_eq_getElem?_getD] <;> omega)), (by omega), hL1⟩ (Nat.lt_succ_self _) ⟨rfl, rfl, rfl, rfl, rfl, trivial⟩ (fun w hw => Hp.sublist hw (.cons _ (.cons_cons _ (.cons_cons _ (.cons_cons _ .slnil)))))
      · rw [bif_neg h40] at hL1
        have q41 := (of_decide_eq_true (not_f h40))
        refine TC.exit ?_
        refine TN.thenE ?_
        refine TN.thenE ?_
        rw [← hL1, elim_next] at hF
        try dsimp only at hF
        refine TN.blockH ?_
        refine TN.seq ?_
        refine TC.seq ?_
        refine TC.region ?_
        refine TL.op (yq (y_move (ev_t rfl))) rfl rfl rfl ?_
        refine TL.op (yq (y_assign (ev_t rfl))) rfl rfl rfl ?_
        refine TL.op (yq (y_assign ev_c)) rfl rfl rfl ?_
        refine TL.nil ?_
        refine TN.seq ?_
        refine TC.ret ?_
        subst hF
        exact TN.ret2 rfl (ev_t rfl) (ev_t rfl) (fun w' hw => ⟨vk9_1, rfl, Hp.sublist hw (.cons_cons _ (.cons _ (.cons _ .slnil)))⟩)

end Go.Proofs.Ytfhhfhiooehlcaa
