/-
  Walks of functions of the program: each computes its plain function. No condition but the bounds that are typed.
-/
import Derived.Test.YtfhhfhiooehlcaaM2
namespace Go.Proofs.Ytfhhfhiooehlcaa
open Go Go.RowKit
set_option linter.unusedVariables false

set_option maxRecDepth 4000 in
set_option maxHeartbeats 1000000 in
theorem impl_metricBy_ok (w : World) (n : Int) (kdst : Nat) (cdst : List Value) (dst : Int → Int → Int) (edst : En Try.prog kdst) (hdst : ∀ (w' : World) (_ : Below w.heap.size w w') (x0 : Int) (x1 : Int), 0 ≤ x0 ∧ x0 < n ∧ 0 ≤ x1 ∧ x1 < n → Calls Try.prog kdst ([(.int .i64 x0), (.int .i64 x1)] ++ cdst : List Value).toArray w' (Ret (.int .i64 (dst x0 x1)) (Hp w' []))) (hp0 : n ≤ 1000000) :
    Calls Try.prog 72 ([(.int .i64 n), (.func (.func kdst) #[] cdst.toArray)] : List Value).toArray w (fun e w' => ∃ i : Value × List Value, e = .returned (.tuple #[(.agg #[i.1]), (.bool ((F_impl_metricBy n dst).2))]) ∧ Hp w [tabI 34 3 i.1 i.2 ((F_impl_metricBy n dst).1)] w') := by
  obtain ⟨rz, hF⟩ : ∃ rz, (F_impl_metricBy n dst) = rz := ⟨_, rfl⟩
  rw [hF]
  unfold F_impl_metricBy at hF
  refine calls_tc Try.func72 rfl rfl rfl ?_
  change TC _ _ _ _ (Hp w []) [(0, (.int .i64 n)), (1, (.func (.func kdst) #[] cdst.toArray))]
  refine TC.seq ?_
  refine TC.region ?_
  refine TL.alloc (u := (.agg #[(.slice none 0 0)])) (by kernel_rfl) rfl (fun g0_0 => ?_)
  refine TL.op (yq (y_assign ev_c)) rfl rfl rfl ?_
  refine TL.nil ?_
  refine TN.seq ?_
  refine TC.seq ?_
  refine TC.region ?_
  refine TL.buildSlice (zs := []) (vs := []) slT_43 rfl trivial (by simp) rfl (by decide) rfl (fun v1_0 => ?_)
  refine TL.cls (fun w hw => hw.emptyTab 3) ?_
  refine TL.op (yq (y_assign (ev_t rfl))) rfl rfl rfl ?_
  refine TL.nil ?_
  refine TN.seq ?_
  refine TC.seq ?_
  refine TC.seq ?_
  refine TC.region ?_
  refine TL.op (yq (y_move (ev_t rfl))) rfl rfl rfl ?_
  refine TL.op (yq (y_move ev_c)) rfl rfl rfl ?_
  refine TL.nil ?_
  refine TN.seq ?_
  refine TC.block ?_
  obtain ⟨c17, hc18⟩ : ∃ c, F_impl_metricBy_L1 n dst ((((n).toNat) - 0) + 1) (([]), 0) = c := ⟨_, rfl⟩
  rw [hc18] at hF
  refine TC.loop (ι := Nat × List (List Int) × Nat × Value × List Value) (fun (fu1, dist1, k12_1, vdist1, udist1) => [(0, (.int .i64 n)), (1, (.func (.func kdst) #[] cdst.toArray)), (4, (.pointer (some ⟨g0_0, 0, none⟩))), (6, vdist1), (11, (.int .i64 n)), (12, (.int .i64 (k12_1 : Int)))]) (fun (fu1, dist1, k12_1, vdist1, udist1) => Hp w [tabI 34 3 vdist1 udist1 dist1, .blk g0_0 45 [(.slice none 0 0)]]) (fun (fu1, dist1, k12_1, vdist1, udist1) => (k12_1 ≤ ((n).toNat)) ∧ (dist1.length ≤ k12_1) ∧ ((n).toNat) - k12_1 < fu1 ∧ F_impl_metricBy_L1 n dst fu1 (dist1, k12_1) = c17) (fun (fu1, dist1, k12_1, vdist1, udist1) => fu1) ((((n).toNat) - 0) + 1, [], 0, v1_0, []) ⟨(by first | omega | (simp [-List.getD_eq_getElem?_getD] <;> omega)), (by first | omega | (simp [-List.getD_eq_getElem?_getD] <;> omega)), (by omega), hc18⟩ ⟨rfl, rfl, rfl, rfl, rfl, rfl, trivial⟩ (fun w hw => hw) ?_
  rintro ⟨fu1, dist1, k12_1, vdist1, udist1⟩ hJ1
  obtain ⟨hi1_0, hi1_1, hmu1, hL1⟩ : (k12_1 ≤ ((n).toNat)) ∧ (dist1.length ≤ k12_1) ∧ ((n).toNat) - k12_1 < fu1 ∧ F_impl_metricBy_L1 n dst fu1 (dist1, k12_1) = c17 := hJ1
  change TC _ _ _ _ (Hp w [tabI 34 3 vdist1 udist1 dist1, .blk g0_0 45 [(.slice none 0 0)]]) [(0, (.int .i64 n)), (1, (.func (.func kdst) #[] cdst.toArray)), (4, (.pointer (some ⟨g0_0, 0, none⟩))), (6, vdist1), (11, (.int .i64 n)), (12, (.int .i64 (k12_1 : Int)))]
  obtain ⟨mf1, rfl⟩ : ∃ m, fu1 = m + 1 := ⟨fu1 - 1, by omega⟩
  rw [F_impl_metricBy_L1_s] at hL1
  refine TC.seq ?_
  refine TC.region ?_
  refine TL.op (yq (y_lss (ev_t rfl) (ev_t rfl))) rfl rfl rfl ?_
  refine TL.nil ?_
  refine TN.seq ?_
  refine TC.seq ?_
  refine TC.cond (b := decide ((k12_1 : Int) < n)) (ev_t rfl) (fun h19 => ?_) (fun h19 => ?_)
  · rw [bif_pos h19] at hL1
    have q20 := (of_decide_eq_true h19)
    refine TC.skip ?_
    refine TN.seq ?_
    refine TC.seq ?_
    refine TC.block ?_
    refine TC.seq ?_
    refine TC.region ?_
    refine TL.op (yq (y_move (ev_t rfl))) rfl rfl rfl ?_
    refine TL.op (yq (y_assign (ev_t rfl))) rfl rfl rfl ?_
    refine TL.nil ?_
    refine TN.seq ?_
    refine TC.seq ?_
    refine TC.region ?_
    refine TL.buildI (zs := []) (qs := []) slT_34 rfl trivial rfl (by decide) rfl (fun v5_0 => ?_)
    refine TL.op (yq (y_assign (ev_t rfl))) rfl rfl rfl ?_
    refine TL.nil ?_
    refine TN.seq ?_
    refine TC.seq ?_
    refine TC.seq ?_
    refine TC.region ?_
    refine TL.op (yq (y_move (ev_t rfl))) rfl rfl rfl ?_
    refine TL.op (yq (y_move ev_c)) rfl rfl rfl ?_
    refine TL.nil ?_
    refine TN.seq ?_
    refine TC.block ?_
    obtain ⟨c21, hc22⟩ : ∃ c, F_impl_metricBy_L2 n dst k12_1 ((((n).toNat) - 0) + 1) (([] : List Int), 0) = c := ⟨_, rfl⟩
    rw [hc22] at hL1
    refine TC.loop (ι := Nat × List Int × Nat × Value) (fun (fu2, row2, k17_2, vrow2) => [(0, (.int .i64 n)), (1, (.func (.func kdst) #[] cdst.toArray)), (4, (.pointer (some ⟨g0_0, 0, none⟩))), (6, vdist1), (7, (.int .i64 (k12_1 : Int))), (8, vrow2), (11, (.int .i64 n)), (12, (.int .i64 (k12_1 : Int))), (16, (.int .i64 n)), (17, (.int .i64 (k17_2 : Int)))]) (fun (fu2, row2, k17_2, vrow2) => Hp w [rowI 3 vrow2 row2, tabI 34 3 vdist1 udist1 dist1, .blk g0_0 45 [(.slice none 0 0)]]) (fun (fu2, row2, k17_2, vrow2) => (k17_2 ≤ ((n).toNat)) ∧ (row2.length ≤ k17_2) ∧ ((n).toNat) - k17_2 < fu2 ∧ F_impl_metricBy_L2 n dst k12_1 fu2 (row2, k17_2) = c21) (fun (fu2, row2, k17_2, vrow2) => fu2) ((((n).toNat) - 0) + 1, ([] : List Int), 0, v5_0) ⟨(by first | omega | (simp [-List.getD_eq_getElem?_getD] <;> omega)), (by first | omega | (simp [-List.getD_eq_getElem?_getD] <;> omega)), (by omega), hc22⟩ ⟨rfl, rfl, rfl, rfl, rfl, rfl, rfl, rfl, rfl, rfl, trivial⟩ (fun w hw => hw) ?_
    rintro ⟨fu2, row2, k17_2, vrow2⟩ hJ2
    obtain ⟨hi2_0, hi2_1, hmu2, hL2⟩ : (k17_2 ≤ ((n).toNat)) ∧ (row2.length ≤ k17_2) ∧ ((n).toNat) - k17_2 < fu2 ∧ F_impl_metricBy_L2 n dst k12_1 fu2 (row2, k17_2) = c21 := hJ2
    change TC _ _ _ _ (Hp w [rowI 3 vrow2 row2, tabI 34 3 vdist1 udist1 dist1, .blk g0_0 45 [(.slice none 0 0)]]) [(0, (.int .i64 n)), (1, (.func (.func kdst) #[] cdst.toArray)), (4, (.pointer (some ⟨g0_0, 0, none⟩))), (6, vdist1), (7, (.int .i64 (k12_1 : Int))), (8, vrow2), (11, (.int .i64 n)), (12, (.int .i64 (k12_1 : Int))), (16, (.int .i64 n)), (17, (.int .i64 (k17_2 : Int)))]
    obtain ⟨mf2, rfl⟩ : ∃ m, fu2 = m + 1 := ⟨fu2 - 1, by omega⟩
    rw [F_impl_metricBy_L2_s] at hL2
    refine TC.seq ?_
    refine TC.region ?_
    refine TL.op (yq (y_lss (ev_t rfl) (ev_t rfl))) rfl rfl rfl ?_
    refine TL.nil ?_
    refine TN.seq ?_
    refine TC.seq ?_
    refine TC.cond (b := decide ((k17_2 : Int) < n)) (ev_t rfl) (fun h23 => ?_) (fun h23 => ?_)
    · rw [bif_pos h23] at hL2
      have q24 := (of_decide_eq_true h23)
      refine TC.skip ?_
      refine TN.seq ?_
      refine TC.seq ?_
      refine TC.block ?_
      refine TC.seq ?_
      refine TC.region ?_
      refine TL.op (yq (y_move (ev_t rfl))) rfl rfl rfl ?_
      refine TL.op (yq (y_assign (ev_t rfl))) rfl rfl rfl ?_
      refine TL.nil ?_
      refine TN.seq ?_
      refine TC.seq ?_
      refine TC.region ?_
      refine TL.op (yq (y_move (ev_t rfl))) rfl rfl rfl ?_
      refine TL.op (yq (y_move (ev_t rfl))) rfl rfl rfl ?_
      refine TL.op (yq (y_eql (ev_t rfl) (ev_t rfl))) rfl rfl rfl ?_
      refine TL.nil ?_
      refine TN.seq ?_
      refine TC.cond (b := decide ((k12_1 : Int) = (k17_2 : Int))) (ev_t rfl) (fun h25 => ?_) (fun h25 => ?_)
      · rw [bif_pos h25] at hL2
        have q26 := (of_decide_eq_true h25)
        refine TC.region ?_
        refine TL.op (yq (y_move (ev_t rfl))) rfl rfl rfl ?_
        refine TL.buildI (zs := [.const (.int .i64 0)]) (qs := [0]) slT_34 rfl ⟨ev_c, trivial⟩ rfl (by decide) rfl (fun v10_1 => ?_)
        refine TL.appendI 1 (ev_t rfl) (ev_t rfl) rfl slT_34 (ri_row 0 rfl) (by first | omega | (simp [-List.getD_eq_getElem?_getD] <;> omega)) rfl (fun v10_2 => ?_)
        refine TL.op (yq (y_assign (ev_t rfl))) rfl rfl rfl ?_
        refine TL.nil ?_
        refine TN.blockN ?_
        refine TN.seq ?_
        refine TC.region ?_
        refine TL.op (yq (y_add (ev_t rfl) ev_c (by unfold In64; omega))) rfl rfl rfl ?_
        refine TL.op (yq (y_move (ev_t rfl))) rfl rfl rfl ?_
        refine TL.nil ?_
        exact TN.hand (mf2, (row2 ++ ([0])), (k17_2 + 1), v10_2) ⟨(by first | omega | (simp [-List.getD_eq_getElem?_getD] <;> omega)), (by first | omega | (simp [-List.getD_eq_getElem?_getD] <;> omega)), (by omega), hL2⟩ (Nat.lt_succ_self _) ⟨rfl, rfl, rfl, rfl, rfl, rfl, rfl, rfl, rfl, rfl, trivial⟩ (fun w hw => Hp.sublist hw (.cons _ (.cons_cons _ (.cons_cons _ (.cons_cons _ .slnil)))))
      · rw [bif_neg h25] at hL2
        have q26 := (of_decide_eq_false h25)
        refine TC.region ?_
        refine TL.op (yq (y_move (ev_t rfl))) rfl rfl rfl ?_
        refine TL.op (yq (y_move (ev_t rfl))) rfl rfl rfl ?_
        refine TL.op (yq (y_move (ev_t rfl))) rfl rfl rfl ?_
        refine TL.op (yq (y_move (ev_t rfl))) rfl rfl rfl ?_
        refine TL.op (y_callv (vs := [(.int .i64 (k12_1 : Int)), (.int .i64 (k17_2 : Int))]) (v := (.int .i64 (dst (k12_1 : Int) (k17_2 : Int)))) edst (ev_t rfl) ⟨(ev_t rfl), (ev_t rfl), trivial⟩ (fun w hw => hdst w hw.1 (k12_1 : Int) (k17_2 : Int) (by omega))) rfl rfl rfl ?_
        refine TL.buildI (zs := [.tmp 30]) (qs := [(dst (k12_1 : Int) (k17_2 : Int))]) slT_34 rfl ⟨(ev_t rfl), trivial⟩ rfl (by decide) rfl (fun v11_5 => ?_)
        refine TL.appendI 1 (ev_t rfl) (ev_t rfl) rfl slT_34 (ri_row 0 rfl) (by first | omega | (simp [-List.getD_eq_getElem?_getD] <;> omega)) rfl (fun v11_6 => ?_)
        refine TL.op (yq (y_assign (ev_t rfl))) rfl rfl rfl ?_
        refine TL.nil ?_
        refine TN.blockN ?_
        refine TN.seq ?_
        refine TC.region ?_
        refine TL.op (yq (y_add (ev_t rfl) ev_c (by unfold In64; omega))) rfl rfl rfl ?_
        refine TL.op (yq (y_move (ev_t rfl))) rfl rfl rfl ?_
        refine TL.nil ?_
        exact TN.hand (mf2, (row2 ++ ([(dst (k12_1 : Int) (k17_2 : Int))])), (k17_2 + 1), v11_6) ⟨(by first | omega | (simp [-List.getD_eq_getElem?_getD] <;> omega)), (by first | omega | (simp [-List.getD_eq_getElem?_getD] <;> omega)), (by omega), hL2⟩ (Nat.lt_succ_self _) ⟨rfl, rfl, rfl, rfl, rfl, rfl, rfl, rfl, rfl, rfl, trivial⟩ (fun w hw => Hp.sublist hw (.cons _ (.cons_cons _ (.cons_cons _ (.cons_cons _ .slnil)))))
    · rw [bif_neg h23] at hL2
      have q24 := (of_decide_eq_false h23)
      refine TC.exit ?_
      refine TN.thenE ?_
      refine TN.thenE ?_
      rw [← hL2, elim_next] at hL1
      try dsimp only at hL1
      refine TN.blockH ?_
      refine TN.seq ?_
      refine TC.region ?_
      refine TL.op (yq (y_move (ev_t rfl))) rfl rfl rfl ?_
      refine TL.op (yq (y_move (ev_t rfl))) rfl rfl rfl ?_
      refine TL.buildU slT_43 (ev_t rfl) (fun w hw => ((ri_row 0 rfl) w hw).ln) rfl (fun v13_2 => ?_)
      refine TL.appendT 2 1 rfl (ev_t rfl) (ev_t rfl) rfl rfl slT_43 (rd_row 0 rfl) (by first | omega | (simp [-List.getD_eq_getElem?_getD] <;> omega)) rfl (fun v13_3 => ?_)
      refine TL.op (yq (y_assign (ev_t rfl))) rfl rfl rfl ?_
      refine TL.nil ?_
      refine TN.blockN ?_
      refine TN.seq ?_
      refine TC.region ?_
      refine TL.op (yq (y_add (ev_t rfl) ev_c (by unfold In64; omega))) rfl rfl rfl ?_
      refine TL.op (yq (y_move (ev_t rfl))) rfl rfl rfl ?_
      refine TL.nil ?_
      exact TN.hand (mf1, (dist1 ++ [row2]), (k12_1 + 1), v13_3, (udist1 ++ [vrow2])) ⟨(by first | omega | (simp [-List.getD_eq_getElem?_getD] <;> omega)), (by first | omega | (simp [-List.getD_eq_getElem?_getD] <;> omega)), (by omega), hL1⟩ (Nat.lt_succ_self _) ⟨rfl, rfl, rfl, rfl, rfl, rfl, trivial⟩ (fun w hw => Hp.sublist hw (.cons _ (.cons _ (.cons_cons _ (.cons_cons _ .slnil)))))
  · rw [bif_neg h19] at hL1
    have q20 := (of_decide_eq_false h19)
    refine TC.exit ?_
    refine TN.thenE ?_
    refine TN.thenE ?_
    rw [← hL1, elim_next] at hF
    try dsimp only at hF
    refine TN.blockH ?_
    refine TN.seq ?_
    refine TC.seq ?_
    refine TC.region ?_
    refine TL.op (yq (y_move (ev_t rfl))) rfl rfl rfl ?_
    refine TL.callmR (ι := Value × List Value) 0 (vs := [vdist1]) (fun i => (.tuple #[(.agg #[i.1]), (.bool ((F_impl_metricOf dist1).2))])) (fun i => tabI 34 3 i.1 i.2 ((F_impl_metricOf dist1).1)) en_60 ⟨(ev_t rfl), trivial⟩ rfl rfl (fun w1 _ hw => impl_metricOf_ok w w1 _ vdist1 udist1 dist1 hw) (fun r15_1 => ?_)
    refine TL.op (yq (y_extract (ev_t rfl) rfl)) rfl rfl rfl ?_
    refine TL.op (yq (y_extract (ev_t rfl) rfl)) rfl rfl rfl ?_
    refine TL.storeAgg (cs := [(.slice none 0 0)]) (us := [r15_1.1]) 1 (ev_t rfl) (ev_t rfl) agg_45 rfl rfl (fun w hw => (ocs_cons (ln_one ((fun w hw => ((rii_tab 0 rfl) w hw).1) w hw).ln) ocs_nil)) ?_
    refine TL.op (yq (y_assign (ev_t rfl))) rfl rfl rfl ?_
    refine TL.nil ?_
    refine TN.seq ?_
    refine TC.ret ?_
    subst hF
    exact TN.retCT (cs := [r15_1.1]) 1 (by simp) rfl (ev_t rfl) (ev_t rfl) agg_45 rfl (fun w' hw => ⟨(r15_1.1, r15_1.2), rfl, Hp.sublist hw (.cons_cons _ (.cons _ .slnil))⟩)

set_option maxRecDepth 4000 in
set_option maxHeartbeats 1000000 in
theorem impl_LineMetric_1_ok (w : World) (x : Int) (y : Int) (gplaces : Nat) (vplaces : Value) (places : List Int) (hrplaces : RI w vplaces places) (hplaces : CellAt w gplaces vplaces) (hp0 : 0 ≤ x ∧ x < places.length ∧ 0 ≤ y ∧ y < places.length) (hp1 : ∀ i, i < places.length → 0 ≤ places.getD i 0 ∧ places.getD i 0 ≤ 99) :
    Calls Try.prog 73 ([(.int .i64 x), (.int .i64 y), (.pointer (some ⟨gplaces, 0, none⟩))] : List Value).toArray w (Ret (.int .i64 (F_impl_LineMetric_1 x y places)) (Hp w [])) := by
  obtain ⟨rz, hF⟩ : ∃ rz, (F_impl_LineMetric_1 x y places) = rz := ⟨_, rfl⟩
  rw [hF]
  unfold F_impl_LineMetric_1 at hF
  have hb1 := hp1 x.toNat (by omega)
  have hb2 := hp1 y.toNat (by omega)
  refine calls_tc Try.func73 rfl rfl rfl ?_
  change TC _ _ _ _ (Hp w []) [(0, (.int .i64 x)), (1, (.int .i64 y)), (2, (.pointer (some ⟨gplaces, 0, none⟩)))]
  refine TC.seq ?_
  refine TC.region ?_
  refine TL.op (yq (y_assign ev_c)) rfl rfl rfl ?_
  refine TL.nil ?_
  refine TN.seq ?_
  refine TC.seq ?_
  refine TC.regionQ (by kernel_rfl) (by kernel_rfl) dr_hp ?_
  refine TQ.op (yq (y_ldc (ev_t rfl) one_34 hplaces)) rfl rfl rfl ?_
  refine TQ.op (yq (y_move (ev_t rfl))) rfl rfl rfl ?_
  have hb3 : (x).toNat < places.length := (by first | omega | (simp only [List.length_set, List.length_append, List.length_cons, List.length_nil, List.length_replicate]; omega) | (rw [sortI_length]; simp only [List.length_cons, List.length_nil]; omega))
  refine TQ.op (yq (y_idx (k := (x).toNat) (ev_t rfl) (ev_t rfl) (by first | omega | simp) slT_34 (ri_arg hrplaces) hb3)) rfl rfl rfl ?_
  refine TQ.op (yq (y_ldi (ev_t rfl) one_3 (ri_arg hrplaces) hb3)) rfl rfl rfl ?_
  refine TQ.op (yq (y_ldc (ev_t rfl) one_34 hplaces)) rfl rfl rfl ?_
  refine TQ.op (yq (y_move (ev_t rfl))) rfl rfl rfl ?_
  have hb4 : (y).toNat < places.length := (by first | omega | (simp only [List.length_set, List.length_append, List.length_cons, List.length_nil, List.length_replicate]; omega) | (rw [sortI_length]; simp only [List.length_cons, List.length_nil]; omega))
  refine TQ.op (yq (y_idx (k := (y).toNat) (ev_t rfl) (ev_t rfl) (by first | omega | simp) slT_34 (ri_arg hrplaces) hb4)) rfl rfl rfl ?_
  refine TQ.op (yq (y_ldi (ev_t rfl) one_3 (ri_arg hrplaces) hb4)) rfl rfl rfl ?_
  refine TQ.op (yq (y_sub (ev_t rfl) (ev_t rfl) (by unfold In64; omega))) rfl rfl rfl ?_
  refine TQ.op (y_call (vs := [(.int .i64 ((places.getD ((x).toNat) 0) - (places.getD ((y).toNat) 0)))]) (v := (.int .i64 (max ((places.getD ((x).toNat) 0) - (places.getD ((y).toNat) 0)) (-((places.getD ((x).toNat) 0) - (places.getD ((y).toNat) 0)))))) en_74 ⟨(ev_t rfl), trivial⟩ (fun w hw => impl_size_ok w ((places.getD ((x).toNat) 0) - (places.getD ((y).toNat) 0)) (by first | assumption | omega | grind) (by first | assumption | omega | grind))) rfl rfl rfl ?_
  refine TQ.op (yq (y_assign (ev_t rfl))) rfl rfl rfl ?_
  refine TQ.nil ?_
  refine TN.seq ?_
  refine TC.ret ?_
  subst hF
  exact TN.ret1 rfl (ev_t rfl) (fun w' hw => ⟨rfl, hw⟩)

set_option maxRecDepth 4000 in
set_option maxHeartbeats 1000000 in
theorem impl_LineMetric_ok (w : World) (vplaces : Value) (places : List Int) (hplaces : RI w vplaces places)  :
    Calls Try.prog 37 ([vplaces] : List Value).toArray w (fun e w' => ∃ i : Value × List Value, e = .returned (.tuple #[(.agg #[i.1]), (.bool ((F_impl_LineMetric places).2))]) ∧ Hp w [tabI 34 3 i.1 i.2 ((F_impl_LineMetric places).1)] w') := by
  obtain ⟨rz, hF⟩ : ∃ rz, (F_impl_LineMetric places) = rz := ⟨_, rfl⟩
  rw [hF]
  unfold F_impl_LineMetric at hF
  have hlen_places := arg_len hplaces
  refine calls_tc Try.func37 rfl rfl rfl ?_
  change TC _ _ _ _ (Hp w []) [(0, vplaces)]
  refine TC.seq ?_
  refine TC.region ?_
  refine TL.boxS (ev_t rfl) (fun w hw => ((ri_arg hplaces) w hw).ln) rfl (fun g0_0 => ?_)
  refine TL.alloc (u := (.agg #[(.slice none 0 0)])) (by kernel_rfl) rfl (fun g0_1 => ?_)
  refine TL.op (yq (y_assign ev_c)) rfl rfl rfl ?_
  refine TL.nil ?_
  refine TN.seq ?_
  refine TC.seq ?_
  refine TC.seq ?_
  refine TC.region ?_
  refine TL.op (yq (y_ldb 1 (ev_t rfl) one_34 rfl rfl)) rfl rfl rfl ?_
  refine TL.op (y_call (vs := [vplaces, (.int .i64 6), (.int .i64 0), (.int .i64 99)]) (v := (.bool (F_impl_areIn places 6 0 99))) en_71 ⟨(ev_t rfl), ev_c, ev_c, ev_c, trivial⟩ (fun w hw => impl_areIn_ok w vplaces places ((ri_arg hplaces) w hw) 6 0 99)) rfl rfl rfl ?_
  refine TL.op (yq (y_not (ev_t rfl))) rfl rfl rfl ?_
  refine TL.nil ?_
  refine TN.seq ?_
  refine TC.cond (b := !(F_impl_areIn places 6 0 99)) (ev_t rfl) (fun h3 => ?_) (fun h3 => ?_)
  · rw [bif_pos h3] at hF
    have q4 := (not_t h3)
    refine TC.seq ?_
    refine TC.region ?_
    refine TL.op (yq (y_bld0 bd_45_0)) rfl rfl rfl ?_
    refine TL.storeAgg (cs := [(.slice none 0 0)]) (us := [(.slice none 0 0)]) 0 (ev_t rfl) (ev_t rfl) agg_45 rfl rfl (fun w hw => (ocs_cons rfl ocs_nil)) ?_
    refine TL.op (yq (y_assign ev_c)) rfl rfl rfl ?_
    refine TL.nil ?_
    refine TN.seq ?_
    refine TC.ret ?_
    refine TN.thenR ?_
    subst hF
    refine TN.cls (fun w hw => hw.nilTab 34 3) ?_
    exact TN.retCT (cs := [(.slice none 0 0)]) 1 (by simp) rfl (ev_t rfl) (ev_t rfl) agg_45 rfl (fun w' hw => ⟨((.slice none 0 0), []), rfl, Hp.sublist hw (.cons_cons _ (.cons _ (.cons _ .slnil)))⟩)
  · rw [bif_neg h3] at hF
    have q4 := (areIn_t (not_f h3))
    obtain ⟨hq1, hq2⟩ := q4
    refine TC.skip ?_
    refine TN.seq ?_
    refine TC.seq ?_
    refine TC.region ?_
    refine TL.op (yq (y_ldb 1 (ev_t rfl) one_34 rfl rfl)) rfl rfl rfl ?_
    refine TL.op (yq (y_len (ev_t rfl) Try.underlying34 (fun w hw => ((ri_arg hplaces) w hw).ln))) rfl rfl rfl ?_
    refine TL.op (yq (y_mkf (us := [(.pointer (some ⟨g0_0, 0, none⟩))]) ⟨(ev_t rfl), trivial⟩)) rfl rfl rfl ?_
    refine TL.callr (ι := Value × List Value) (vs := [(.int .i64 (places.length : Int)), (.func (.func 73) #[] ([(.pointer (some ⟨g0_0, 0, none⟩))] : List Value).toArray)]) (fun i => (.tuple #[(.agg #[i.1]), (.bool ((F_impl_metricBy (places.length : Int) (fun x y => F_impl_LineMetric_1 x y places)).2))])) (fun i => [tabI 34 3 i.1 i.2 ((F_impl_metricBy (places.length : Int) (fun x y => F_impl_LineMetric_1 x y places)).1)]) en_72 ⟨(ev_t rfl), (ev_t rfl), trivial⟩ rfl (fun w hw => impl_metricBy_ok w (places.length : Int) 73 [(.pointer (some ⟨g0_0, 0, none⟩))] (fun x y => F_impl_LineMetric_1 x y places) en_73 (fun w2 hb x y hd0 => impl_LineMetric_1_ok w2 x y g0_0 vplaces places (((ri_arg hplaces) w hw).below hb) (cell_blk 1 rfl rfl hw hb) (by first | assumption | omega | grind) (by first | assumption | omega | grind)) (by first | assumption | omega | grind)) (fun r3_3 => ?_)
    refine TL.op (yq (y_extract (ev_t rfl) rfl)) rfl rfl rfl ?_
    refine TL.op (yq (y_extract (ev_t rfl) rfl)) rfl rfl rfl ?_
    refine TL.storeAgg (cs := [(.slice none 0 0)]) (us := [r3_3.1]) 1 (ev_t rfl) (ev_t rfl) agg_45 rfl rfl (fun w hw => (ocs_cons (ln_one ((fun w hw => ((rii_tab 0 rfl) w hw).1) w hw).ln) ocs_nil)) ?_
    refine TL.op (yq (y_assign (ev_t rfl))) rfl rfl rfl ?_
    refine TL.nil ?_
    refine TN.seq ?_
    refine TC.ret ?_
    subst hF
    exact TN.retCT (cs := [r3_3.1]) 1 (by simp) rfl (ev_t rfl) (ev_t rfl) agg_45 rfl (fun w' hw => ⟨(r3_3.1, r3_3.2), rfl, Hp.sublist hw (.cons_cons _ (.cons _ (.cons _ .slnil)))⟩)

set_option maxRecDepth 4000 in
set_option maxHeartbeats 1000000 in
theorem spec_l6Line_ok (w : World) (vplaces : Value) (places : List Int) (hplaces : RI w vplaces places) (hp0 : places.length ≤ 6) (hp1 : ∀ i, i < places.length → 0 ≤ places.getD i 0 ∧ places.getD i 0 ≤ 99) :
    Calls Try.prog 76 ([vplaces] : List Value).toArray w (fun e w' => ∃ i : Value × List Value, e = .returned (.agg #[i.1]) ∧ Hp w [tabI 34 3 i.1 i.2 (F_spec_l6Line places)] w') := by
  obtain ⟨rz, hF⟩ : ∃ rz, (F_spec_l6Line places) = rz := ⟨_, rfl⟩
  rw [hF]
  unfold F_spec_l6Line at hF
  have hlen_places := arg_len hplaces
  refine calls_tc Try.func76 rfl rfl rfl ?_
  change TC _ _ _ _ (Hp w []) [(0, vplaces)]
  refine TC.seq ?_
  refine TC.region ?_
  refine TL.alloc (u := (.agg #[(.slice none 0 0)])) (by kernel_rfl) rfl (fun g0_0 => ?_)
  refine TL.nil ?_
  refine TN.seq ?_
  refine TC.seq ?_
  refine TC.region ?_
  refine TL.op (yq (y_move (ev_t rfl))) rfl rfl rfl ?_
  refine TL.op (yq (y_len (ev_t rfl) Try.underlying34 (fun w hw => ((ri_arg hplaces) w hw).ln))) rfl rfl rfl ?_
  refine TL.callr (ι := Value × List Value) (vs := [(.int .i64 (places.length : Int)), (.int .i64 0)]) (fun i => (.agg #[i.1])) (fun i => [tabI 34 3 i.1 i.2 (F_spec_l6Uniform (places.length : Int) 0)]) en_94 ⟨(ev_t rfl), ev_c, trivial⟩ rfl (fun w hw => spec_l6Uniform_ok w (places.length : Int) 0 (by first | assumption | omega | grind)) (fun r1_2 => ?_)
  refine TL.alloc (u := (.agg #[(.slice none 0 0)])) (by kernel_rfl) rfl (fun g1_3 => ?_)
  refine TL.storeAgg (cs := [(.slice none 0 0)]) (us := [r1_2.1]) 0 (ev_t rfl) (ev_t rfl) agg_45 rfl rfl (fun w hw => (ocs_cons (ln_one ((fun w hw => ((rii_tab 1 rfl) w hw).1) w hw).ln) ocs_nil)) ?_
  refine TL.nil ?_
  refine TN.seq ?_
  refine TC.seq ?_
  refine TC.seq ?_
  refine TC.region ?_
  refine TL.op (yq (y_assign ev_c)) rfl rfl rfl ?_
  refine TL.nil ?_
  refine TN.seq ?_
  refine TC.block ?_
  obtain ⟨c47, hc48⟩ : ∃ c, F_spec_l6Line_L1 places ((places.length - 0) + 1) (0, (F_spec_l6Uniform (places.length : Int) 0)) = c := ⟨_, rfl⟩
  rw [hc48] at hF
  refine TC.loop (ι := Nat × Nat × List (List Int)) (fun (fu1, x1, m0_1) => [(0, vplaces), (2, (.pointer (some ⟨g0_0, 0, none⟩))), (3, (.pointer (some ⟨g1_3, 0, none⟩))), (4, (.int .i64 (x1 : Int)))]) (fun (fu1, x1, m0_1) => Hp w [.blk g1_3 45 [r1_2.1], tabI 34 3 r1_2.1 r1_2.2 m0_1, .blk g0_0 45 [(.slice none 0 0)]]) (fun (fu1, x1, m0_1) => (x1 ≤ places.length) ∧ (Sq places.length m0_1) ∧ places.length - x1 < fu1 ∧ F_spec_l6Line_L1 places fu1 (x1, m0_1) = c47) (fun (fu1, x1, m0_1) => fu1) ((places.length - 0) + 1, 0, (F_spec_l6Uniform (places.length : Int) 0)) ⟨(by first | omega | (simp [-List.getD_eq_getElem?_getD] <;> omega)), (uniform_sq places.length 0), (by omega), hc48⟩ ⟨rfl, rfl, rfl, rfl, trivial⟩ (fun w hw => hw) ?_
  rintro ⟨fu1, x1, m0_1⟩ hJ1
  obtain ⟨hi1_0, hi1_1, hmu1, hL1⟩ : (x1 ≤ places.length) ∧ (Sq places.length m0_1) ∧ places.length - x1 < fu1 ∧ F_spec_l6Line_L1 places fu1 (x1, m0_1) = c47 := hJ1
  change TC _ _ _ _ (Hp w [.blk g1_3 45 [r1_2.1], tabI 34 3 r1_2.1 r1_2.2 m0_1, .blk g0_0 45 [(.slice none 0 0)]]) [(0, vplaces), (2, (.pointer (some ⟨g0_0, 0, none⟩))), (3, (.pointer (some ⟨g1_3, 0, none⟩))), (4, (.int .i64 (x1 : Int)))]
  obtain ⟨mf1, rfl⟩ : ∃ m, fu1 = m + 1 := ⟨fu1 - 1, by omega⟩
  rw [F_spec_l6Line_L1_s] at hL1
  have hb1 := hp1 x1
  refine TC.seq ?_
  refine TC.seq ?_
  refine TC.region ?_
  refine TL.op (yq (y_move (ev_t rfl))) rfl rfl rfl ?_
  refine TL.op (yq (y_move (ev_t rfl))) rfl rfl rfl ?_
  refine TL.op (yq (y_len (ev_t rfl) Try.underlying34 (fun w hw => ((ri_arg hplaces) w hw).ln))) rfl rfl rfl ?_
  refine TL.op (yq (y_lss (ev_t rfl) (ev_t rfl))) rfl rfl rfl ?_
  refine TL.nil ?_
  refine TN.seq ?_
  refine TC.cond (b := decide ((x1 : Int) < (places.length : Int))) (ev_t rfl) (fun h49 => ?_) (fun h49 => ?_)
  · rw [bif_pos h49] at hL1
    have q50 := (of_decide_eq_true h49)
    refine TC.skip ?_
    refine TN.seq ?_
    refine TC.seq ?_
    refine TC.block ?_
    refine TC.seq ?_
    refine TC.region ?_
    refine TL.op (yq (y_assign ev_c)) rfl rfl rfl ?_
    refine TL.nil ?_
    refine TN.seq ?_
    refine TC.block ?_
    obtain ⟨c51, hc52⟩ : ∃ c, F_spec_l6Line_L2 places x1 ((places.length - 0) + 1) (0, m0_1) = c := ⟨_, rfl⟩
    rw [hc52] at hL1
    refine TC.loop (ι := Nat × Nat × List (List Int)) (fun (fu2, y2, m0_2) => [(0, vplaces), (2, (.pointer (some ⟨g0_0, 0, none⟩))), (3, (.pointer (some ⟨g1_3, 0, none⟩))), (4, (.int .i64 (x1 : Int))), (5, (.int .i64 (y2 : Int)))]) (fun (fu2, y2, m0_2) => Hp w [.blk g1_3 45 [r1_2.1], tabI 34 3 r1_2.1 r1_2.2 m0_2, .blk g0_0 45 [(.slice none 0 0)]]) (fun (fu2, y2, m0_2) => (y2 ≤ places.length) ∧ (Sq places.length m0_2) ∧ places.length - y2 < fu2 ∧ F_spec_l6Line_L2 places x1 fu2 (y2, m0_2) = c51) (fun (fu2, y2, m0_2) => fu2) ((places.length - 0) + 1, 0, m0_1) ⟨(by first | omega | (simp [-List.getD_eq_getElem?_getD] <;> omega)), hi1_1, (by omega), hc52⟩ ⟨rfl, rfl, rfl, rfl, rfl, trivial⟩ (fun w hw => hw) ?_
    rintro ⟨fu2, y2, m0_2⟩ hJ2
    obtain ⟨hi2_0, hi2_1, hmu2, hL2⟩ : (y2 ≤ places.length) ∧ (Sq places.length m0_2) ∧ places.length - y2 < fu2 ∧ F_spec_l6Line_L2 places x1 fu2 (y2, m0_2) = c51 := hJ2
    change TC _ _ _ _ (Hp w [.blk g1_3 45 [r1_2.1], tabI 34 3 r1_2.1 r1_2.2 m0_2, .blk g0_0 45 [(.slice none 0 0)]]) [(0, vplaces), (2, (.pointer (some ⟨g0_0, 0, none⟩))), (3, (.pointer (some ⟨g1_3, 0, none⟩))), (4, (.int .i64 (x1 : Int))), (5, (.int .i64 (y2 : Int)))]
    obtain ⟨mf2, rfl⟩ : ∃ m, fu2 = m + 1 := ⟨fu2 - 1, by omega⟩
    rw [F_spec_l6Line_L2_s] at hL2
    have hb2 := hp1 y2
    have hsl2 := hi2_1.len
    have hsr2 := hi2_1.rows x1
    refine TC.seq ?_
    refine TC.seq ?_
    refine TC.region ?_
    refine TL.op (yq (y_move (ev_t rfl))) rfl rfl rfl ?_
    refine TL.op (yq (y_move (ev_t rfl))) rfl rfl rfl ?_
    refine TL.op (yq (y_len (ev_t rfl) Try.underlying34 (fun w hw => ((ri_arg hplaces) w hw).ln))) rfl rfl rfl ?_
    refine TL.op (yq (y_lss (ev_t rfl) (ev_t rfl))) rfl rfl rfl ?_
    refine TL.nil ?_
    refine TN.seq ?_
    refine TC.cond (b := decide ((y2 : Int) < (places.length : Int))) (ev_t rfl) (fun h53 => ?_) (fun h53 => ?_)
    · rw [bif_pos h53] at hL2
      have q54 := (of_decide_eq_true h53)
      refine TC.skip ?_
      refine TN.seq ?_
      refine TC.seq ?_
      refine TC.block ?_
      refine TC.regionT 26 (by kernel_rfl) (by kernel_rfl) dr_hp ?_
      refine TQ.op (yq (y_fa (fa_45_0 g1_3) (ev_t rfl))) rfl rfl rfl ?_
      refine TQ.op (yq (y_ldb 0 (ev_t rfl) one_43 rfl rfl)) rfl rfl rfl ?_
      refine TQ.op (yq (y_move (ev_t rfl))) rfl rfl rfl ?_
      have hb55 : x1 < m0_2.length := (by first | omega | (simp only [List.length_set, List.length_append, List.length_cons, List.length_nil, List.length_replicate]; omega) | (rw [sortI_length]; simp only [List.length_cons, List.length_nil]; omega))
      refine TQ.op (yq (y_idx (k := x1) (ev_t rfl) (ev_t rfl) (by first | omega | simp) slT_43 (fun w hw => ((rii_tab 1 rfl) w hw).1) hb55)) rfl rfl rfl ?_
      refine TQ.op (yq (y_ldT 1 (ev_t rfl) one_34 rfl hb55)) rfl rfl rfl ?_
      refine TQ.op (yq (y_move (ev_t rfl))) rfl rfl rfl ?_
      refine TQ.op (yq (y_move (ev_t rfl))) rfl rfl rfl ?_
      refine TQ.op (yq (y_move (ev_t rfl))) rfl rfl rfl ?_
      have hb56 : x1 < places.length := (by first | omega | (simp only [List.length_set, List.length_append, List.length_cons, List.length_nil, List.length_replicate]; omega) | (rw [sortI_length]; simp only [List.length_cons, List.length_nil]; omega))
      refine TQ.op (yq (y_idx (k := x1) (ev_t rfl) (ev_t rfl) (by first | omega | simp) slT_34 (ri_arg hplaces) hb56)) rfl rfl rfl ?_
      refine TQ.op (yq (y_ldi (ev_t rfl) one_3 (ri_arg hplaces) hb56)) rfl rfl rfl ?_
      refine TQ.op (yq (y_move (ev_t rfl))) rfl rfl rfl ?_
      refine TQ.op (yq (y_move (ev_t rfl))) rfl rfl rfl ?_
      have hb57 : y2 < places.length := (by first | omega | (simp only [List.length_set, List.length_append, List.length_cons, List.length_nil, List.length_replicate]; omega) | (rw [sortI_length]; simp only [List.length_cons, List.length_nil]; omega))
      refine TQ.op (yq (y_idx (k := y2) (ev_t rfl) (ev_t rfl) (by first | omega | simp) slT_34 (ri_arg hplaces) hb57)) rfl rfl rfl ?_
      refine TQ.op (yq (y_ldi (ev_t rfl) one_3 (ri_arg hplaces) hb57)) rfl rfl rfl ?_
      refine TQ.op (yq (y_sub (ev_t rfl) (ev_t rfl) (by unfold In64; omega))) rfl rfl rfl ?_
      refine TQ.op (yq (y_move (ev_t rfl))) rfl rfl rfl ?_
      refine TQ.op (yq (y_move (ev_t rfl))) rfl rfl rfl ?_
      have hb58 : y2 < places.length := (by first | omega | (simp only [List.length_set, List.length_append, List.length_cons, List.length_nil, List.length_replicate]; omega) | (rw [sortI_length]; simp only [List.length_cons, List.length_nil]; omega))
      refine TQ.op (yq (y_idx (k := y2) (ev_t rfl) (ev_t rfl) (by first | omega | simp) slT_34 (ri_arg hplaces) hb58)) rfl rfl rfl ?_
      refine TQ.op (yq (y_ldi (ev_t rfl) one_3 (ri_arg hplaces) hb58)) rfl rfl rfl ?_
      refine TQ.op (yq (y_move (ev_t rfl))) rfl rfl rfl ?_
      refine TQ.op (yq (y_move (ev_t rfl))) rfl rfl rfl ?_
      have hb59 : x1 < places.length := (by first | omega | (simp only [List.length_set, List.length_append, List.length_cons, List.length_nil, List.length_replicate]; omega) | (rw [sortI_length]; simp only [List.length_cons, List.length_nil]; omega))
      refine TQ.op (yq (y_idx (k := x1) (ev_t rfl) (ev_t rfl) (by first | omega | simp) slT_34 (ri_arg hplaces) hb59)) rfl rfl rfl ?_
      refine TQ.op (yq (y_ldi (ev_t rfl) one_3 (ri_arg hplaces) hb59)) rfl rfl rfl ?_
      refine TQ.op (yq (y_sub (ev_t rfl) (ev_t rfl) (by unfold In64; omega))) rfl rfl rfl ?_
      refine TQ.op (y_call (vs := [(.int .i64 ((places.getD x1 0) - (places.getD y2 0))), (.int .i64 ((places.getD y2 0) - (places.getD x1 0)))]) (v := (.int .i64 (F_spec_l1Most ((places.getD x1 0) - (places.getD y2 0)) ((places.getD y2 0) - (places.getD x1 0))))) en_86 ⟨(ev_t rfl), (ev_t rfl), trivial⟩ (fun w hw => spec_l1Most_ok w ((places.getD x1 0) - (places.getD y2 0)) ((places.getD y2 0) - (places.getD x1 0)))) rfl rfl rfl ?_
      have hb60 : y2 < (m0_2.getD x1 []).length := (by first | omega | (simp only [List.length_set, List.length_append, List.length_cons, List.length_nil, List.length_replicate]; omega) | (rw [sortI_length]; simp only [List.length_cons, List.length_nil]; omega))
      refine TQ.op (yq (y_idx (k := y2) (ev_t rfl) (ev_t rfl) (by first | omega | simp) slT_34 (ri_tab 1 x1 rfl hb55) hb60)) rfl rfl rfl ?_
      refine TQ.tail ?_
      refine TL.storeT 1 (ev_t rfl) (ev_t rfl) one_3 rfl hb55 hb60 ?_
      refine TL.nil ?_
      refine TN.blockN ?_
      refine TN.seq ?_
      refine TC.region ?_
      refine TL.op (yq (y_move (ev_t rfl))) rfl rfl rfl ?_
      refine TL.op (yq (y_add (ev_t rfl) ev_c (by unfold In64; omega))) rfl rfl rfl ?_
      refine TL.op (yq (y_assign (ev_t rfl))) rfl rfl rfl ?_
      refine TL.nil ?_
      exact TN.hand (mf2, (y2 + 1), (m0_2.set x1 ((m0_2.getD x1 []).set y2 (F_spec_l1Most ((places.getD x1 0) - (places.getD y2 0)) ((places.getD y2 0) - (places.getD x1 0)))))) ⟨(by first | omega | (simp [-List.getD_eq_getElem?_getD] <;> omega)), (hi2_1.set (by omega) (by omega)), (by omega), hL2⟩ (Nat.lt_succ_self _) ⟨rfl, rfl, rfl, rfl, rfl, trivial⟩ (fun w hw => hw)
    · rw [bif_neg h53] at hL2
      have q54 := (of_decide_eq_false h53)
      refine TC.exit ?_
      refine TN.thenE ?_
      refine TN.thenE ?_
      rw [← hL2, elim_next] at hL1
      try dsimp only at hL1
      refine TN.blockH ?_
      refine TN.blockN ?_
      refine TN.seq ?_
      refine TC.region ?_
      refine TL.op (yq (y_move (ev_t rfl))) rfl rfl rfl ?_
      refine TL.op (yq (y_add (ev_t rfl) ev_c (by unfold In64; omega))) rfl rfl rfl ?_
      refine TL.op (yq (y_assign (ev_t rfl))) rfl rfl rfl ?_
      refine TL.nil ?_
      exact TN.hand (mf1, (x1 + 1), m0_2) ⟨(by first | omega | (simp [-List.getD_eq_getElem?_getD] <;> omega)), hi2_1, (by omega), hL1⟩ (Nat.lt_succ_self _) ⟨rfl, rfl, rfl, rfl, trivial⟩ (fun w hw => hw)
  · rw [bif_neg h49] at hL1
    have q50 := (of_decide_eq_false h49)
    refine TC.exit ?_
    refine TN.thenE ?_
    refine TN.thenE ?_
    rw [← hL1, elim_next] at hF
    try dsimp only at hF
    refine TN.blockH ?_
    refine TN.seq ?_
    refine TC.seq ?_
    refine TC.region ?_
    refine TL.op (yq (y_ldagg (cs := [r1_2.1]) 0 (ev_t rfl) agg_45 rfl)) rfl rfl rfl ?_
    refine TL.storeAgg (cs := [(.slice none 0 0)]) (us := [r1_2.1]) 2 (ev_t rfl) (ev_t rfl) agg_45 rfl rfl (fun w hw => (ocs_cons (ln_one ((fun w hw => ((rii_tab 1 rfl) w hw).1) w hw).ln) ocs_nil)) ?_
    refine TL.nil ?_
    refine TN.seq ?_
    refine TC.ret ?_
    subst hF
    exact TN.retC (cs := [r1_2.1]) 2 (by simp) rfl (ev_t rfl) agg_45 rfl (fun w' hw => ⟨(r1_2.1, r1_2.2), rfl, Hp.sublist hw (.cons _ (.cons_cons _ (.cons _ .slnil)))⟩)

set_option maxRecDepth 4000 in
set_option maxHeartbeats 1000000 in
theorem spec_LineMetric_ok (w : World) (vplaces : Value) (places : List Int) (hplaces : RI w vplaces places)  :
    Calls Try.prog 38 ([vplaces] : List Value).toArray w (fun e w' => ∃ i : Value × List Value, e = .returned (.tuple #[(.agg #[i.1]), (.bool ((F_spec_LineMetric places).2))]) ∧ Hp w [tabI 34 3 i.1 i.2 ((F_spec_LineMetric places).1)] w') := by
  obtain ⟨rz, hF⟩ : ∃ rz, (F_spec_LineMetric places) = rz := ⟨_, rfl⟩
  rw [hF]
  unfold F_spec_LineMetric at hF
  have hlen_places := arg_len hplaces
  refine calls_tc Try.func38 rfl rfl rfl ?_
  change TC _ _ _ _ (Hp w []) [(0, vplaces)]
  refine TC.seq ?_
  refine TC.region ?_
  refine TL.alloc (u := (.agg #[(.slice none 0 0)])) (by kernel_rfl) rfl (fun g0_0 => ?_)
  refine TL.op (yq (y_assign ev_c)) rfl rfl rfl ?_
  refine TL.nil ?_
  refine TN.seq ?_
  refine TC.seq ?_
  refine TC.seq ?_
  refine TC.region ?_
  refine TL.op (yq (y_move (ev_t rfl))) rfl rfl rfl ?_
  refine TL.op (yq (y_len (ev_t rfl) Try.underlying34 (fun w hw => ((ri_arg hplaces) w hw).ln))) rfl rfl rfl ?_
  refine TL.op (y_call (vs := [(.int .i64 (places.length : Int)), (.int .i64 1), (.int .i64 6)]) (v := (.bool ((decide (1 ≤ (places.length : Int))) && (decide ((places.length : Int) ≤ 6))))) en_56 ⟨(ev_t rfl), ev_c, ev_c, trivial⟩ (fun w hw => spec_l1In_ok w (places.length : Int) 1 6)) rfl rfl rfl ?_
  refine TL.op (yq (y_not (ev_t rfl))) rfl rfl rfl ?_
  refine TL.nil ?_
  refine TN.seq ?_
  refine TC.cond (b := !((decide (1 ≤ (places.length : Int))) && (decide ((places.length : Int) ≤ 6)))) (ev_t rfl) (fun h13 => ?_) (fun h13 => ?_)
  · rw [bif_pos h13] at hF
    have q14 := ((and_f (not_t h13)).imp (fun h => (of_decide_eq_false h)) (fun h => (of_decide_eq_false h)))
    refine TC.seq ?_
    refine TC.region ?_
    refine TL.op (yq (y_bld0 bd_45_0)) rfl rfl rfl ?_
    refine TL.storeAgg (cs := [(.slice none 0 0)]) (us := [(.slice none 0 0)]) 0 (ev_t rfl) (ev_t rfl) agg_45 rfl rfl (fun w hw => (ocs_cons rfl ocs_nil)) ?_
    refine TL.op (yq (y_assign ev_c)) rfl rfl rfl ?_
    refine TL.nil ?_
    refine TN.seq ?_
    refine TC.ret ?_
    refine TN.thenR ?_
    subst hF
    refine TN.cls (fun w hw => hw.nilTab 34 3) ?_
    exact TN.retCT (cs := [(.slice none 0 0)]) 1 (by simp) rfl (ev_t rfl) (ev_t rfl) agg_45 rfl (fun w' hw => ⟨((.slice none 0 0), []), rfl, Hp.sublist hw (.cons_cons _ (.cons _ .slnil))⟩)
  · rw [bif_neg h13] at hF
    have q14 := (and_imp (and_t (not_f h13)) (fun h => (of_decide_eq_true h)) (fun h => (of_decide_eq_true h)))
    refine TC.skip ?_
    refine TN.seq ?_
    refine TC.seq ?_
    refine TC.seq ?_
    refine TC.region ?_
    refine TL.op (yq (y_assign ev_c)) rfl rfl rfl ?_
    refine TL.nil ?_
    refine TN.seq ?_
    refine TC.block ?_
    obtain ⟨c16, hc17⟩ : ∃ c, F_spec_LineMetric_L1 places ((places.length - 0) + 1) 0 = c := ⟨_, rfl⟩
    rw [hc17] at hF
    refine TC.loop (ι := Nat × Nat) (fun (fu1, i1) => [(0, vplaces), (2, (.pointer (some ⟨g0_0, 0, none⟩))), (4, (.int .i64 (i1 : Int)))]) (fun (fu1, i1) => Hp w [.blk g0_0 45 [(.slice none 0 0)]]) (fun (fu1, i1) => (i1 ≤ places.length) ∧ (∀ j, j < i1 → 0 ≤ places.getD j 0 ∧ places.getD j 0 ≤ 99) ∧ places.length - i1 < fu1 ∧ F_spec_LineMetric_L1 places fu1 i1 = c16) (fun (fu1, i1) => fu1) ((places.length - 0) + 1, 0) ⟨(by first | omega | (simp [-List.getD_eq_getElem?_getD] <;> omega)), (fun j hj => by omega), (by omega), hc17⟩ ⟨rfl, rfl, rfl, trivial⟩ (fun w hw => hw) ?_
    rintro ⟨fu1, i1⟩ hJ1
    obtain ⟨hi1_0, hi1_1, hmu1, hL1⟩ : (i1 ≤ places.length) ∧ (∀ j, j < i1 → 0 ≤ places.getD j 0 ∧ places.getD j 0 ≤ 99) ∧ places.length - i1 < fu1 ∧ F_spec_LineMetric_L1 places fu1 i1 = c16 := hJ1
    change TC _ _ _ _ (Hp w [.blk g0_0 45 [(.slice none 0 0)]]) [(0, vplaces), (2, (.pointer (some ⟨g0_0, 0, none⟩))), (4, (.int .i64 (i1 : Int)))]
    obtain ⟨mf1, rfl⟩ : ∃ m, fu1 = m + 1 := ⟨fu1 - 1, by omega⟩
    rw [F_spec_LineMetric_L1_s] at hL1
    refine TC.seq ?_
    refine TC.seq ?_
    refine TC.region ?_
    refine TL.op (yq (y_move (ev_t rfl))) rfl rfl rfl ?_
    refine TL.op (yq (y_move (ev_t rfl))) rfl rfl rfl ?_
    refine TL.op (yq (y_len (ev_t rfl) Try.underlying34 (fun w hw => ((ri_arg hplaces) w hw).ln))) rfl rfl rfl ?_
    refine TL.op (yq (y_lss (ev_t rfl) (ev_t rfl))) rfl rfl rfl ?_
    refine TL.nil ?_
    refine TN.seq ?_
    refine TC.cond (b := decide ((i1 : Int) < (places.length : Int))) (ev_t rfl) (fun h18 => ?_) (fun h18 => ?_)
    · rw [bif_pos h18] at hL1
      have q19 := (of_decide_eq_true h18)
      refine TC.skip ?_
      refine TN.seq ?_
      refine TC.seq ?_
      refine TC.block ?_
      refine TC.seq ?_
      refine TC.regionQ (by kernel_rfl) (by kernel_rfl) dr_hp ?_
      refine TQ.op (yq (y_move (ev_t rfl))) rfl rfl rfl ?_
      refine TQ.op (yq (y_move (ev_t rfl))) rfl rfl rfl ?_
      have hb20 : i1 < places.length := (by first | omega | (simp only [List.length_set, List.length_append, List.length_cons, List.length_nil, List.length_replicate]; omega) | (rw [sortI_length]; simp only [List.length_cons, List.length_nil]; omega))
      refine TQ.op (yq (y_idx (k := i1) (ev_t rfl) (ev_t rfl) (by first | omega | simp) slT_34 (ri_arg hplaces) hb20)) rfl rfl rfl ?_
      refine TQ.op (yq (y_ldi (ev_t rfl) one_3 (ri_arg hplaces) hb20)) rfl rfl rfl ?_
      refine TQ.op (y_call (vs := [(.int .i64 (places.getD i1 0)), (.int .i64 0), (.int .i64 99)]) (v := (.bool ((decide (0 ≤ (places.getD i1 0))) && (decide ((places.getD i1 0) ≤ 99))))) en_56 ⟨(ev_t rfl), ev_c, ev_c, trivial⟩ (fun w hw => spec_l1In_ok w (places.getD i1 0) 0 99)) rfl rfl rfl ?_
      refine TQ.op (yq (y_not (ev_t rfl))) rfl rfl rfl ?_
      refine TQ.op (yq (y_move (ev_t rfl))) rfl rfl rfl ?_
      refine TQ.opw (w_f rfl rfl rfl) (fun hg => yq (y_move (ev_t rfl))) rfl rfl ?_
      refine TQ.opw (w_f rfl rfl rfl) (fun hg => yq (y_move (ev_t rfl))) rfl rfl ?_
      refine TQ.opw (w_f rfl rfl rfl) (fun hg => yq (y_slice_hi (ev_g rfl hg) (ev_g rfl hg) (hi := i1) (by omega) slT_34 (ri_arg hplaces) (show i1 ≤ places.length by have hgf := (and_imp (and_t (not_f (not_t hg))) (fun h => (of_decide_eq_true h)) (fun h => (of_decide_eq_true h))); omega))) rfl rfl ?_
      refine TQ.opw (w_f rfl rfl rfl) (fun hg => yq (y_move (ev_t rfl))) rfl rfl ?_
      refine TQ.opw (w_f rfl rfl rfl) (fun hg => yq (y_move (ev_t rfl))) rfl rfl ?_
      refine TQ.opw (w_f rfl rfl rfl) (fun hg => yq (y_idx (k := i1) (ev_g rfl hg) (ev_g rfl hg) (by first | omega | simp) slT_34 (ri_arg hplaces) (show i1 < places.length by have hgf := (and_imp (and_t (not_f (not_t hg))) (fun h => (of_decide_eq_true h)) (fun h => (of_decide_eq_true h))); omega))) rfl rfl ?_
      refine TQ.opw (w_f rfl rfl rfl) (fun hg => yq (y_ldi (ev_g rfl hg) one_3 (ri_arg hplaces) (show i1 < places.length by have hgf := (and_imp (and_t (not_f (not_t hg))) (fun h => (of_decide_eq_true h)) (fun h => (of_decide_eq_true h))); omega))) rfl rfl ?_
      refine TQ.opw (w_f rfl rfl rfl) (fun hg => y_call (vs := [(resl vplaces 0 i1 1), (.int .i64 (places.getD i1 0))]) (v := (.bool (F_spec_l1Has ((places.take i1).drop 0) (places.getD i1 0)))) en_75 ⟨(ev_g rfl hg), (ev_g rfl hg), trivial⟩ (fun w hw => spec_l1Has_ok w (resl vplaces 0 i1 1) ((places.take i1).drop 0) ((fun w hw => ri_resl ((ri_arg hplaces) w hw) (show 0 ≤ i1 by have hgf := (and_imp (and_t (not_f (not_t hg))) (fun h => (of_decide_eq_true h)) (fun h => (of_decide_eq_true h))); omega) (show i1 ≤ places.length by have hgf := (and_imp (and_t (not_f (not_t hg))) (fun h => (of_decide_eq_true h)) (fun h => (of_decide_eq_true h))); omega)) w hw) (places.getD i1 0))) rfl rfl ?_
      refine TQ.op (yq (y_or (ev_t rfl) (fun hq => (ev_g rfl hq)))) rfl rfl rfl ?_
      refine TQ.nil ?_
      refine TN.seq ?_
      refine TC.cond (b := ((!((decide (0 ≤ (places.getD i1 0))) && (decide ((places.getD i1 0) ≤ 99)))) || (F_spec_l1Has ((places.take i1).drop 0) (places.getD i1 0)))) (ev_t rfl) (fun h21 => ?_) (fun h21 => ?_)
      · rw [bif_pos h21] at hL1
        have q22 := ((or_t h21).imp (fun h => ((and_f (not_t h)).imp (fun h => (of_decide_eq_false h)) (fun h => (of_decide_eq_false h)))) (fun h => h))
        refine TC.seq ?_
        refine TC.region ?_
        refine TL.op (yq (y_bld0 bd_45_0)) rfl rfl rfl ?_
        refine TL.storeAgg (cs := [(.slice none 0 0)]) (us := [(.slice none 0 0)]) 0 (ev_t rfl) (ev_t rfl) agg_45 rfl rfl (fun w hw => (ocs_cons rfl ocs_nil)) ?_
        refine TL.op (yq (y_assign ev_c)) rfl rfl rfl ?_
        refine TL.nil ?_
        refine TN.seq ?_
        refine TC.ret ?_
        refine TN.blockR ?_
        refine TN.thenR ?_
        refine TN.thenR ?_
        rw [← hL1, elim_ret] at hF
        refine TN.blockR ?_
        refine TN.thenR ?_
        subst hF
        refine TN.cls (fun w hw => hw.nilTab 34 3) ?_
        exact TN.retCT (cs := [(.slice none 0 0)]) 1 (by simp) rfl (ev_t rfl) (ev_t rfl) agg_45 rfl (fun w' hw => ⟨((.slice none 0 0), []), rfl, Hp.sublist hw (.cons_cons _ (.cons _ .slnil))⟩)
      · rw [bif_neg h21] at hL1
        have q22 := (and_imp (or_f h21) (fun h => (and_imp (and_t (not_f h)) (fun h => (of_decide_eq_true h)) (fun h => (of_decide_eq_true h)))) (fun h => (l1Has_f h)))
        refine TC.skip ?_
        refine TN.blockN ?_
        refine TN.seq ?_
        refine TC.region ?_
        refine TL.op (yq (y_move (ev_t rfl))) rfl rfl rfl ?_
        refine TL.op (yq (y_add (ev_t rfl) ev_c (by unfold In64; omega))) rfl rfl rfl ?_
        refine TL.op (yq (y_assign (ev_t rfl))) rfl rfl rfl ?_
        refine TL.nil ?_
        exact TN.hand (mf1, (i1 + 1)) ⟨(by first | omega | (simp [-List.getD_eq_getElem?_getD] <;> omega)), (upto_succ hi1_1 (by omega)), (by omega), hL1⟩ (Nat.lt_succ_self _) ⟨rfl, rfl, rfl, trivial⟩ (fun w hw => hw)
    · rw [bif_neg h18] at hL1
      have q19 := (of_decide_eq_false h18)
      refine TC.exit ?_
      refine TN.thenE ?_
      refine TN.thenE ?_
      rw [← hL1, elim_next] at hF
      try dsimp only at hF
      have hall : ∀ i, i < places.length → 0 ≤ places.getD i 0 ∧ places.getD i 0 ≤ 99 := fun i hi => hi1_1 i (by omega)
      refine TN.blockH ?_
      refine TN.seq ?_
      refine TC.seq ?_
      refine TC.region ?_
      refine TL.op (yq (y_move (ev_t rfl))) rfl rfl rfl ?_
      refine TL.callr (ι := Value × List Value) (vs := [vplaces]) (fun i => (.agg #[i.1])) (fun i => [tabI 34 3 i.1 i.2 (F_spec_l6Line places)]) en_76 ⟨(ev_t rfl), trivial⟩ rfl (fun w hw => spec_l6Line_ok w vplaces places ((ri_arg hplaces) w hw) (by first | assumption | omega | grind) (by first | assumption | omega | grind)) (fun r8_1 => ?_)
      refine TL.storeAgg (cs := [(.slice none 0 0)]) (us := [r8_1.1]) 1 (ev_t rfl) (ev_t rfl) agg_45 rfl rfl (fun w hw => (ocs_cons (ln_one ((fun w hw => ((rii_tab 0 rfl) w hw).1) w hw).ln) ocs_nil)) ?_
      refine TL.op (yq (y_assign ev_c)) rfl rfl rfl ?_
      refine TL.nil ?_
      refine TN.seq ?_
      refine TC.ret ?_
      subst hF
      exact TN.retCT (cs := [r8_1.1]) 1 (by simp) rfl (ev_t rfl) (ev_t rfl) agg_45 rfl (fun w' hw => ⟨(r8_1.1, r8_1.2), rfl, Hp.sublist hw (.cons_cons _ (.cons _ .slnil))⟩)

set_option maxRecDepth 4000 in
set_option maxHeartbeats 1000000 in
theorem impl_areBelow_1_ok (w : World) (a : Int) (gn : Nat) (n : Int) (hn : CellAt w gn (.int .i64 n)) (hp0 : -1000000 ≤ n) (hp1 : n ≤ 9223372036854775807) :
    Calls Try.prog 117 ([(.int .i64 a), (.pointer (some ⟨gn, 0, none⟩))] : List Value).toArray w (Ret (.bool (F_impl_areBelow_1 a n)) (Hp w [])) := by
  obtain ⟨rz, hF⟩ : ∃ rz, (F_impl_areBelow_1 a n) = rz := ⟨_, rfl⟩
  rw [hF]
  unfold F_impl_areBelow_1 at hF
  refine calls_tc Try.func117 rfl rfl rfl ?_
  change TC _ _ _ _ (Hp w []) [(0, (.int .i64 a)), (1, (.pointer (some ⟨gn, 0, none⟩)))]
  refine TC.seq ?_
  refine TC.region ?_
  refine TL.op (yq (y_assign ev_c)) rfl rfl rfl ?_
  refine TL.nil ?_
  refine TN.seq ?_
  refine TC.seq ?_
  refine TC.region ?_
  refine TL.op (yq (y_move (ev_t rfl))) rfl rfl rfl ?_
  refine TL.op (yq (y_ldc (ev_t rfl) one_3 hn)) rfl rfl rfl ?_
  refine TL.op (yq (y_sub (ev_t rfl) ev_c (by unfold In64; omega))) rfl rfl rfl ?_
  refine TL.op (y_call (vs := [(.int .i64 a), (.int .i64 0), (.int .i64 (n - 1))]) (v := (.bool ((decide (0 ≤ a)) && (decide (a ≤ (n - 1)))))) en_88 ⟨(ev_t rfl), ev_c, (ev_t rfl), trivial⟩ (fun w hw => impl_within_ok w a 0 (n - 1))) rfl rfl rfl ?_
  refine TL.op (yq (y_not (ev_t rfl))) rfl rfl rfl ?_
  refine TL.op (yq (y_assign (ev_t rfl))) rfl rfl rfl ?_
  refine TL.nil ?_
  refine TN.seq ?_
  refine TC.ret ?_
  subst hF
  exact TN.ret1 rfl (ev_t rfl) (fun w' hw => ⟨rfl, hw⟩)

set_option maxRecDepth 4000 in
set_option maxHeartbeats 1000000 in
theorem impl_areBelow_ok (w : World) (n : Int) (vl : Value) (l : List Int) (hl : RI w vl l) (hp0 : -1000000 ≤ n) (hp1 : n ≤ 9223372036854775807) :
    Calls Try.prog 112 ([(.int .i64 n), vl] : List Value).toArray w (Ret (.bool (F_impl_areBelow n l)) (Hp w [])) := by
  obtain ⟨rz, hF⟩ : ∃ rz, (F_impl_areBelow n l) = rz := ⟨_, rfl⟩
  rw [hF]
  unfold F_impl_areBelow at hF
  have hlen_l := arg_len hl
  refine calls_tc Try.func112 rfl rfl rfl ?_
  change TC _ _ _ _ (Hp w []) [(0, (.int .i64 n)), (1, vl)]
  refine TC.seq ?_
  refine TC.region ?_
  refine TL.box (ev_t rfl) rfl (fun g0_0 => ?_)
  refine TL.op (yq (y_assign ev_c)) rfl rfl rfl ?_
  refine TL.nil ?_
  refine TN.seq ?_
  refine TC.seq ?_
  refine TC.region ?_
  refine TL.op (yq (y_move (ev_t rfl))) rfl rfl rfl ?_
  refine TL.op (yq (y_mkf (us := [(.pointer (some ⟨g0_0, 0, none⟩))]) ⟨(ev_t rfl), trivial⟩)) rfl rfl rfl ?_
  refine TL.op (y_call (vs := [vl, (.func (.func 117) #[] ([(.pointer (some ⟨g0_0, 0, none⟩))] : List Value).toArray)]) (v := (.bool (F_slices_ContainsFunc_Sint_int l (fun a => F_impl_areBelow_1 a n)))) en_101 ⟨(ev_t rfl), (ev_t rfl), trivial⟩ (fun w hw => slices_ContainsFunc_Sint_int_ok w vl l ((ri_arg hl) w hw) 117 [(.pointer (some ⟨g0_0, 0, none⟩))] (fun a => F_impl_areBelow_1 a n) en_117 (fun w2 hb a => impl_areBelow_1_ok w2 a g0_0 n (cell_blk 0 rfl rfl hw hb) (by first | assumption | omega | grind) (by first | assumption | omega | grind)))) rfl rfl rfl ?_
  refine TL.op (yq (y_not (ev_t rfl))) rfl rfl rfl ?_
  refine TL.op (yq (y_assign (ev_t rfl))) rfl rfl rfl ?_
  refine TL.nil ?_
  refine TN.seq ?_
  refine TC.ret ?_
  subst hF
  exact TN.ret1 rfl (ev_t rfl) (fun w' hw => ⟨rfl, Hp.sublist hw (List.nil_sublist _)⟩)

set_option maxRecDepth 4000 in
set_option maxHeartbeats 1000000 in
theorem impl_Metric_isConfig_ok (w : World) (vm : Value) (um : List Value) (m : List (List Int)) (hm : RII w vm um m) (va : Value) (a : List Int) (ha : RI w va a)  :
    Calls Try.prog 103 ([(.agg #[vm]), va] : List Value).toArray w (Ret (.bool (F_impl_Metric_isConfig m a)) (Hp w [])) := by
  obtain ⟨rz, hF⟩ : ∃ rz, (F_impl_Metric_isConfig m a) = rz := ⟨_, rfl⟩
  rw [hF]
  unfold F_impl_Metric_isConfig at hF
  have hlen_m := argT_len hm
  have hlen_a := arg_len ha
  refine calls_tc Try.func103 rfl rfl rfl ?_
  change TC _ _ _ _ (Hp w []) [(0, (.agg #[vm])), (1, va)]
  refine TC.seq ?_
  refine TC.region ?_
  refine TL.box (ev_t rfl) rfl (fun g0_0 => ?_)
  refine TL.op (yq (y_assign ev_c)) rfl rfl rfl ?_
  refine TL.nil ?_
  refine TN.seq ?_
  refine TC.seq ?_
  refine TC.region ?_
  refine TL.op (yq (y_move (ev_t rfl))) rfl rfl rfl ?_
  refine TL.op (yq (y_len (ev_t rfl) Try.underlying34 (fun w hw => ((ri_arg ha) w hw).ln))) rfl rfl rfl ?_
  refine TL.op (y_call (vs := [(.int .i64 (a.length : Int)), (.int .i64 1), (.int .i64 3)]) (v := (.bool ((decide (1 ≤ (a.length : Int))) && (decide ((a.length : Int) ≤ 3))))) en_88 ⟨(ev_t rfl), ev_c, ev_c, trivial⟩ (fun w hw => impl_within_ok w (a.length : Int) 1 3)) rfl rfl rfl ?_
  refine TL.op (yq (y_move (ev_t rfl))) rfl rfl rfl ?_
  refine TL.opw (w_t rfl rfl rfl) (fun hg => yq (y_fa (fa_45_0 g0_0) (ev_t rfl))) rfl rfl ?_
  refine TL.opw (w_t rfl rfl rfl) (fun hg => yq (y_ldb 0 (ev_g rfl hg) one_43 rfl rfl)) rfl rfl ?_
  refine TL.opw (w_t rfl rfl rfl) (fun hg => yq (y_len (ev_g rfl hg) Try.underlying43 (fun w hw => ((fun w hw => ((rii_arg hm) w hw).1) w hw).ln))) rfl rfl ?_
  refine TL.opw (w_t rfl rfl rfl) (fun hg => yq (y_move (ev_t rfl))) rfl rfl ?_
  refine TL.opw (w_t rfl rfl rfl) (fun hg => y_call (vs := [(.int .i64 (m.length : Int)), va]) (v := (.bool (F_impl_areBelow (m.length : Int) a))) en_112 ⟨(ev_g rfl hg), (ev_g rfl hg), trivial⟩ (fun w hw => impl_areBelow_ok w (m.length : Int) va a ((ri_arg ha) w hw) (by have hgf := (and_imp (and_t hg) (fun h => (of_decide_eq_true h)) (fun h => (of_decide_eq_true h))); first | assumption | omega | (have hq := hgf.n6; omega) | (have hq := hgf.1.n6; omega) | grind) (by have hgf := (and_imp (and_t hg) (fun h => (of_decide_eq_true h)) (fun h => (of_decide_eq_true h))); first | assumption | omega | (have hq := hgf.n6; omega) | (have hq := hgf.1.n6; omega) | grind))) rfl rfl ?_
  refine TL.op (yq (y_and (ev_t rfl) (fun hq => (ev_g rfl hq)))) rfl rfl rfl ?_
  refine TL.op (yq (y_move (ev_t rfl))) rfl rfl rfl ?_
  refine TL.opw (w_t rfl rfl rfl) (fun hg => yq (y_move (ev_t rfl))) rfl rfl ?_
  refine TL.opw (w_t rfl rfl rfl) (fun hg => y_call (vs := [va]) (v := (.bool (F_slices_IsSorted_Sint_int a))) en_87 ⟨(ev_g rfl hg), trivial⟩ (fun w hw => slices_IsSorted_Sint_int_ok w va a ((ri_arg ha) w hw))) rfl rfl ?_
  refine TL.op (yq (y_and (ev_t rfl) (fun hq => (ev_g rfl hq)))) rfl rfl rfl ?_
  refine TL.op (yq (y_assign (ev_t rfl))) rfl rfl rfl ?_
  refine TL.nil ?_
  refine TN.seq ?_
  refine TC.ret ?_
  subst hF
  exact TN.ret1 rfl (ev_t rfl) (fun w' hw => ⟨rfl, Hp.sublist hw (List.nil_sublist _)⟩)

end Go.Proofs.Ytfhhfhiooehlcaa
