/-
  Walks of functions of the program: each computes its plain function. No condition but the bounds that are typed.
-/
import Derived.Test.YtcfjjnajeccbhaaFnD
import Derived.Test.YtcfjjnajeccbhaaDefE
import Derived.Test.YtcfjjnajeccbhaaLawMet
namespace Go.Proofs.Ytcfjjnajeccbhaa
open Go Go.RowKit

set_option maxRecDepth 4000 in
set_option maxHeartbeats 1000000 in
theorem spec_l6Uniform_ok (w : World) (n : Int) (d : Int) (hp0 : n ≤ 1000000) :
    Calls Try.prog 82 ([(.int .i64 n), (.int .i64 d)] : List Value).toArray w (fun e w' => ∃ i : Value × List Value, e = .returned (.agg #[i.1]) ∧ Hp w [tabI 25 3 i.1 i.2 (F_spec_l6Uniform n d)] w') := by
  obtain ⟨rz, hF⟩ : ∃ rz, (F_spec_l6Uniform n d) = rz := ⟨_, rfl⟩
  rw [hF]
  unfold F_spec_l6Uniform at hF
  refine calls_tc Try.func82 rfl rfl rfl ?_
  change TC _ _ _ _ (Hp w []) [(0, (.int .i64 n)), (1, (.int .i64 d))]
  refine TC.seq ?_
  refine TC.region ?_
  refine TL.alloc (u := (.agg #[(.slice none 0 0)])) (by kernel_rfl) rfl (fun g0_0 => ?_)
  refine TL.nil ?_
  refine TN.seq ?_
  refine TC.seq ?_
  refine TC.region ?_
  refine TL.buildSlice (zs := []) (vs := []) slT_22 rfl trivial (by simp) rfl (by decide) rfl (fun v1_0 => ?_)
  refine TL.cls (fun w hw => hw.emptyTab 3) ?_
  refine TL.op (yq (y_bld1 (ev_t rfl) bd_29_1 (fun w hw => ((fun w hw => ((rii_tab 0 rfl) w hw).1) w hw).ln))) rfl rfl rfl ?_
  refine TL.alloc (u := (.agg #[(.slice none 0 0)])) (by kernel_rfl) rfl (fun g1_2 => ?_)
  refine TL.storeAgg (cs := [(.slice none 0 0)]) (us := [v1_0]) 0 (ev_t rfl) (ev_t rfl) agg_29 rfl rfl (fun w hw => (ocs_cons (ln_one ((fun w hw => ((rii_tab 1 rfl) w hw).1) w hw).ln) ocs_nil)) ?_
  refine TL.nil ?_
  refine TN.seq ?_
  refine TC.seq ?_
  refine TC.seq ?_
  refine TC.region ?_
  refine TL.op (yq (y_assign ev_c)) rfl rfl rfl ?_
  refine TL.nil ?_
  refine TN.seq ?_
  refine TC.block ?_
  obtain ⟨c23, hc24⟩ : ∃ c, F_spec_l6Uniform_L1 n d ((((n).toNat) - 0) + 1) (0, ([])) = c := ⟨_, rfl⟩
  rw [hc24] at hF
  refine TC.loop (ι := Nat × Nat × List (List Int) × Value × List Value) (fun (fu1, x1, zg1_2_0_1, vzg1_2_0_1, uzg1_2_0_1) => [(0, (.int .i64 n)), (1, (.int .i64 d)), (4, (.pointer (some ⟨g0_0, 0, none⟩))), (5, (.pointer (some ⟨g1_2, 0, none⟩))), (6, (.int .i64 (x1 : Int)))]) (fun (fu1, x1, zg1_2_0_1, vzg1_2_0_1, uzg1_2_0_1) => Hp w [.blk g1_2 29 [vzg1_2_0_1], tabI 25 3 vzg1_2_0_1 uzg1_2_0_1 zg1_2_0_1, .blk g0_0 29 [(.slice none 0 0)]]) (fun (fu1, x1, zg1_2_0_1, vzg1_2_0_1, uzg1_2_0_1) => (x1 ≤ ((n).toNat)) ∧ (zg1_2_0_1.length ≤ x1) ∧ ((n).toNat) - x1 < fu1 ∧ F_spec_l6Uniform_L1 n d fu1 (x1, zg1_2_0_1) = c23) (fun (fu1, x1, zg1_2_0_1, vzg1_2_0_1, uzg1_2_0_1) => fu1) ((((n).toNat) - 0) + 1, 0, [], v1_0, []) ⟨(by first | omega | (simp [-List.getD_eq_getElem?_getD] <;> omega)), (by first | omega | (simp [-List.getD_eq_getElem?_getD] <;> omega)), (by omega), hc24⟩ ⟨rfl, rfl, rfl, rfl, rfl, trivial⟩ (fun w hw => hw) ?_
  rintro ⟨fu1, x1, zg1_2_0_1, vzg1_2_0_1, uzg1_2_0_1⟩ hJ1
  obtain ⟨hi1_0, hi1_1, hmu1, hL1⟩ : (x1 ≤ ((n).toNat)) ∧ (zg1_2_0_1.length ≤ x1) ∧ ((n).toNat) - x1 < fu1 ∧ F_spec_l6Uniform_L1 n d fu1 (x1, zg1_2_0_1) = c23 := hJ1
  change TC _ _ _ _ (Hp w [.blk g1_2 29 [vzg1_2_0_1], tabI 25 3 vzg1_2_0_1 uzg1_2_0_1 zg1_2_0_1, .blk g0_0 29 [(.slice none 0 0)]]) [(0, (.int .i64 n)), (1, (.int .i64 d)), (4, (.pointer (some ⟨g0_0, 0, none⟩))), (5, (.pointer (some ⟨g1_2, 0, none⟩))), (6, (.int .i64 (x1 : Int)))]
  obtain ⟨mf1, rfl⟩ : ∃ m, fu1 = m + 1 := ⟨fu1 - 1, by omega⟩
  rw [F_spec_l6Uniform_L1_s] at hL1
  refine TC.seq ?_
  refine TC.seq ?_
  refine TC.region ?_
  refine TL.op (yq (y_move (ev_t rfl))) rfl rfl rfl ?_
  refine TL.op (yq (y_move (ev_t rfl))) rfl rfl rfl ?_
  refine TL.op (yq (y_lss (ev_t rfl) (ev_t rfl))) rfl rfl rfl ?_
  refine TL.nil ?_
  refine TN.seq ?_
  refine TC.cond (b := decide ((x1 : Int) < n)) (ev_t rfl) (fun h25 => ?_) (fun h25 => ?_)
  · rw [bif_pos h25] at hL1
    have q26 := (of_decide_eq_true h25)
    refine TC.skip ?_
    refine TN.seq ?_
    refine TC.seq ?_
    refine TC.block ?_
    refine TC.seq ?_
    refine TC.region ?_
    refine TL.buildI (zs := []) (qs := []) slT_25 rfl trivial rfl (by decide) rfl (fun v5_0 => ?_)
    refine TL.op (yq (y_assign (ev_t rfl))) rfl rfl rfl ?_
    refine TL.nil ?_
    refine TN.seq ?_
    refine TC.seq ?_
    refine TC.seq ?_
    refine TC.region ?_
    refine TL.op (yq (y_assign ev_c)) rfl rfl rfl ?_
    refine TL.nil ?_
    refine TN.seq ?_
    refine TC.block ?_
    obtain ⟨c27, hc28⟩ : ∃ c, F_spec_l6Uniform_L2 n d x1 ((((n).toNat) - 0) + 1) (([] : List Int), 0) = c := ⟨_, rfl⟩
    rw [hc28] at hL1
    refine TC.loop (ι := Nat × List Int × Nat × Value) (fun (fu2, row2, y2, vrow2) => [(0, (.int .i64 n)), (1, (.int .i64 d)), (4, (.pointer (some ⟨g0_0, 0, none⟩))), (5, (.pointer (some ⟨g1_2, 0, none⟩))), (6, (.int .i64 (x1 : Int))), (7, vrow2), (8, (.int .i64 (y2 : Int)))]) (fun (fu2, row2, y2, vrow2) => Hp w [rowI 3 vrow2 row2, .blk g1_2 29 [vzg1_2_0_1], tabI 25 3 vzg1_2_0_1 uzg1_2_0_1 zg1_2_0_1, .blk g0_0 29 [(.slice none 0 0)]]) (fun (fu2, row2, y2, vrow2) => (y2 ≤ ((n).toNat)) ∧ (row2.length ≤ y2) ∧ ((n).toNat) - y2 < fu2 ∧ F_spec_l6Uniform_L2 n d x1 fu2 (row2, y2) = c27) (fun (fu2, row2, y2, vrow2) => fu2) ((((n).toNat) - 0) + 1, ([] : List Int), 0, v5_0) ⟨(by first | omega | (simp [-List.getD_eq_getElem?_getD] <;> omega)), (by first | omega | (simp [-List.getD_eq_getElem?_getD] <;> omega)), (by omega), hc28⟩ ⟨rfl, rfl, rfl, rfl, rfl, rfl, rfl, trivial⟩ (fun w hw => hw) ?_
    rintro ⟨fu2, row2, y2, vrow2⟩ hJ2
    obtain ⟨hi2_0, hi2_1, hmu2, hL2⟩ : (y2 ≤ ((n).toNat)) ∧ (row2.length ≤ y2) ∧ ((n).toNat) - y2 < fu2 ∧ F_spec_l6Uniform_L2 n d x1 fu2 (row2, y2) = c27 := hJ2
    change TC _ _ _ _ (Hp w [rowI 3 vrow2 row2, .blk g1_2 29 [vzg1_2_0_1], tabI 25 3 vzg1_2_0_1 uzg1_2_0_1 zg1_2_0_1, .blk g0_0 29 [(.slice none 0 0)]]) [(0, (.int .i64 n)), (1, (.int .i64 d)), (4, (.pointer (some ⟨g0_0, 0, none⟩))), (5, (.pointer (some ⟨g1_2, 0, none⟩))), (6, (.int .i64 (x1 : Int))), (7, vrow2), (8, (.int .i64 (y2 : Int)))]
    obtain ⟨mf2, rfl⟩ : ∃ m, fu2 = m + 1 := ⟨fu2 - 1, by omega⟩
    rw [F_spec_l6Uniform_L2_s] at hL2
    refine TC.seq ?_
    refine TC.seq ?_
    refine TC.region ?_
    refine TL.op (yq (y_move (ev_t rfl))) rfl rfl rfl ?_
    refine TL.op (yq (y_move (ev_t rfl))) rfl rfl rfl ?_
    refine TL.op (yq (y_lss (ev_t rfl) (ev_t rfl))) rfl rfl rfl ?_
    refine TL.nil ?_
    refine TN.seq ?_
    refine TC.cond (b := decide ((y2 : Int) < n)) (ev_t rfl) (fun h29 => ?_) (fun h29 => ?_)
    · rw [bif_pos h29] at hL2
      have q30 := (of_decide_eq_true h29)
      refine TC.skip ?_
      refine TN.seq ?_
      refine TC.seq ?_
      refine TC.block ?_
      refine TC.seq ?_
      refine TC.region ?_
      refine TL.op (yq (y_move (ev_t rfl))) rfl rfl rfl ?_
      refine TL.op (yq (y_move (ev_t rfl))) rfl rfl rfl ?_
      refine TL.op (yq (y_eql (ev_t rfl) (ev_t rfl))) rfl rfl rfl ?_
      refine TL.nil ?_
      refine TN.seq ?_
      refine TC.cond (b := decide ((x1 : Int) = (y2 : Int))) (ev_t rfl) (fun h31 => ?_) (fun h31 => ?_)
      · rw [bif_pos h31] at hL2
        have q32 := (of_decide_eq_true h31)
        refine TC.region ?_
        refine TL.op (yq (y_move (ev_t rfl))) rfl rfl rfl ?_
        refine TL.buildI (zs := [.const (.int .i64 0)]) (qs := [0]) slT_25 rfl ⟨ev_c, trivial⟩ rfl (by decide) rfl (fun v10_1 => ?_)
        refine TL.appendI 1 (ev_t rfl) (ev_t rfl) rfl slT_25 (ri_row 0 rfl) (by first | omega | (simp [-List.getD_eq_getElem?_getD] <;> omega)) rfl (fun v10_2 => ?_)
        refine TL.op (yq (y_assign (ev_t rfl))) rfl rfl rfl ?_
        refine TL.nil ?_
        refine TN.blockN ?_
        refine TN.seq ?_
        refine TC.region ?_
        refine TL.op (yq (y_move (ev_t rfl))) rfl rfl rfl ?_
        refine TL.op (yq (y_add (ev_t rfl) ev_c (by unfold In64; omega))) rfl rfl rfl ?_
        refine TL.op (yq (y_assign (ev_t rfl))) rfl rfl rfl ?_
        refine TL.nil ?_
        exact TN.hand (mf2, (row2 ++ ([0])), (y2 + 1), v10_2) ⟨(by first | omega | (simp [-List.getD_eq_getElem?_getD] <;> omega)), (by first | omega | (simp [-List.getD_eq_getElem?_getD] <;> omega)), (by omega), hL2⟩ (Nat.lt_succ_self _) ⟨rfl, rfl, rfl, rfl, rfl, rfl, rfl, trivial⟩ (fun w hw => Hp.sublist hw (.cons _ (.cons_cons _ (.cons_cons _ (.cons_cons _ (.cons_cons _ .slnil))))))
      · rw [bif_neg h31] at hL2
        have q32 := (of_decide_eq_false h31)
        refine TC.region ?_
        refine TL.op (yq (y_move (ev_t rfl))) rfl rfl rfl ?_
        refine TL.op (yq (y_move (ev_t rfl))) rfl rfl rfl ?_
        refine TL.buildI (zs := [.tmp 29]) (qs := [d]) slT_25 rfl ⟨(ev_t rfl), trivial⟩ rfl (by decide) rfl (fun v11_2 => ?_)
        refine TL.appendI 1 (ev_t rfl) (ev_t rfl) rfl slT_25 (ri_row 0 rfl) (by first | omega | (simp [-List.getD_eq_getElem?_getD] <;> omega)) rfl (fun v11_3 => ?_)
        refine TL.op (yq (y_assign (ev_t rfl))) rfl rfl rfl ?_
        refine TL.nil ?_
        refine TN.blockN ?_
        refine TN.seq ?_
        refine TC.region ?_
        refine TL.op (yq (y_move (ev_t rfl))) rfl rfl rfl ?_
        refine TL.op (yq (y_add (ev_t rfl) ev_c (by unfold In64; omega))) rfl rfl rfl ?_
        refine TL.op (yq (y_assign (ev_t rfl))) rfl rfl rfl ?_
        refine TL.nil ?_
        exact TN.hand (mf2, (row2 ++ ([d])), (y2 + 1), v11_3) ⟨(by first | omega | (simp [-List.getD_eq_getElem?_getD] <;> omega)), (by first | omega | (simp [-List.getD_eq_getElem?_getD] <;> omega)), (by omega), hL2⟩ (Nat.lt_succ_self _) ⟨rfl, rfl, rfl, rfl, rfl, rfl, rfl, trivial⟩ (fun w hw => Hp.sublist hw (.cons _ (.cons_cons _ (.cons_cons _ (.cons_cons _ (.cons_cons _ .slnil))))))
    · rw [bif_neg h29] at hL2
      have q30 := (of_decide_eq_false h29)
      refine TC.exit ?_
      refine TN.thenE ?_
      refine TN.thenE ?_
      rw [← hL2, elim_next] at hL1
      try dsimp only at hL1
      refine TN.blockH ?_
      refine TN.seq ?_
      refine TC.region ?_
      refine TL.op (yq (y_fa (fa_29_0 g1_2) (ev_t rfl))) rfl rfl rfl ?_
      refine TL.op (yq (y_ldb 1 (ev_t rfl) one_22 rfl rfl)) rfl rfl rfl ?_
      refine TL.op (yq (y_move (ev_t rfl))) rfl rfl rfl ?_
      refine TL.buildU slT_22 (ev_t rfl) (fun w hw => ((ri_row 0 rfl) w hw).ln) rfl (fun v12_3 => ?_)
      refine TL.appendT 3 1 rfl (ev_t rfl) (ev_t rfl) rfl rfl slT_22 (rd_row 0 rfl) (by first | omega | (simp [-List.getD_eq_getElem?_getD] <;> omega)) rfl (fun v12_4 => ?_)
      refine TL.op (yq (y_fa (fa_29_0 g1_2) (ev_t rfl))) rfl rfl rfl ?_
      refine TL.storeB 2 (ev_t rfl) (ev_t rfl) one_22 rfl (by first | decide | simp) (fun w hw => (ln_one ((fun w hw => ((rii_tab 3 rfl) w hw).1) w hw).ln)) ?_
      refine TL.nil ?_
      refine TN.blockN ?_
      refine TN.seq ?_
      refine TC.region ?_
      refine TL.op (yq (y_move (ev_t rfl))) rfl rfl rfl ?_
      refine TL.op (yq (y_add (ev_t rfl) ev_c (by unfold In64; omega))) rfl rfl rfl ?_
      refine TL.op (yq (y_assign (ev_t rfl))) rfl rfl rfl ?_
      refine TL.nil ?_
      exact TN.hand (mf1, (x1 + 1), (zg1_2_0_1 ++ [row2]), v12_4, (uzg1_2_0_1 ++ [vrow2])) ⟨(by first | omega | (simp [-List.getD_eq_getElem?_getD] <;> omega)), (by first | omega | (simp [-List.getD_eq_getElem?_getD] <;> omega)), (by omega), hL1⟩ (Nat.lt_succ_self _) ⟨rfl, rfl, rfl, rfl, rfl, trivial⟩ (fun w hw => Hp.sublist hw (.cons _ (.cons _ (.cons_cons _ (.cons_cons _ (.cons_cons _ .slnil))))))
  · rw [bif_neg h25] at hL1
    have q26 := (of_decide_eq_false h25)
    refine TC.exit ?_
    refine TN.thenE ?_
    refine TN.thenE ?_
    rw [← hL1, elim_next] at hF
    try dsimp only at hF
    refine TN.blockH ?_
    refine TN.seq ?_
    refine TC.seq ?_
    refine TC.region ?_
    refine TL.op (yq (y_ldagg (cs := [vzg1_2_0_1]) 0 (ev_t rfl) agg_29 rfl)) rfl rfl rfl ?_
    refine TL.storeAgg (cs := [(.slice none 0 0)]) (us := [vzg1_2_0_1]) 2 (ev_t rfl) (ev_t rfl) agg_29 rfl rfl (fun w hw => (ocs_cons (ln_one ((fun w hw => ((rii_tab 1 rfl) w hw).1) w hw).ln) ocs_nil)) ?_
    refine TL.nil ?_
    refine TN.seq ?_
    refine TC.ret ?_
    subst hF
    exact TN.retC (cs := [vzg1_2_0_1]) 2 (by simp) rfl (ev_t rfl) agg_29 rfl (fun w' hw => ⟨(vzg1_2_0_1, uzg1_2_0_1), rfl, Hp.sublist hw (.cons _ (.cons_cons _ (.cons _ .slnil)))⟩)

set_option maxRecDepth 4000 in
set_option maxHeartbeats 1000000 in
theorem impl_metricOf_ok (w0 w : World) (fr : List Ck) (vdist : Value) (udist : List Value) (dist : List (List Int)) (hw : Hp w0 (tabI 25 3 vdist udist dist :: fr) w)  :
    Calls Try.prog 77 ([vdist] : List Value).toArray w (fun e w' => ∃ i : Value × List Value, e = .returned (.tuple #[(.agg #[i.1]), (.bool ((F_impl_metricOf dist).2))]) ∧ Hp w0 ([tabI 25 3 i.1 i.2 ((F_impl_metricOf dist).1)] ++ fr) w') := by
  obtain ⟨rz, hF⟩ : ∃ rz, (F_impl_metricOf dist) = rz := ⟨_, rfl⟩
  rw [hF]
  unfold F_impl_metricOf at hF
  have hlen_dist : dist.length ≤ 9223372036854775807 := (hw.get 0 rfl).maxn
  refine calls_tcm Try.func77 rfl rfl rfl hw ?_
  change TC _ _ _ _ (Hp w0 ([tabI 25 3 vdist udist dist] ++ fr)) [(0, vdist)]
  refine TC.seq ?_
  refine TC.region ?_
  refine TL.alloc (u := (.agg #[(.slice none 0 0)])) (by kernel_rfl) rfl (fun g0_0 => ?_)
  refine TL.op (yq (y_assign ev_c)) rfl rfl rfl ?_
  refine TL.nil ?_
  refine TN.seq ?_
  refine TC.seq ?_
  refine TC.region ?_
  refine TL.op (yq (y_move (ev_t rfl))) rfl rfl rfl ?_
  refine TL.op (yq (y_bld1 (ev_t rfl) bd_29_1 (fun w hw => ((fun w hw => ((rii_tab 1 rfl) w hw).1) w hw).ln))) rfl rfl rfl ?_
  refine TL.alloc (u := (.agg #[(.slice none 0 0)])) (by kernel_rfl) rfl (fun g1_2 => ?_)
  refine TL.storeAgg (cs := [(.slice none 0 0)]) (us := [vdist]) 0 (ev_t rfl) (ev_t rfl) agg_29 rfl rfl (fun w hw => (ocs_cons (ln_one ((fun w hw => ((rii_tab 2 rfl) w hw).1) w hw).ln) ocs_nil)) ?_
  refine TL.nil ?_
  refine TN.seq ?_
  refine TC.seq ?_
  refine TC.seq ?_
  refine TC.region ?_
  refine TL.op (yq (y_ldagg (cs := [vdist]) 0 (ev_t rfl) agg_29 rfl)) rfl rfl rfl ?_
  refine TL.op (y_call (vs := [(.agg #[vdist])]) (v := (.bool (F_impl_IsMetric dist))) en_55 ⟨(ev_t rfl), trivial⟩ (fun w hw => impl_IsMetric_ok w vdist udist dist ((rii_tab 2 rfl) w hw))) rfl rfl rfl ?_
  refine TL.op (yq (y_not (ev_t rfl))) rfl rfl rfl ?_
  refine TL.nil ?_
  refine TN.seq ?_
  refine TC.cond (b := !(F_impl_IsMetric dist)) (ev_t rfl) (fun h3 => ?_) (fun h3 => ?_)
  · rw [bif_pos h3] at hF
    have q4 := (not_t h3)
    refine TC.seq ?_
    refine TC.region ?_
    refine TL.op (yq (y_bld0 bd_29_0)) rfl rfl rfl ?_
    refine TL.storeAgg (cs := [(.slice none 0 0)]) (us := [(.slice none 0 0)]) 1 (ev_t rfl) (ev_t rfl) agg_29 rfl rfl (fun w hw => (ocs_cons rfl ocs_nil)) ?_
    refine TL.op (yq (y_assign ev_c)) rfl rfl rfl ?_
    refine TL.nil ?_
    refine TN.seq ?_
    refine TC.ret ?_
    refine TN.thenR ?_
    subst hF
    refine TN.cls (fun w hw => hw.nilTab 25 3) ?_
    exact TN.retCT (cs := [(.slice none 0 0)]) 2 (by simp) rfl (ev_t rfl) (ev_t rfl) agg_29 rfl (fun w' hw => ⟨((.slice none 0 0), []), rfl, Hp.sublist hw (.cons_cons _ (.cons _ (.cons _ (.cons _ (List.Sublist.refl _)))))⟩)
  · rw [bif_neg h3] at hF
    have q4 := (isMetric_t (not_f h3))
    refine TC.skip ?_
    refine TN.seq ?_
    refine TC.seq ?_
    refine TC.region ?_
    refine TL.op (yq (y_ldagg (cs := [vdist]) 0 (ev_t rfl) agg_29 rfl)) rfl rfl rfl ?_
    refine TL.storeAgg (cs := [(.slice none 0 0)]) (us := [vdist]) 1 (ev_t rfl) (ev_t rfl) agg_29 rfl rfl (fun w hw => (ocs_cons (ln_one ((fun w hw => ((rii_tab 2 rfl) w hw).1) w hw).ln) ocs_nil)) ?_
    refine TL.op (yq (y_assign ev_c)) rfl rfl rfl ?_
    refine TL.nil ?_
    refine TN.seq ?_
    refine TC.ret ?_
    subst hF
    exact TN.retCT (cs := [vdist]) 1 (by simp) rfl (ev_t rfl) (ev_t rfl) agg_29 rfl (fun w' hw => ⟨(vdist, udist), rfl, Hp.sublist hw (.cons _ (.cons _ (.cons_cons _ (List.Sublist.refl _))))⟩)


end Go.Proofs.Ytcfjjnajeccbhaa
