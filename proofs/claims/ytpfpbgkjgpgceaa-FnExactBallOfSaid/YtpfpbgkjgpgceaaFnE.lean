/-
  Walks of functions of the program: each computes its plain function. No condition but the bounds that are typed.
-/
import Derived.Test.YtpfpbgkjgpgceaaFnD
import Derived.Test.YtpfpbgkjgpgceaaDefE
import Derived.Test.YtpfpbgkjgpgceaaLawMet
namespace Go.Proofs.Ytpfpbgkjgpgceaa
open Go Go.RowKit

set_option maxRecDepth 4000 in
set_option maxHeartbeats 1000000 in
theorem spec_l6Uniform_ok (w : World) (n : Int) (d : Int) (hp0 : n ≤ 1000000) :
    Calls Try.prog 73 ([(.int .i64 n), (.int .i64 d)] : List Value).toArray w (fun e w' => ∃ i : Value × List Value, e = .returned (.agg #[i.1]) ∧ Hp w [tabI 28 3 i.1 i.2 (F_spec_l6Uniform n d)] w') := by
  obtain ⟨rz, hF⟩ : ∃ rz, (F_spec_l6Uniform n d) = rz := ⟨_, rfl⟩
  rw [hF]
  unfold F_spec_l6Uniform at hF
  refine calls_tc Try.func73 rfl rfl rfl ?_
  change TC _ _ _ _ (Hp w []) [(0, (.int .i64 n)), (1, (.int .i64 d))]
  refine TC.seq ?_
  refine TC.region ?_
  refine TL.alloc (u := (.agg #[(.slice none 0 0)])) (by kernel_rfl) rfl (fun g0_0 => ?_)
  refine TL.nil ?_
  refine TN.seq ?_
  refine TC.seq ?_
  refine TC.region ?_
  refine TL.buildSlice (zs := []) (vs := []) slT_22 rfl trivial (by simp) rfl (by decide) rfl (fun v1_0 => ?_)
  refine TL.cls (fun w hw => hw.emptyTab 3) ?_
  refine TL.op (yq (y_bld1 (ev_t rfl) bd_37_1 (fun w hw => ((fun w hw => ((rii_tab 0 rfl) w hw).1) w hw).ln))) rfl rfl rfl ?_
  refine TL.alloc (u := (.agg #[(.slice none 0 0)])) (by kernel_rfl) rfl (fun g1_2 => ?_)
  refine TL.storeAgg (cs := [(.slice none 0 0)]) (us := [v1_0]) 0 (ev_t rfl) (ev_t rfl) agg_37 rfl rfl (fun w hw => (ocs_cons (ln_one ((fun w hw => ((rii_tab 1 rfl) w hw).1) w hw).ln) ocs_nil)) ?_
  refine TL.nil ?_
  refine TN.seq ?_
  refine TC.seq ?_
  refine TC.seq ?_
  refine TC.region ?_
  refine TL.op (yq (y_assign ev_c)) rfl rfl rfl ?_
  refine TL.nil ?_
  refine TN.seq ?_
  refine TC.block ?_
  obtain ⟨c23, hc24⟩ : ∃ c, F_spec_l6Uniform_L1 n d ((((n).toNat) - 0) + 1) (0, ([])) = c := ⟨_, rfl⟩
  rw [hc24] at hF
  refine TC.loop (ι := Nat × Nat × List (List Int) × Value × List Value) (fun (fu1, x1, zg1_2_0_1, vzg1_2_0_1, uzg1_2_0_1) => [(0, (.int .i64 n)), (1, (.int .i64 d)), (4, (.pointer (some ⟨g0_0, 0, none⟩))), (5, (.pointer (some ⟨g1_2, 0, none⟩))), (6, (.int .i64 (x1 : Int)))]) (fun (fu1, x1, zg1_2_0_1, vzg1_2_0_1, uzg1_2_0_1) => Hp w [.blk g1_2 37 [vzg1_2_0_1], tabI 28 3 vzg1_2_0_1 uzg1_2_0_1 zg1_2_0_1, .blk g0_0 37 [(.slice none 0 0)]]) (fun (fu1, x1, zg1_2_0_1, vzg1_2_0_1, uzg1_2_0_1) => (x1 ≤ ((n).toNat)) ∧ (zg1_2_0_1.length ≤ x1) ∧ ((n).toNat) - x1 < fu1 ∧ F_spec_l6Uniform_L1 n d fu1 (x1, zg1_2_0_1) = c23) (fun (fu1, x1, zg1_2_0_1, vzg1_2_0_1, uzg1_2_0_1) => fu1) ((((n).toNat) - 0) + 1, 0, [], v1_0, []) ⟨(by first | omega | (simp [-List.getD_eq_getElem?_getD] <;> omega)), (by first | omega | (simp [-List.getD_eq_getElem?_getD] <;> omega)), (by omega), hc24⟩ ⟨rfl, rfl, rfl, rfl, rfl, trivial⟩ (fun w hw => hw) ?_
  rintro ⟨fu1, x1, zg1_2_0_1, vzg1_2_0_1, uzg1_2_0_1⟩ hJ1
  obtain ⟨hi1_0, hi1_1, hmu1, hL1⟩ : (x1 ≤ ((n).toNat)) ∧ (zg1_2_0_1.length ≤ x1) ∧ ((n).toNat) - x1 < fu1 ∧ F_spec_l6Uniform_L1 n d fu1 (x1, zg1_2_0_1) = c23 := hJ1
  change TC _ _ _ _ (Hp w [.blk g1_2 37 [vzg1_2_0_1], tabI 28 3 vzg1_2_0_1 uzg1_2_0_1 zg1_2_0_1, .blk g0_0 37 [(.slice none 0 0)]]) [(0, (.int .i64 n)), (1, (.int .i64 d)), (4, (.pointer (some ⟨g0_0, 0, none⟩))), (5, (.pointer (some ⟨g1_2, 0, none⟩))), (6, (.int .i64 (x1 : Int)))]
  obtain ⟨mf1, rfl⟩ : ∃ m, fu1 = m + 1 := ⟨fu1 - 1, by omega⟩
  rw [F_spec_l6Uniform_L1_s] at hL1
  refine TC.seq ?_
  refine TC.seq ?_
  refine TC.region ?_
  refine TL.op (yq (y_move (ev_t rfl))) rfl rfl rfl ?_
  refine TL.op (yq (y_move (ev_t rfl))) rfl rfl rfl ?_
  refine TL.op (yq (y_lss (ev_t rfl) (ev_t rfl))) rfl rfl rfl ?_
  refine TL.nil ?_
  refine TN.seq ?_
  refine TC.cond (b := decide ((x1 : Int) < n)) (ev_t rfl) (fun h25 => ?_) (fun h25 => ?_)
  · rw [bif_pos h25] at hL1
    have q26 := (of_decide_eq_true h25)
    refine TC.skip ?_
    refine TN.seq ?_
    refine TC.seq ?_
    refine TC.block ?_
    refine TC.seq ?_
    refine TC.region ?_
    refine TL.buildI (zs := []) (qs := []) slT_28 rfl trivial rfl (by decide) rfl (fun v5_0 => ?_)
    refine TL.op (yq (y_assign (ev_t rfl))) rfl rfl rfl ?_
    refine TL.nil ?_
    refine TN.seq ?_
    refine TC.seq ?_
    refine TC.seq ?_
    refine TC.region ?_
    refine TL.op (yq (y_assign ev_c)) rfl rfl rfl ?_
    refine TL.nil ?_
    refine TN.seq ?_
    refine TC.block ?_
    obtain ⟨c27, hc28⟩ : ∃ c, F_spec_l6Uniform_L2 n d x1 ((((n).toNat) - 0) + 1) (([] : List Int), 0) = c := ⟨_, rfl⟩
    rw [hc28] at hL1
    refine TC.loop (ι := Nat × List Int × Nat × Value) (fun (fu2, row2, y2, vrow2) => [(0, (.int .i64 n)), (1, (.int .i64 d)), (4, (.pointer (some ⟨g0_0, 0, none⟩))), (5, (.pointer (some ⟨g1_2, 0, none⟩))), (6, (.int .i64 (x1 : Int))), (7, vrow2), (8, (.int .i64 (y2 : Int)))]) (fun (fu2, row2, y2, vrow2) => Hp w [rowI 3 vrow2 row2, .blk g1_2 37 [vzg1_2_0_1], tabI 28 3 vzg1_2_0_1 uzg1_2_0_1 zg1_2_0_1, .blk g0_0 37 [(.slice none 0 0)]]) (fun (fu2, row2, y2, vrow2) => (y2 ≤ ((n).toNat)) ∧ (row2.length ≤ y2) ∧ ((n).toNat) - y2 < fu2 ∧ F_spec_l6Uniform_L2 n d x1 fu2 (row2, y2) = c27) (fun (fu2, row2, y2, vrow2) => fu2) ((((n).toNat) - 0) + 1, ([] : List Int), 0, v5_0) ⟨(by first | omega | (simp [-List.getD_eq_getElem?_getD] <;> omega)), (by first | omega | (simp [-List.getD_eq_getElem?_getD] <;> omega)), (by omega), hc28⟩ ⟨rfl, rfl, rfl, rfl, rfl, rfl, rfl, trivial⟩ (fun w hw => hw) ?_
    rintro ⟨fu2, row2, y2, vrow2⟩ hJ2
    obtain ⟨hi2_0, hi2_1, hmu2, hL2⟩ : (y2 ≤ ((n).toNat)) ∧ (row2.length ≤ y2) ∧ ((n).toNat) - y2 < fu2 ∧ F_spec_l6Uniform_L2 n d x1 fu2 (row2, y2) = c27 := hJ2
    change TC _ _ _ _ (Hp w [rowI 3 vrow2 row2, .blk g1_2 37 [vzg1_2_0_1], tabI 28 3 vzg1_2_0_1 uzg1_2_0_1 zg1_2_0_1, .blk g0_0 37 [(.slice none 0 0)]]) [(0, (.int .i64 n)), (1, (.int .i64 d)), (4, (.pointer (some ⟨g0_0, 0, none⟩))), (5, (.pointer (some ⟨g1_2, 0, none⟩))), (6, (.int .i64 (x1 : Int))), (7, vrow2), (8, (.int .i64 (y2 : Int)))]
    obtain ⟨mf2, rfl⟩ : ∃ m, fu2 = m + 1 := ⟨fu2 - 1, by omega⟩
    rw [F_spec_l6Uniform_L2_s] at hL2
    refine TC.seq ?_
    refine TC.seq ?_
    refine TC.region ?_
    refine TL.op (yq (y_move (ev_t rfl))) rfl rfl rfl ?_
    refine TL.op (yq (y_move (ev_t rfl))) rfl rfl rfl ?_
    refine TL.op (yq (y_lss (ev_t rfl) (ev_t rfl))) rfl rfl rfl ?_
    refine TL.nil ?_
    refine TN.seq ?_
    refine TC.cond (b := decide ((y2 : Int) < n)) (ev_t rfl) (fun h29 => ?_) (fun h29 => ?_)
    · rw [bif_pos h29] at hL2
      have q30 := (of_decide_eq_true h29)
      refine TC.skip ?_
      refine TN.seq ?_
      refine TC.seq ?_
      refine TC.block ?_
      refine TC.seq ?_
      refine TC.region ?_
      refine TL.op (yq (y_move (ev_t rfl))) rfl rfl rfl ?_
      refine TL.op (yq (y_move (ev_t rfl))) rfl rfl rfl ?_
      refine TL.op (yq (y_eql (ev_t rfl) (ev_t rfl))) rfl rfl rfl ?_
      refine TL.nil ?_
      refine TN.seq ?_
      refine TC.cond (b := decide ((x1 : Int) = (y2 : Int))) (ev_t rfl) (fun h31 => ?_) (fun h31 => ?_)
      · rw [bif_pos h31] at hL2
        have q32 := (of_decide_eq_true h31)
        refine TC.region ?_
        refine TL.op (yq (y_move (ev_t rfl))) rfl rfl rfl ?_
        refine TL.buildI (zs := [.const (.int .i64 0)]) (qs := [0]) slT_28 rfl ⟨ev_c, trivial⟩ rfl (by decide) rfl (fun v10_1 => ?_)
        refine TL.appendI 1 (ev_t rfl) (ev_t rfl) rfl slT_28 (ri_row 0 rfl) (by first | omega | (simp [-List.getD_eq_getElem?_getD] <;> omega)) rfl (fun v10_2 => ?_)
        refine TL.op (yq (y_assign (ev_t rfl))) rfl rfl rfl ?_
        refine TL.nil ?_
        refine TN.blockN ?_
        refine TN.seq ?_
        refine TC.region ?_
        refine TL.op (yq (y_move (ev_t rfl))) rfl rfl rfl ?_
        refine TL.op (yq (y_add (ev_t rfl) ev_c (by unfold In64; omega))) rfl rfl rfl ?_
        refine TL.op (yq (y_assign (ev_t rfl))) rfl rfl rfl ?_
        refine TL.nil ?_
        exact TN.hand (mf2, (row2 ++ ([0])), (y2 + 1), v10_2) ⟨(by first | omega | (simp [-List.getD_eq_getElem?_getD] <;> omega)), (by first | omega | (simp [-List.getD_eq_getElem?_getD] <;> omega)), (by omega), hL2⟩ (Nat.lt_succ_self _) ⟨rfl, rfl, rfl, rfl, rfl, rfl, rfl, trivial⟩ (fun w hw => Hp.sublist hw (.cons _ (.cons_cons _ (.cons_cons _ (.cons_cons _ (.cons_cons _ .slnil))))))
      · rw [bif_neg h31] at hL2
        have q32 := (of_decide_eq_false h31)
        refine TC.region ?_
        refine TL.op (yq (y_move (ev_t rfl))) rfl rfl rfl ?_
        refine TL.op (yq (y_move (ev_t rfl))) rfl rfl rfl ?_
        refine TL.buildI (zs := [.tmp 29]) (qs := [d]) slT_28 rfl ⟨(ev_t rfl), trivial⟩ rfl (by decide) rfl (fun v11_2 => ?_)
        refine TL.appendI 1 (ev_t rfl) (ev_t rfl) rfl slT_28 (ri_row 0 rfl) (by first | omega | (simp [-List.getD_eq_getElem?_getD] <;> omega)) rfl (fun v11_3 => ?_)
        refine TL.op (yq (y_assign (ev_t rfl))) rfl rfl rfl ?_
        refine TL.nil ?_
        refine TN.blockN ?_
        refine TN.seq ?_
        refine TC.region ?_
        refine TL.op (yq (y_move (ev_t rfl))) rfl rfl rfl ?_
        refine TL.op (yq (y_add (ev_t rfl) ev_c (by unfold In64; omega))) rfl rfl rfl ?_
        refine TL.op (yq (y_assign (ev_t rfl))) rfl rfl rfl ?_
        refine TL.nil ?_
        exact TN.hand (mf2, (row2 ++ ([d])), (y2 + 1), v11_3) ⟨(by first | omega | (simp [-List.getD_eq_getElem?_getD] <;> omega)), (by first | omega | (simp [-List.getD_eq_getElem?_getD] <;> omega)), (by omega), hL2⟩ (Nat.lt_succ_self _) ⟨rfl, rfl, rfl, rfl, rfl, rfl, rfl, trivial⟩ (fun w hw => Hp.sublist hw (.cons _ (.cons_cons _ (.cons_cons _ (.cons_cons _ (.cons_cons _ .slnil))))))
    · rw [bif_neg h29] at hL2
      have q30 := (of_decide_eq_false h29)
      refine TC.exit ?_
      refine TN.thenE ?_
      refine TN.thenE ?_
      rw [← hL2, elim_next] at hL1
      try dsimp only at hL1
      refine TN.blockH ?_
      refine TN.seq ?_
      refine TC.region ?_
      refine TL.op (yq (y_fa (fa_37_0 g1_2) (ev_t rfl))) rfl rfl rfl ?_
      refine TL.op (yq (y_ldb 1 (ev_t rfl) one_22 rfl rfl)) rfl rfl rfl ?_
      refine TL.op (yq (y_move (ev_t rfl))) rfl rfl rfl ?_
      refine TL.buildU slT_22 (ev_t rfl) (fun w hw => ((ri_row 0 rfl) w hw).ln) rfl (fun v12_3 => ?_)
      refine TL.appendT 3 1 rfl (ev_t rfl) (ev_t rfl) rfl rfl slT_22 (rd_row 0 rfl) (by first | omega | (simp [-List.getD_eq_getElem?_getD] <;> omega)) rfl (fun v12_4 => ?_)
      refine TL.op (yq (y_fa (fa_37_0 g1_2) (ev_t rfl))) rfl rfl rfl ?_
      refine TL.storeB 2 (ev_t rfl) (ev_t rfl) one_22 rfl (by first | decide | simp) (fun w hw => (ln_one ((fun w hw => ((rii_tab 3 rfl) w hw).1) w hw).ln)) ?_
      refine TL.nil ?_
      refine TN.blockN ?_
      refine TN.seq ?_
      refine TC.region ?_
      refine TL.op (yq (y_move (ev_t rfl))) rfl rfl rfl ?_
      refine TL.op (yq (y_add (ev_t rfl) ev_c (by unfold In64; omega))) rfl rfl rfl ?_
      refine TL.op (yq (y_assign (ev_t rfl))) rfl rfl rfl ?_
      refine TL.nil ?_
      exact TN.hand (mf1, (x1 + 1), (zg1_2_0_1 ++ [row2]), v12_4, (uzg1_2_0_1 ++ [vrow2])) ⟨(by first | omega | (simp [-List.getD_eq_getElem?_getD] <;> omega)), (by first | omega | (simp [-List.getD_eq_getElem?_getD] <;> omega)), (by omega), hL1⟩ (Nat.lt_succ_self _) ⟨rfl, rfl, rfl, rfl, rfl, trivial⟩ (fun w hw => Hp.sublist hw (.cons _ (.cons _ (.cons_cons _ (.cons_cons _ (.cons_cons _ .slnil))))))
  · rw [bif_neg h25] at hL1
    have q26 := (of_decide_eq_false h25)
    refine TC.exit ?_
    refine TN.thenE ?_
    refine TN.thenE ?_
    rw [← hL1, elim_next] at hF
    try dsimp only at hF
    refine TN.blockH ?_
    refine TN.seq ?_
    refine TC.seq ?_
    refine TC.region ?_
    refine TL.op (yq (y_ldagg (cs := [vzg1_2_0_1]) 0 (ev_t rfl) agg_37 rfl)) rfl rfl rfl ?_
    refine TL.storeAgg (cs := [(.slice none 0 0)]) (us := [vzg1_2_0_1]) 2 (ev_t rfl) (ev_t rfl) agg_37 rfl rfl (fun w hw => (ocs_cons (ln_one ((fun w hw => ((rii_tab 1 rfl) w hw).1) w hw).ln) ocs_nil)) ?_
    refine TL.nil ?_
    refine TN.seq ?_
    refine TC.ret ?_
    subst hF
    exact TN.retC (cs := [vzg1_2_0_1]) 2 (by simp) rfl (ev_t rfl) agg_37 rfl (fun w' hw => ⟨(vzg1_2_0_1, uzg1_2_0_1), rfl, Hp.sublist hw (.cons _ (.cons_cons _ (.cons _ .slnil)))⟩)

set_option maxRecDepth 4000 in
set_option maxHeartbeats 1000000 in
theorem impl_metricOf_ok (w0 w : World) (fr : List Ck) (vdist : Value) (udist : List Value) (dist : List (List Int)) (hw : Hp w0 (tabI 28 3 vdist udist dist :: fr) w)  :
    Calls Try.prog 104 ([vdist] : List Value).toArray w (fun e w' => ∃ i : Value × List Value, e = .returned (.tuple #[(.agg #[i.1]), (.bool ((F_impl_metricOf dist).2))]) ∧ Hp w0 ([tabI 28 3 i.1 i.2 ((F_impl_metricOf dist).1)] ++ fr) w') := by
  obtain ⟨rz, hF⟩ : ∃ rz, (F_impl_metricOf dist) = rz := ⟨_, rfl⟩
  rw [hF]
  unfold F_impl_metricOf at hF
  have hlen_dist : dist.length ≤ 9223372036854775807 := (hw.get 0 rfl).maxn
  refine calls_tcm Try.func104 rfl rfl rfl hw ?_
  change TC _ _ _ _ (Hp w0 ([tabI 28 3 vdist udist dist] ++ fr)) [(0, vdist)]
  refine TC.seq ?_
  refine TC.region ?_
  refine TL.alloc (u := (.agg #[(.slice none 0 0)])) (by kernel_rfl) rfl (fun g0_0 => ?_)
  refine TL.op (yq (y_assign ev_c)) rfl rfl rfl ?_
  refine TL.nil ?_
  refine TN.seq ?_
  refine TC.seq ?_
  refine TC.region ?_
  refine TL.op (yq (y_move (ev_t rfl))) rfl rfl rfl ?_
  refine TL.op (yq (y_bld1 (ev_t rfl) bd_37_1 (fun w hw => ((fun w hw => ((rii_tab 1 rfl) w hw).1) w hw).ln))) rfl rfl rfl ?_
  refine TL.alloc (u := (.agg #[(.slice none 0 0)])) (by kernel_rfl) rfl (fun g1_2 => ?_)
  refine TL.storeAgg (cs := [(.slice none 0 0)]) (us := [vdist]) 0 (ev_t rfl) (ev_t rfl) agg_37 rfl rfl (fun w hw => (ocs_cons (ln_one ((fun w hw => ((rii_tab 2 rfl) w hw).1) w hw).ln) ocs_nil)) ?_
  refine TL.nil ?_
  refine TN.seq ?_
  refine TC.seq ?_
  refine TC.seq ?_
  refine TC.region ?_
  refine TL.op (yq (y_ldagg (cs := [vdist]) 0 (ev_t rfl) agg_37 rfl)) rfl rfl rfl ?_
  refine TL.op (y_call (vs := [(.agg #[vdist])]) (v := (.bool (F_impl_IsMetric dist))) en_29 ⟨(ev_t rfl), trivial⟩ (fun w hw => impl_IsMetric_ok w vdist udist dist ((rii_tab 2 rfl) w hw))) rfl rfl rfl ?_
  refine TL.op (yq (y_not (ev_t rfl))) rfl rfl rfl ?_
  refine TL.nil ?_
  refine TN.seq ?_
  refine TC.cond (b := !(F_impl_IsMetric dist)) (ev_t rfl) (fun h3 => ?_) (fun h3 => ?_)
  · rw [bif_pos h3] at hF
    have q4 := (not_t h3)
    refine TC.seq ?_
    refine TC.region ?_
    refine TL.op (yq (y_bld0 bd_37_0)) rfl rfl rfl ?_
    refine TL.storeAgg (cs := [(.slice none 0 0)]) (us := [(.slice none 0 0)]) 1 (ev_t rfl) (ev_t rfl) agg_37 rfl rfl (fun w hw => (ocs_cons rfl ocs_nil)) ?_
    refine TL.op (yq (y_assign ev_c)) rfl rfl rfl ?_
    refine TL.nil ?_
    refine TN.seq ?_
    refine TC.ret ?_
    refine TN.thenR ?_
    subst hF
    refine TN.cls (fun w hw => hw.nilTab 28 3) ?_
    exact TN.retCT (cs := [(.slice none 0 0)]) 2 (by simp) rfl (ev_t rfl) (ev_t rfl) agg_37 rfl (fun w' hw => ⟨((.slice none 0 0), []), rfl, Hp.sublist hw (.cons_cons _ (.cons _ (.cons _ (.cons _ (List.Sublist.refl _)))))⟩)
  · rw [bif_neg h3] at hF
    have q4 := (isMetric_t (not_f h3))
    refine TC.skip ?_
    refine TN.seq ?_
    refine TC.seq ?_
    refine TC.region ?_
    refine TL.op (yq (y_ldagg (cs := [vdist]) 0 (ev_t rfl) agg_37 rfl)) rfl rfl rfl ?_
    refine TL.storeAgg (cs := [(.slice none 0 0)]) (us := [vdist]) 1 (ev_t rfl) (ev_t rfl) agg_37 rfl rfl (fun w hw => (ocs_cons (ln_one ((fun w hw => ((rii_tab 2 rfl) w hw).1) w hw).ln) ocs_nil)) ?_
    refine TL.op (yq (y_assign ev_c)) rfl rfl rfl ?_
    refine TL.nil ?_
    refine TN.seq ?_
    refine TC.ret ?_
    subst hF
    exact TN.retCT (cs := [vdist]) 1 (by simp) rfl (ev_t rfl) (ev_t rfl) agg_37 rfl (fun w' hw => ⟨(vdist, udist), rfl, Hp.sublist hw (.cons _ (.cons _ (.cons_cons _ (List.Sublist.refl _))))⟩)

set_option maxRecDepth 4000 in
set_option maxHeartbeats 1000000 in
theorem impl_metricBy_ok (w : World) (n : Int) (kdst : Nat) (cdst : List Value) (dst : Int → Int → Int) (edst : En Try.prog kdst) (hdst : ∀ (w' : World) (_ : Below w.heap.size w w') (x0 : Int) (x1 : Int), 0 ≤ x0 ∧ x0 < n ∧ 0 ≤ x1 ∧ x1 < n → Calls Try.prog kdst ([(.int .i64 x0), (.int .i64 x1)] ++ cdst : List Value).toArray w' (Ret (.int .i64 (dst x0 x1)) (Hp w' []))) (hp0 : n ≤ 1000000) :
    Calls Try.prog 74 ([(.int .i64 n), (.func (.func kdst) #[] cdst.toArray)] : List Value).toArray w (fun e w' => ∃ i : Value × List Value, e = .returned (.tuple #[(.agg #[i.1]), (.bool ((F_impl_metricBy n dst).2))]) ∧ Hp w [tabI 28 3 i.1 i.2 ((F_impl_metricBy n dst).1)] w') := by
  obtain ⟨rz, hF⟩ : ∃ rz, (F_impl_metricBy n dst) = rz := ⟨_, rfl⟩
  rw [hF]
  unfold F_impl_metricBy at hF
  refine calls_tc Try.func74 rfl rfl rfl ?_
  change TC _ _ _ _ (Hp w []) [(0, (.int .i64 n)), (1, (.func (.func kdst) #[] cdst.toArray))]
  refine TC.seq ?_
  refine TC.region ?_
  refine TL.alloc (u := (.agg #[(.slice none 0 0)])) (by kernel_rfl) rfl (fun g0_0 => ?_)
  refine TL.op (yq (y_assign ev_c)) rfl rfl rfl ?_
  refine TL.nil ?_
  refine TN.seq ?_
  refine TC.seq ?_
  refine TC.region ?_
  refine TL.buildSlice (zs := []) (vs := []) slT_22 rfl trivial (by simp) rfl (by decide) rfl (fun v1_0 => ?_)
  refine TL.cls (fun w hw => hw.emptyTab 3) ?_
  refine TL.op (yq (y_assign (ev_t rfl))) rfl rfl rfl ?_
  refine TL.nil ?_
  refine TN.seq ?_
  refine TC.seq ?_
  refine TC.seq ?_
  refine TC.region ?_
  refine TL.op (yq (y_move (ev_t rfl))) rfl rfl rfl ?_
  refine TL.op (yq (y_move ev_c)) rfl rfl rfl ?_
  refine TL.nil ?_
  refine TN.seq ?_
  refine TC.block ?_
  obtain ⟨c17, hc18⟩ : ∃ c, F_impl_metricBy_L1 n dst ((((n).toNat) - 0) + 1) (([]), 0) = c := ⟨_, rfl⟩
  rw [hc18] at hF
  refine TC.loop (ι := Nat × List (List Int) × Nat × Value × List Value) (fun (fu1, dist1, k12_1, vdist1, udist1) => [(0, (.int .i64 n)), (1, (.func (.func kdst) #[] cdst.toArray)), (4, (.pointer (some ⟨g0_0, 0, none⟩))), (6, vdist1), (11, (.int .i64 n)), (12, (.int .i64 (k12_1 : Int)))]) (fun (fu1, dist1, k12_1, vdist1, udist1) => Hp w [tabI 28 3 vdist1 udist1 dist1, .blk g0_0 37 [(.slice none 0 0)]]) (fun (fu1, dist1, k12_1, vdist1, udist1) => (k12_1 ≤ ((n).toNat)) ∧ (dist1.length ≤ k12_1) ∧ ((n).toNat) - k12_1 < fu1 ∧ F_impl_metricBy_L1 n dst fu1 (dist1, k12_1) = c17) (fun (fu1, dist1, k12_1, vdist1, udist1) => fu1) ((((n).toNat) - 0) + 1, [], 0, v1_0, []) ⟨(by first | omega | (simp [-List.getD_eq_getElem?_getD] <;> omega)), (by first | omega | (simp [-List.getD_eq_getElem?_getD] <;> omega)), (by omega), hc18⟩ ⟨rfl, rfl, rfl, rfl, rfl, rfl, trivial⟩ (fun w hw => hw) ?_
  rintro ⟨fu1, dist1, k12_1, vdist1, udist1⟩ hJ1
  obtain ⟨hi1_0, hi1_1, hmu1, hL1⟩ : (k12_1 ≤ ((n).toNat)) ∧ (dist1.length ≤ k12_1) ∧ ((n).toNat) - k12_1 < fu1 ∧ F_impl_metricBy_L1 n dst fu1 (dist1, k12_1) = c17 := hJ1
  change TC _ _ _ _ (Hp w [tabI 28 3 vdist1 udist1 dist1, .blk g0_0 37 [(.slice none 0 0)]]) [(0, (.int .i64 n)), (1, (.func (.func kdst) #[] cdst.toArray)), (4, (.pointer (some ⟨g0_0, 0, none⟩))), (6, vdist1), (11, (.int .i64 n)), (12, (.int .i64 (k12_1 : Int)))]
  obtain ⟨mf1, rfl⟩ : ∃ m, fu1 = m + 1 := ⟨fu1 - 1, by omega⟩
  rw [F_impl_metricBy_L1_s] at hL1
  refine TC.seq ?_
  refine TC.region ?_
  refine TL.op (yq (y_lss (ev_t rfl) (ev_t rfl))) rfl rfl rfl ?_
  refine TL.nil ?_
  refine TN.seq ?_
  refine TC.seq ?_
  refine TC.cond (b := decide ((k12_1 : Int) < n)) (ev_t rfl) (fun h19 => ?_) (fun h19 => ?_)
  · rw [bif_pos h19] at hL1
    have q20 := (of_decide_eq_true h19)
    refine TC.skip ?_
    refine TN.seq ?_
    refine TC.seq ?_
    refine TC.block ?_
    refine TC.seq ?_
    refine TC.region ?_
    refine TL.op (yq (y_move (ev_t rfl))) rfl rfl rfl ?_
    refine TL.op (yq (y_assign (ev_t rfl))) rfl rfl rfl ?_
    refine TL.nil ?_
    refine TN.seq ?_
    refine TC.seq ?_
    refine TC.region ?_
    refine TL.buildI (zs := []) (qs := []) slT_28 rfl trivial rfl (by decide) rfl (fun v5_0 => ?_)
    refine TL.op (yq (y_assign (ev_t rfl))) rfl rfl rfl ?_
    refine TL.nil ?_
    refine TN.seq ?_
    refine TC.seq ?_
    refine TC.seq ?_
    refine TC.region ?_
    refine TL.op (yq (y_move (ev_t rfl))) rfl rfl rfl ?_
    refine TL.op (yq (y_move ev_c)) rfl rfl rfl ?_
    refine TL.nil ?_
    refine TN.seq ?_
    refine TC.block ?_
    obtain ⟨c21, hc22⟩ : ∃ c, F_impl_metricBy_L2 n dst k12_1 ((((n).toNat) - 0) + 1) (([] : List Int), 0) = c := ⟨_, rfl⟩
    rw [hc22] at hL1
    refine TC.loop (ι := Nat × List Int × Nat × Value) (fun (fu2, row2, k17_2, vrow2) => [(0, (.int .i64 n)), (1, (.func (.func kdst) #[] cdst.toArray)), (4, (.pointer (some ⟨g0_0, 0, none⟩))), (6, vdist1), (7, (.int .i64 (k12_1 : Int))), (8, vrow2), (11, (.int .i64 n)), (12, (.int .i64 (k12_1 : Int))), (16, (.int .i64 n)), (17, (.int .i64 (k17_2 : Int)))]) (fun (fu2, row2, k17_2, vrow2) => Hp w [rowI 3 vrow2 row2, tabI 28 3 vdist1 udist1 dist1, .blk g0_0 37 [(.slice none 0 0)]]) (fun (fu2, row2, k17_2, vrow2) => (k17_2 ≤ ((n).toNat)) ∧ (row2.length ≤ k17_2) ∧ ((n).toNat) - k17_2 < fu2 ∧ F_impl_metricBy_L2 n dst k12_1 fu2 (row2, k17_2) = c21) (fun (fu2, row2, k17_2, vrow2) => fu2) ((((n).toNat) - 0) + 1, ([] : List Int), 0, v5_0) ⟨(by first | omega | (simp [-List.getD_eq_getElem?_getD] <;> omega)), (by first | omega | (simp [-List.getD_eq_getElem?_getD] <;> omega)), (by omega), hc22⟩ ⟨rfl, rfl, rfl, rfl, rfl, rfl, rfl, rfl, rfl, rfl, trivial⟩ (fun w hw => hw) ?_
    rintro ⟨fu2, row2, k17_2, vrow2⟩ hJ2
    obtain ⟨hi2_0, hi2_1, hmu2, hL2⟩ : (k17_2 ≤ ((n).toNat)) ∧ (row2.length ≤ k17_2) ∧ ((n).toNat) - k17_2 < fu2 ∧ F_impl_metricBy_L2 n dst k12_1 fu2 (row2, k17_2) = c21 := hJ2
    change TC _ _ _ _ (Hp w [rowI 3 vrow2 row2, tabI 28 3 vdist1 udist1 dist1, .blk g0_0 37 [(.slice none 0 0)]]) [(0, (.int .i64 n)), (1, (.func (.func kdst) #[] cdst.toArray)), (4, (.pointer (some ⟨g0_0, 0, none⟩))), (6, vdist1), (7, (.int .i64 (k12_1 : Int))), (8, vrow2), (11, (.int .i64 n)), (12, (.int .i64 (k12_1 : Int))), (16, (.int .i64 n)), (17, (.int .i64 (k17_2 : Int)))]
    obtain ⟨mf2, rfl⟩ : ∃ m, fu2 = m + 1 := ⟨fu2 - 1, by omega⟩
    rw [F_impl_metricBy_L2_s] at hL2
    refine TC.seq ?_
    refine TC.region ?_
    refine TL.op (yq (y_lss (ev_t rfl) (ev_t rfl))) rfl rfl rfl ?_
    refine TL.nil ?_
    refine TN.seq ?_
    refine TC.seq ?_
    refine TC.cond (b := decide ((k17_2 : Int) < n)) (ev_t rfl) (fun h23 => ?_) (fun h23 => ?_)
    · rw [bif_pos h23] at hL2
      have q24 := (of_decide_eq_true h23)
      refine TC.skip ?_
      refine TN.seq ?_
      refine TC.seq ?_
      refine TC.block ?_
      refine TC.seq ?_
      refine TC.region ?_
      refine TL.op (yq (y_move (ev_t rfl))) rfl rfl rfl ?_
      refine TL.op (yq (y_assign (ev_t rfl))) rfl rfl rfl ?_
      refine TL.nil ?_
      refine TN.seq ?_
      refine TC.seq ?_
      refine TC.region ?_
      refine TL.op (yq (y_move (ev_t rfl))) rfl rfl rfl ?_
      refine TL.op (yq (y_move (ev_t rfl))) rfl rfl rfl ?_
      refine TL.op (yq (y_eql (ev_t rfl) (ev_t rfl))) rfl rfl rfl ?_
      refine TL.nil ?_
      refine TN.seq ?_
      refine TC.cond (b := decide ((k12_1 : Int) = (k17_2 : Int))) (ev_t rfl) (fun h25 => ?_) (fun h25 => ?_)
      · rw [bif_pos h25] at hL2
        have q26 := (of_decide_eq_true h25)
        refine TC.region ?_
        refine TL.op (yq (y_move (ev_t rfl))) rfl rfl rfl ?_
        refine TL.buildI (zs := [.const (.int .i64 0)]) (qs := [0]) slT_28 rfl ⟨ev_c, trivial⟩ rfl (by decide) rfl (fun v10_1 => ?_)
        refine TL.appendI 1 (ev_t rfl) (ev_t rfl) rfl slT_28 (ri_row 0 rfl) (by first | omega | (simp [-List.getD_eq_getElem?_getD] <;> omega)) rfl (fun v10_2 => ?_)
        refine TL.op (yq (y_assign (ev_t rfl))) rfl rfl rfl ?_
        refine TL.nil ?_
        refine TN.blockN ?_
        refine TN.seq ?_
        refine TC.region ?_
        refine TL.op (yq (y_add (ev_t rfl) ev_c (by unfold In64; omega))) rfl rfl rfl ?_
        refine TL.op (yq (y_move (ev_t rfl))) rfl rfl rfl ?_
        refine TL.nil ?_
        exact TN.hand (mf2, (row2 ++ ([0])), (k17_2 + 1), v10_2) ⟨(by first | omega | (simp [-List.getD_eq_getElem?_getD] <;> omega)), (by first | omega | (simp [-List.getD_eq_getElem?_getD] <;> omega)), (by omega), hL2⟩ (Nat.lt_succ_self _) ⟨rfl, rfl, rfl, rfl, rfl, rfl, rfl, rfl, rfl, rfl, trivial⟩ (fun w hw => Hp.sublist hw (.cons _ (.cons_cons _ (.cons_cons _ (.cons_cons _ .slnil)))))
      · rw [bif_neg h25] at hL2
        have q26 := (of_decide_eq_false h25)
        refine TC.region ?_
        refine TL.op (yq (y_move (ev_t rfl))) rfl rfl rfl ?_
        refine TL.op (yq (y_move (ev_t rfl))) rfl rfl rfl ?_
        refine TL.op (yq (y_move (ev_t rfl))) rfl rfl rfl ?_
        refine TL.op (yq (y_move (ev_t rfl))) rfl rfl rfl ?_
        refine TL.op (y_callv (vs := [(.int .i64 (k12_1 : Int)), (.int .i64 (k17_2 : Int))]) (v := (.int .i64 (dst (k12_1 : Int) (k17_2 : Int)))) edst (ev_t rfl) ⟨(ev_t rfl), (ev_t rfl), trivial⟩ (fun w hw => hdst w hw.1 (k12_1 : Int) (k17_2 : Int) (by omega))) rfl rfl rfl ?_
        refine TL.buildI (zs := [.tmp 30]) (qs := [(dst (k12_1 : Int) (k17_2 : Int))]) slT_28 rfl ⟨(ev_t rfl), trivial⟩ rfl (by decide) rfl (fun v11_5 => ?_)
        refine TL.appendI 1 (ev_t rfl) (ev_t rfl) rfl slT_28 (ri_row 0 rfl) (by first | omega | (simp [-List.getD_eq_getElem?_getD] <;> omega)) rfl (fun v11_6 => ?_)
        refine TL.op (yq (y_assign (ev_t rfl))) rfl rfl rfl ?_
        refine TL.nil ?_
        refine TN.blockN ?_
        refine TN.seq ?_
        refine TC.region ?_
        refine TL.op (yq (y_add (ev_t rfl) ev_c (by unfold In64; omega))) rfl rfl rfl ?_
        refine TL.op (yq (y_move (ev_t rfl))) rfl rfl rfl ?_
        refine TL.nil ?_
        exact TN.hand (mf2, (row2 ++ ([(dst (k12_1 : Int) (k17_2 : Int))])), (k17_2 + 1), v11_6) ⟨(by first | omega | (simp [-List.getD_eq_getElem?_getD] <;> omega)), (by first | omega | (simp [-List.getD_eq_getElem?_getD] <;> omega)), (by omega), hL2⟩ (Nat.lt_succ_self _) ⟨rfl, rfl, rfl, rfl, rfl, rfl, rfl, rfl, rfl, rfl, trivial⟩ (fun w hw => Hp.sublist hw (.cons _ (.cons_cons _ (.cons_cons _ (.cons_cons _ .slnil)))))
    · rw [bif_neg h23] at hL2
      have q24 := (of_decide_eq_false h23)
      refine TC.exit ?_
      refine TN.thenE ?_
      refine TN.thenE ?_
      rw [← hL2, elim_next] at hL1
      try dsimp only at hL1
      refine TN.blockH ?_
      refine TN.seq ?_
      refine TC.region ?_
      refine TL.op (yq (y_move (ev_t rfl))) rfl rfl rfl ?_
      refine TL.op (yq (y_move (ev_t rfl))) rfl rfl rfl ?_
      refine TL.buildU slT_22 (ev_t rfl) (fun w hw => ((ri_row 0 rfl) w hw).ln) rfl (fun v13_2 => ?_)
      refine TL.appendT 2 1 rfl (ev_t rfl) (ev_t rfl) rfl rfl slT_22 (rd_row 0 rfl) (by first | omega | (simp [-List.getD_eq_getElem?_getD] <;> omega)) rfl (fun v13_3 => ?_)
      refine TL.op (yq (y_assign (ev_t rfl))) rfl rfl rfl ?_
      refine TL.nil ?_
      refine TN.blockN ?_
      refine TN.seq ?_
      refine TC.region ?_
      refine TL.op (yq (y_add (ev_t rfl) ev_c (by unfold In64; omega))) rfl rfl rfl ?_
      refine TL.op (yq (y_move (ev_t rfl))) rfl rfl rfl ?_
      refine TL.nil ?_
      exact TN.hand (mf1, (dist1 ++ [row2]), (k12_1 + 1), v13_3, (udist1 ++ [vrow2])) ⟨(by first | omega | (simp [-List.getD_eq_getElem?_getD] <;> omega)), (by first | omega | (simp [-List.getD_eq_getElem?_getD] <;> omega)), (by omega), hL1⟩ (Nat.lt_succ_self _) ⟨rfl, rfl, rfl, rfl, rfl, rfl, trivial⟩ (fun w hw => Hp.sublist hw (.cons _ (.cons _ (.cons_cons _ (.cons_cons _ .slnil)))))
  · rw [bif_neg h19] at hL1
    have q20 := (of_decide_eq_false h19)
    refine TC.exit ?_
    refine TN.thenE ?_
    refine TN.thenE ?_
    rw [← hL1, elim_next] at hF
    try dsimp only at hF
    refine TN.blockH ?_
    refine TN.seq ?_
    refine TC.seq ?_
    refine TC.region ?_
    refine TL.op (yq (y_move (ev_t rfl))) rfl rfl rfl ?_
    refine TL.callm (ι := Value × List Value) 0 (vs := [vdist1]) (fun i => (.tuple #[(.agg #[i.1]), (.bool ((F_impl_metricOf dist1).2))])) (fun i => tabI 28 3 i.1 i.2 ((F_impl_metricOf dist1).1)) en_104 ⟨(ev_t rfl), trivial⟩ rfl rfl (fun w1 fr1 hw => impl_metricOf_ok w w1 fr1 vdist1 udist1 dist1 hw) (fun r15_1 => ?_)
    refine TL.op (yq (y_extract (ev_t rfl) rfl)) rfl rfl rfl ?_
    refine TL.op (yq (y_extract (ev_t rfl) rfl)) rfl rfl rfl ?_
    refine TL.storeAgg (cs := [(.slice none 0 0)]) (us := [r15_1.1]) 1 (ev_t rfl) (ev_t rfl) agg_37 rfl rfl (fun w hw => (ocs_cons (ln_one ((fun w hw => ((rii_tab 0 rfl) w hw).1) w hw).ln) ocs_nil)) ?_
    refine TL.op (yq (y_assign (ev_t rfl))) rfl rfl rfl ?_
    refine TL.nil ?_
    refine TN.seq ?_
    refine TC.ret ?_
    subst hF
    exact TN.retCT (cs := [r15_1.1]) 1 (by simp) rfl (ev_t rfl) (ev_t rfl) agg_37 rfl (fun w' hw => ⟨(r15_1.1, r15_1.2), rfl, Hp.sublist hw (.cons_cons _ (.cons _ .slnil))⟩)

set_option maxRecDepth 4000 in
set_option maxHeartbeats 1000000 in
theorem impl_UniformMetric_1_ok (w : World) (x : Int) (y : Int) (gd : Nat) (d : Int) (hd : CellAt w gd (.int .i64 d))  :
    Calls Try.prog 75 ([(.int .i64 x), (.int .i64 y), (.pointer (some ⟨gd, 0, none⟩))] : List Value).toArray w (Ret (.int .i64 (F_impl_UniformMetric_1 x y d)) (Hp w [])) := by
  obtain ⟨rz, hF⟩ : ∃ rz, (F_impl_UniformMetric_1 x y d) = rz := ⟨_, rfl⟩
  rw [hF]
  unfold F_impl_UniformMetric_1 at hF
  refine calls_tc Try.func75 rfl rfl rfl ?_
  change TC _ _ _ _ (Hp w []) [(0, (.int .i64 x)), (1, (.int .i64 y)), (2, (.pointer (some ⟨gd, 0, none⟩)))]
  refine TC.seq ?_
  refine TC.region ?_
  refine TL.op (yq (y_assign ev_c)) rfl rfl rfl ?_
  refine TL.nil ?_
  refine TN.seq ?_
  refine TC.seq ?_
  refine TC.region ?_
  refine TL.op (yq (y_ldc (ev_t rfl) one_3 hd)) rfl rfl rfl ?_
  refine TL.op (yq (y_assign (ev_t rfl))) rfl rfl rfl ?_
  refine TL.nil ?_
  refine TN.seq ?_
  refine TC.ret ?_
  subst hF
  exact TN.ret1 rfl (ev_t rfl) (fun w' hw => ⟨rfl, hw⟩)

set_option maxRecDepth 4000 in
set_option maxHeartbeats 1000000 in
theorem impl_StarMetric_1_ok (w : World) (x : Int) (y : Int) (garms : Nat) (varms : Value) (arms : List Int) (hrarms : RI w varms arms) (harms : CellAt w garms varms) (hp0 : 0 ≤ x ∧ x < arms.length ∧ 0 ≤ y ∧ y < arms.length) (hp1 : ∀ i, i < arms.length → 1 ≤ arms.getD i 0 ∧ arms.getD i 0 ≤ 49) :
    Calls Try.prog 91 ([(.int .i64 x), (.int .i64 y), (.pointer (some ⟨garms, 0, none⟩))] : List Value).toArray w (Ret (.int .i64 (F_impl_StarMetric_1 x y arms)) (Hp w [])) := by
  obtain ⟨rz, hF⟩ : ∃ rz, (F_impl_StarMetric_1 x y arms) = rz := ⟨_, rfl⟩
  rw [hF]
  unfold F_impl_StarMetric_1 at hF
  have hb1 := hp1 x.toNat (by omega)
  have hb2 := hp1 y.toNat (by omega)
  refine calls_tc Try.func91 rfl rfl rfl ?_
  change TC _ _ _ _ (Hp w []) [(0, (.int .i64 x)), (1, (.int .i64 y)), (2, (.pointer (some ⟨garms, 0, none⟩)))]
  refine TC.seq ?_
  refine TC.region ?_
  refine TL.op (yq (y_assign ev_c)) rfl rfl rfl ?_
  refine TL.nil ?_
  refine TN.seq ?_
  refine TC.seq ?_
  refine TC.regionQ (by kernel_rfl) (by kernel_rfl) dr_hp ?_
  refine TQ.op (yq (y_ldc (ev_t rfl) one_28 harms)) rfl rfl rfl ?_
  refine TQ.op (yq (y_move (ev_t rfl))) rfl rfl rfl ?_
  have hb3 : (x).toNat < arms.length := (by first | omega | (simp only [List.length_set, List.length_append, List.length_cons, List.length_nil, List.length_replicate]; omega))
  refine TQ.op (yq (y_idx (k := (x).toNat) (ev_t rfl) (ev_t rfl) (by omega) slT_28 (ri_arg hrarms) hb3)) rfl rfl rfl ?_
  refine TQ.op (yq (y_ldi (ev_t rfl) one_3 (ri_arg hrarms) hb3)) rfl rfl rfl ?_
  refine TQ.op (yq (y_ldc (ev_t rfl) one_28 harms)) rfl rfl rfl ?_
  refine TQ.op (yq (y_move (ev_t rfl))) rfl rfl rfl ?_
  have hb4 : (y).toNat < arms.length := (by first | omega | (simp only [List.length_set, List.length_append, List.length_cons, List.length_nil, List.length_replicate]; omega))
  refine TQ.op (yq (y_idx (k := (y).toNat) (ev_t rfl) (ev_t rfl) (by omega) slT_28 (ri_arg hrarms) hb4)) rfl rfl rfl ?_
  refine TQ.op (yq (y_ldi (ev_t rfl) one_3 (ri_arg hrarms) hb4)) rfl rfl rfl ?_
  refine TQ.op (yq (y_add (ev_t rfl) (ev_t rfl) (by unfold In64; omega))) rfl rfl rfl ?_
  refine TQ.op (yq (y_assign (ev_t rfl))) rfl rfl rfl ?_
  refine TQ.nil ?_
  refine TN.seq ?_
  refine TC.ret ?_
  subst hF
  exact TN.ret1 rfl (ev_t rfl) (fun w' hw => ⟨rfl, hw⟩)

set_option maxRecDepth 4000 in
set_option maxHeartbeats 1000000 in
theorem impl_LineMetric_1_ok (w : World) (x : Int) (y : Int) (gplaces : Nat) (vplaces : Value) (places : List Int) (hrplaces : RI w vplaces places) (hplaces : CellAt w gplaces vplaces) (hp0 : 0 ≤ x ∧ x < places.length ∧ 0 ≤ y ∧ y < places.length) (hp1 : ∀ i, i < places.length → 0 ≤ places.getD i 0 ∧ places.getD i 0 ≤ 99) :
    Calls Try.prog 96 ([(.int .i64 x), (.int .i64 y), (.pointer (some ⟨gplaces, 0, none⟩))] : List Value).toArray w (Ret (.int .i64 (F_impl_LineMetric_1 x y places)) (Hp w [])) := by
  obtain ⟨rz, hF⟩ : ∃ rz, (F_impl_LineMetric_1 x y places) = rz := ⟨_, rfl⟩
  rw [hF]
  unfold F_impl_LineMetric_1 at hF
  have hb1 := hp1 x.toNat (by omega)
  have hb2 := hp1 y.toNat (by omega)
  refine calls_tc Try.func96 rfl rfl rfl ?_
  change TC _ _ _ _ (Hp w []) [(0, (.int .i64 x)), (1, (.int .i64 y)), (2, (.pointer (some ⟨gplaces, 0, none⟩)))]
  refine TC.seq ?_
  refine TC.region ?_
  refine TL.op (yq (y_assign ev_c)) rfl rfl rfl ?_
  refine TL.nil ?_
  refine TN.seq ?_
  refine TC.seq ?_
  refine TC.regionQ (by kernel_rfl) (by kernel_rfl) dr_hp ?_
  refine TQ.op (yq (y_ldc (ev_t rfl) one_28 hplaces)) rfl rfl rfl ?_
  refine TQ.op (yq (y_move (ev_t rfl))) rfl rfl rfl ?_
  have hb3 : (x).toNat < places.length := (by first | omega | (simp only [List.length_set, List.length_append, List.length_cons, List.length_nil, List.length_replicate]; omega))
  refine TQ.op (yq (y_idx (k := (x).toNat) (ev_t rfl) (ev_t rfl) (by omega) slT_28 (ri_arg hrplaces) hb3)) rfl rfl rfl ?_
  refine TQ.op (yq (y_ldi (ev_t rfl) one_3 (ri_arg hrplaces) hb3)) rfl rfl rfl ?_
  refine TQ.op (yq (y_ldc (ev_t rfl) one_28 hplaces)) rfl rfl rfl ?_
  refine TQ.op (yq (y_move (ev_t rfl))) rfl rfl rfl ?_
  have hb4 : (y).toNat < places.length := (by first | omega | (simp only [List.length_set, List.length_append, List.length_cons, List.length_nil, List.length_replicate]; omega))
  refine TQ.op (yq (y_idx (k := (y).toNat) (ev_t rfl) (ev_t rfl) (by omega) slT_28 (ri_arg hrplaces) hb4)) rfl rfl rfl ?_
  refine TQ.op (yq (y_ldi (ev_t rfl) one_3 (ri_arg hrplaces) hb4)) rfl rfl rfl ?_
  refine TQ.op (yq (y_sub (ev_t rfl) (ev_t rfl) (by unfold In64; omega))) rfl rfl rfl ?_
  refine TQ.op (y_call (vs := [(.int .i64 ((places.getD ((x).toNat) 0) - (places.getD ((y).toNat) 0)))]) (v := (.int .i64 (max ((places.getD ((x).toNat) 0) - (places.getD ((y).toNat) 0)) (-((places.getD ((x).toNat) 0) - (places.getD ((y).toNat) 0)))))) en_97 ⟨(ev_t rfl), trivial⟩ (fun w hw => impl_size_ok w ((places.getD ((x).toNat) 0) - (places.getD ((y).toNat) 0)) (by first | assumption | omega | grind) (by first | assumption | omega | grind))) rfl rfl rfl ?_
  refine TQ.op (yq (y_assign (ev_t rfl))) rfl rfl rfl ?_
  refine TQ.nil ?_
  refine TN.seq ?_
  refine TC.ret ?_
  subst hF
  exact TN.ret1 rfl (ev_t rfl) (fun w' hw => ⟨rfl, hw⟩)

set_option maxRecDepth 4000 in
set_option maxHeartbeats 1000000 in
theorem impl_UniformMetric_ok (w : World) (n : Int) (d : Int)  :
    Calls Try.prog 32 ([(.int .i64 n), (.int .i64 d)] : List Value).toArray w (fun e w' => ∃ i : Value × List Value, e = .returned (.tuple #[(.agg #[i.1]), (.bool ((F_impl_UniformMetric n d).2))]) ∧ Hp w [tabI 28 3 i.1 i.2 ((F_impl_UniformMetric n d).1)] w') := by
  obtain ⟨rz, hF⟩ : ∃ rz, (F_impl_UniformMetric n d) = rz := ⟨_, rfl⟩
  rw [hF]
  unfold F_impl_UniformMetric at hF
  refine calls_tc Try.func32 rfl rfl rfl ?_
  change TC _ _ _ _ (Hp w []) [(0, (.int .i64 n)), (1, (.int .i64 d))]
  refine TC.seq ?_
  refine TC.region ?_
  refine TL.box (ev_t rfl) rfl (fun g0_0 => ?_)
  refine TL.alloc (u := (.agg #[(.slice none 0 0)])) (by kernel_rfl) rfl (fun g0_1 => ?_)
  refine TL.op (yq (y_assign ev_c)) rfl rfl rfl ?_
  refine TL.nil ?_
  refine TN.seq ?_
  refine TC.seq ?_
  refine TC.seq ?_
  refine TC.region ?_
  refine TL.op (yq (y_move (ev_t rfl))) rfl rfl rfl ?_
  refine TL.op (y_call (vs := [(.int .i64 n), (.int .i64 1), (.int .i64 6)]) (v := (.bool ((decide (1 ≤ n)) && (decide (n ≤ 6))))) en_60 ⟨(ev_t rfl), ev_c, ev_c, trivial⟩ (fun w hw => impl_within_ok w n 1 6)) rfl rfl rfl ?_
  refine TL.op (yq (y_not (ev_t rfl))) rfl rfl rfl ?_
  refine TL.op (yq (y_move (ev_t rfl))) rfl rfl rfl ?_
  refine TL.opw (w_f rfl rfl rfl) (fun hg => yq (y_ldb 1 (ev_t rfl) one_3 rfl rfl)) rfl rfl ?_
  refine TL.opw (w_f rfl rfl rfl) (fun hg => y_call (vs := [(.int .i64 d), (.int .i64 1), (.int .i64 99)]) (v := (.bool ((decide (1 ≤ d)) && (decide (d ≤ 99))))) en_60 ⟨(ev_g rfl hg), ev_c, ev_c, trivial⟩ (fun w hw => impl_within_ok w d 1 99)) rfl rfl ?_
  refine TL.opw (w_f rfl rfl rfl) (fun hg => yq (y_not (ev_g rfl hg))) rfl rfl ?_
  refine TL.op (yq (y_or (ev_t rfl) (fun hq => (ev_g rfl hq)))) rfl rfl rfl ?_
  refine TL.nil ?_
  refine TN.seq ?_
  refine TC.cond (b := ((!((decide (1 ≤ n)) && (decide (n ≤ 6)))) || (!((decide (1 ≤ d)) && (decide (d ≤ 99)))))) (ev_t rfl) (fun h3 => ?_) (fun h3 => ?_)
  · rw [bif_pos h3] at hF
    have q4 := ((or_t h3).imp (fun h => ((and_f (not_t h)).imp (fun h => (of_decide_eq_false h)) (fun h => (of_decide_eq_false h)))) (fun h => ((and_f (not_t h)).imp (fun h => (of_decide_eq_false h)) (fun h => (of_decide_eq_false h)))))
    refine TC.seq ?_
    refine TC.region ?_
    refine TL.op (yq (y_bld0 bd_37_0)) rfl rfl rfl ?_
    refine TL.storeAgg (cs := [(.slice none 0 0)]) (us := [(.slice none 0 0)]) 0 (ev_t rfl) (ev_t rfl) agg_37 rfl rfl (fun w hw => (ocs_cons rfl ocs_nil)) ?_
    refine TL.op (yq (y_assign ev_c)) rfl rfl rfl ?_
    refine TL.nil ?_
    refine TN.seq ?_
    refine TC.ret ?_
    refine TN.thenR ?_
    subst hF
    refine TN.cls (fun w hw => hw.nilTab 28 3) ?_
    exact TN.retCT (cs := [(.slice none 0 0)]) 1 (by simp) rfl (ev_t rfl) (ev_t rfl) agg_37 rfl (fun w' hw => ⟨((.slice none 0 0), []), rfl, Hp.sublist hw (.cons_cons _ (.cons _ (.cons _ .slnil)))⟩)
  · rw [bif_neg h3] at hF
    have q4 := (and_imp (or_f h3) (fun h => (and_imp (and_t (not_f h)) (fun h => (of_decide_eq_true h)) (fun h => (of_decide_eq_true h)))) (fun h => (and_imp (and_t (not_f h)) (fun h => (of_decide_eq_true h)) (fun h => (of_decide_eq_true h)))))
    refine TC.skip ?_
    refine TN.seq ?_
    refine TC.seq ?_
    refine TC.region ?_
    refine TL.op (yq (y_move (ev_t rfl))) rfl rfl rfl ?_
    refine TL.op (yq (y_mkf (us := [(.pointer (some ⟨g0_0, 0, none⟩))]) ⟨(ev_t rfl), trivial⟩)) rfl rfl rfl ?_
    refine TL.callr (ι := Value × List Value) (vs := [(.int .i64 n), (.func (.func 75) #[] ([(.pointer (some ⟨g0_0, 0, none⟩))] : List Value).toArray)]) (fun i => (.tuple #[(.agg #[i.1]), (.bool ((F_impl_metricBy n (fun x y => F_impl_UniformMetric_1 x y d)).2))])) (fun i => [tabI 28 3 i.1 i.2 ((F_impl_metricBy n (fun x y => F_impl_UniformMetric_1 x y d)).1)]) en_74 ⟨(ev_t rfl), (ev_t rfl), trivial⟩ rfl (fun w hw => impl_metricBy_ok w n 75 [(.pointer (some ⟨g0_0, 0, none⟩))] (fun x y => F_impl_UniformMetric_1 x y d) en_75 (fun w2 hb x y hd0 => impl_UniformMetric_1_ok w2 x y g0_0 d (cell_blk 1 rfl rfl hw hb)) (by first | assumption | omega | grind)) (fun r3_2 => ?_)
    refine TL.op (yq (y_extract (ev_t rfl) rfl)) rfl rfl rfl ?_
    refine TL.op (yq (y_extract (ev_t rfl) rfl)) rfl rfl rfl ?_
    refine TL.storeAgg (cs := [(.slice none 0 0)]) (us := [r3_2.1]) 1 (ev_t rfl) (ev_t rfl) agg_37 rfl rfl (fun w hw => (ocs_cons (ln_one ((fun w hw => ((rii_tab 0 rfl) w hw).1) w hw).ln) ocs_nil)) ?_
    refine TL.op (yq (y_assign (ev_t rfl))) rfl rfl rfl ?_
    refine TL.nil ?_
    refine TN.seq ?_
    refine TC.ret ?_
    subst hF
    exact TN.retCT (cs := [r3_2.1]) 1 (by simp) rfl (ev_t rfl) (ev_t rfl) agg_37 rfl (fun w' hw => ⟨(r3_2.1, r3_2.2), rfl, Hp.sublist hw (.cons_cons _ (.cons _ (.cons _ .slnil)))⟩)

set_option maxRecDepth 4000 in
set_option maxHeartbeats 1000000 in
theorem impl_StarMetric_ok (w : World) (varms : Value) (arms : List Int) (harms : RI w varms arms)  :
    Calls Try.prog 51 ([varms] : List Value).toArray w (fun e w' => ∃ i : Value × List Value, e = .returned (.tuple #[(.agg #[i.1]), (.bool ((F_impl_StarMetric arms).2))]) ∧ Hp w [tabI 28 3 i.1 i.2 ((F_impl_StarMetric arms).1)] w') := by
  obtain ⟨rz, hF⟩ : ∃ rz, (F_impl_StarMetric arms) = rz := ⟨_, rfl⟩
  rw [hF]
  unfold F_impl_StarMetric at hF
  have hlen_arms := arg_len harms
  refine calls_tc Try.func51 rfl rfl rfl ?_
  change TC _ _ _ _ (Hp w []) [(0, varms)]
  refine TC.seq ?_
  refine TC.region ?_
  refine TL.boxS (ev_t rfl) (fun w hw => ((ri_arg harms) w hw).ln) rfl (fun g0_0 => ?_)
  refine TL.alloc (u := (.agg #[(.slice none 0 0)])) (by kernel_rfl) rfl (fun g0_1 => ?_)
  refine TL.op (yq (y_assign ev_c)) rfl rfl rfl ?_
  refine TL.nil ?_
  refine TN.seq ?_
  refine TC.seq ?_
  refine TC.seq ?_
  refine TC.region ?_
  refine TL.op (yq (y_ldb 1 (ev_t rfl) one_28 rfl rfl)) rfl rfl rfl ?_
  refine TL.op (y_call (vs := [varms, (.int .i64 6), (.int .i64 1), (.int .i64 49)]) (v := (.bool (F_impl_areIn arms 6 1 49))) en_90 ⟨(ev_t rfl), ev_c, ev_c, ev_c, trivial⟩ (fun w hw => impl_areIn_ok w varms arms ((ri_arg harms) w hw) 6 1 49)) rfl rfl rfl ?_
  refine TL.op (yq (y_not (ev_t rfl))) rfl rfl rfl ?_
  refine TL.nil ?_
  refine TN.seq ?_
  refine TC.cond (b := !(F_impl_areIn arms 6 1 49)) (ev_t rfl) (fun h3 => ?_) (fun h3 => ?_)
  · rw [bif_pos h3] at hF
    have q4 := (not_t h3)
    refine TC.seq ?_
    refine TC.region ?_
    refine TL.op (yq (y_bld0 bd_37_0)) rfl rfl rfl ?_
    refine TL.storeAgg (cs := [(.slice none 0 0)]) (us := [(.slice none 0 0)]) 0 (ev_t rfl) (ev_t rfl) agg_37 rfl rfl (fun w hw => (ocs_cons rfl ocs_nil)) ?_
    refine TL.op (yq (y_assign ev_c)) rfl rfl rfl ?_
    refine TL.nil ?_
    refine TN.seq ?_
    refine TC.ret ?_
    refine TN.thenR ?_
    subst hF
    refine TN.cls (fun w hw => hw.nilTab 28 3) ?_
    exact TN.retCT (cs := [(.slice none 0 0)]) 1 (by simp) rfl (ev_t rfl) (ev_t rfl) agg_37 rfl (fun w' hw => ⟨((.slice none 0 0), []), rfl, Hp.sublist hw (.cons_cons _ (.cons _ (.cons _ .slnil)))⟩)
  · rw [bif_neg h3] at hF
    have q4 := (areIn_t (not_f h3))
    obtain ⟨hq1, hq2⟩ := q4
    refine TC.skip ?_
    refine TN.seq ?_
    refine TC.seq ?_
    refine TC.region ?_
    refine TL.op (yq (y_ldb 1 (ev_t rfl) one_28 rfl rfl)) rfl rfl rfl ?_
    refine TL.op (yq (y_len (ev_t rfl) Try.underlying28 (fun w hw => ((ri_arg harms) w hw).ln))) rfl rfl rfl ?_
    refine TL.op (yq (y_mkf (us := [(.pointer (some ⟨g0_0, 0, none⟩))]) ⟨(ev_t rfl), trivial⟩)) rfl rfl rfl ?_
    refine TL.callr (ι := Value × List Value) (vs := [(.int .i64 (arms.length : Int)), (.func (.func 91) #[] ([(.pointer (some ⟨g0_0, 0, none⟩))] : List Value).toArray)]) (fun i => (.tuple #[(.agg #[i.1]), (.bool ((F_impl_metricBy (arms.length : Int) (fun x y => F_impl_StarMetric_1 x y arms)).2))])) (fun i => [tabI 28 3 i.1 i.2 ((F_impl_metricBy (arms.length : Int) (fun x y => F_impl_StarMetric_1 x y arms)).1)]) en_74 ⟨(ev_t rfl), (ev_t rfl), trivial⟩ rfl (fun w hw => impl_metricBy_ok w (arms.length : Int) 91 [(.pointer (some ⟨g0_0, 0, none⟩))] (fun x y => F_impl_StarMetric_1 x y arms) en_91 (fun w2 hb x y hd0 => impl_StarMetric_1_ok w2 x y g0_0 varms arms (((ri_arg harms) w hw).below hb) (cell_blk 1 rfl rfl hw hb) (by first | assumption | omega | grind) (by first | assumption | omega | grind)) (by first | assumption | omega | grind)) (fun r3_3 => ?_)
    refine TL.op (yq (y_extract (ev_t rfl) rfl)) rfl rfl rfl ?_
    refine TL.op (yq (y_extract (ev_t rfl) rfl)) rfl rfl rfl ?_
    refine TL.storeAgg (cs := [(.slice none 0 0)]) (us := [r3_3.1]) 1 (ev_t rfl) (ev_t rfl) agg_37 rfl rfl (fun w hw => (ocs_cons (ln_one ((fun w hw => ((rii_tab 0 rfl) w hw).1) w hw).ln) ocs_nil)) ?_
    refine TL.op (yq (y_assign (ev_t rfl))) rfl rfl rfl ?_
    refine TL.nil ?_
    refine TN.seq ?_
    refine TC.ret ?_
    subst hF
    exact TN.retCT (cs := [r3_3.1]) 1 (by simp) rfl (ev_t rfl) (ev_t rfl) agg_37 rfl (fun w' hw => ⟨(r3_3.1, r3_3.2), rfl, Hp.sublist hw (.cons_cons _ (.cons _ (.cons _ .slnil)))⟩)

set_option maxRecDepth 4000 in
set_option maxHeartbeats 1000000 in
theorem impl_LineMetric_ok (w : World) (vplaces : Value) (places : List Int) (hplaces : RI w vplaces places)  :
    Calls Try.prog 55 ([vplaces] : List Value).toArray w (fun e w' => ∃ i : Value × List Value, e = .returned (.tuple #[(.agg #[i.1]), (.bool ((F_impl_LineMetric places).2))]) ∧ Hp w [tabI 28 3 i.1 i.2 ((F_impl_LineMetric places).1)] w') := by
  obtain ⟨rz, hF⟩ : ∃ rz, (F_impl_LineMetric places) = rz := ⟨_, rfl⟩
  rw [hF]
  unfold F_impl_LineMetric at hF
  have hlen_places := arg_len hplaces
  refine calls_tc Try.func55 rfl rfl rfl ?_
  change TC _ _ _ _ (Hp w []) [(0, vplaces)]
  refine TC.seq ?_
  refine TC.region ?_
  refine TL.boxS (ev_t rfl) (fun w hw => ((ri_arg hplaces) w hw).ln) rfl (fun g0_0 => ?_)
  refine TL.alloc (u := (.agg #[(.slice none 0 0)])) (by kernel_rfl) rfl (fun g0_1 => ?_)
  refine TL.op (yq (y_assign ev_c)) rfl rfl rfl ?_
  refine TL.nil ?_
  refine TN.seq ?_
  refine TC.seq ?_
  refine TC.seq ?_
  refine TC.region ?_
  refine TL.op (yq (y_ldb 1 (ev_t rfl) one_28 rfl rfl)) rfl rfl rfl ?_
  refine TL.op (y_call (vs := [vplaces, (.int .i64 6), (.int .i64 0), (.int .i64 99)]) (v := (.bool (F_impl_areIn places 6 0 99))) en_90 ⟨(ev_t rfl), ev_c, ev_c, ev_c, trivial⟩ (fun w hw => impl_areIn_ok w vplaces places ((ri_arg hplaces) w hw) 6 0 99)) rfl rfl rfl ?_
  refine TL.op (yq (y_not (ev_t rfl))) rfl rfl rfl ?_
  refine TL.nil ?_
  refine TN.seq ?_
  refine TC.cond (b := !(F_impl_areIn places 6 0 99)) (ev_t rfl) (fun h3 => ?_) (fun h3 => ?_)
  · rw [bif_pos h3] at hF
    have q4 := (not_t h3)
    refine TC.seq ?_
    refine TC.region ?_
    refine TL.op (yq (y_bld0 bd_37_0)) rfl rfl rfl ?_
    refine TL.storeAgg (cs := [(.slice none 0 0)]) (us := [(.slice none 0 0)]) 0 (ev_t rfl) (ev_t rfl) agg_37 rfl rfl (fun w hw => (ocs_cons rfl ocs_nil)) ?_
    refine TL.op (yq (y_assign ev_c)) rfl rfl rfl ?_
    refine TL.nil ?_
    refine TN.seq ?_
    refine TC.ret ?_
    refine TN.thenR ?_
    subst hF
    refine TN.cls (fun w hw => hw.nilTab 28 3) ?_
    exact TN.retCT (cs := [(.slice none 0 0)]) 1 (by simp) rfl (ev_t rfl) (ev_t rfl) agg_37 rfl (fun w' hw => ⟨((.slice none 0 0), []), rfl, Hp.sublist hw (.cons_cons _ (.cons _ (.cons _ .slnil)))⟩)
  · rw [bif_neg h3] at hF
    have q4 := (areIn_t (not_f h3))
    obtain ⟨hq1, hq2⟩ := q4
    refine TC.skip ?_
    refine TN.seq ?_
    refine TC.seq ?_
    refine TC.region ?_
    refine TL.op (yq (y_ldb 1 (ev_t rfl) one_28 rfl rfl)) rfl rfl rfl ?_
    refine TL.op (yq (y_len (ev_t rfl) Try.underlying28 (fun w hw => ((ri_arg hplaces) w hw).ln))) rfl rfl rfl ?_
    refine TL.op (yq (y_mkf (us := [(.pointer (some ⟨g0_0, 0, none⟩))]) ⟨(ev_t rfl), trivial⟩)) rfl rfl rfl ?_
    refine TL.callr (ι := Value × List Value) (vs := [(.int .i64 (places.length : Int)), (.func (.func 96) #[] ([(.pointer (some ⟨g0_0, 0, none⟩))] : List Value).toArray)]) (fun i => (.tuple #[(.agg #[i.1]), (.bool ((F_impl_metricBy (places.length : Int) (fun x y => F_impl_LineMetric_1 x y places)).2))])) (fun i => [tabI 28 3 i.1 i.2 ((F_impl_metricBy (places.length : Int) (fun x y => F_impl_LineMetric_1 x y places)).1)]) en_74 ⟨(ev_t rfl), (ev_t rfl), trivial⟩ rfl (fun w hw => impl_metricBy_ok w (places.length : Int) 96 [(.pointer (some ⟨g0_0, 0, none⟩))] (fun x y => F_impl_LineMetric_1 x y places) en_96 (fun w2 hb x y hd0 => impl_LineMetric_1_ok w2 x y g0_0 vplaces places (((ri_arg hplaces) w hw).below hb) (cell_blk 1 rfl rfl hw hb) (by first | assumption | omega | grind) (by first | assumption | omega | grind)) (by first | assumption | omega | grind)) (fun r3_3 => ?_)
    refine TL.op (yq (y_extract (ev_t rfl) rfl)) rfl rfl rfl ?_
    refine TL.op (yq (y_extract (ev_t rfl) rfl)) rfl rfl rfl ?_
    refine TL.storeAgg (cs := [(.slice none 0 0)]) (us := [r3_3.1]) 1 (ev_t rfl) (ev_t rfl) agg_37 rfl rfl (fun w hw => (ocs_cons (ln_one ((fun w hw => ((rii_tab 0 rfl) w hw).1) w hw).ln) ocs_nil)) ?_
    refine TL.op (yq (y_assign (ev_t rfl))) rfl rfl rfl ?_
    refine TL.nil ?_
    refine TN.seq ?_
    refine TC.ret ?_
    subst hF
    exact TN.retCT (cs := [r3_3.1]) 1 (by simp) rfl (ev_t rfl) (ev_t rfl) agg_37 rfl (fun w' hw => ⟨(r3_3.1, r3_3.2), rfl, Hp.sublist hw (.cons_cons _ (.cons _ (.cons _ .slnil)))⟩)

set_option maxRecDepth 4000 in
set_option maxHeartbeats 1000000 in
theorem spec_UniformMetric_ok (w : World) (n : Int) (d : Int)  :
    Calls Try.prog 31 ([(.int .i64 n), (.int .i64 d)] : List Value).toArray w (fun e w' => ∃ i : Value × List Value, e = .returned (.tuple #[(.agg #[i.1]), (.bool ((F_spec_UniformMetric n d).2))]) ∧ Hp w [tabI 28 3 i.1 i.2 ((F_spec_UniformMetric n d).1)] w') := by
  obtain ⟨rz, hF⟩ : ∃ rz, (F_spec_UniformMetric n d) = rz := ⟨_, rfl⟩
  rw [hF]
  unfold F_spec_UniformMetric at hF
  refine calls_tc Try.func31 rfl rfl rfl ?_
  change TC _ _ _ _ (Hp w []) [(0, (.int .i64 n)), (1, (.int .i64 d))]
  refine TC.seq ?_
  refine TC.region ?_
  refine TL.alloc (u := (.agg #[(.slice none 0 0)])) (by kernel_rfl) rfl (fun g0_0 => ?_)
  refine TL.op (yq (y_assign ev_c)) rfl rfl rfl ?_
  refine TL.nil ?_
  refine TN.seq ?_
  refine TC.seq ?_
  refine TC.seq ?_
  refine TC.region ?_
  refine TL.op (yq (y_move (ev_t rfl))) rfl rfl rfl ?_
  refine TL.op (y_call (vs := [(.int .i64 n), (.int .i64 1), (.int .i64 6)]) (v := (.bool ((decide (1 ≤ n)) && (decide (n ≤ 6))))) en_58 ⟨(ev_t rfl), ev_c, ev_c, trivial⟩ (fun w hw => spec_l1In_ok w n 1 6)) rfl rfl rfl ?_
  refine TL.op (yq (y_not (ev_t rfl))) rfl rfl rfl ?_
  refine TL.op (yq (y_move (ev_t rfl))) rfl rfl rfl ?_
  refine TL.opw (w_f rfl rfl rfl) (fun hg => yq (y_move (ev_t rfl))) rfl rfl ?_
  refine TL.opw (w_f rfl rfl rfl) (fun hg => y_call (vs := [(.int .i64 d), (.int .i64 1), (.int .i64 99)]) (v := (.bool ((decide (1 ≤ d)) && (decide (d ≤ 99))))) en_58 ⟨(ev_g rfl hg), ev_c, ev_c, trivial⟩ (fun w hw => spec_l1In_ok w d 1 99)) rfl rfl ?_
  refine TL.opw (w_f rfl rfl rfl) (fun hg => yq (y_not (ev_g rfl hg))) rfl rfl ?_
  refine TL.op (yq (y_or (ev_t rfl) (fun hq => (ev_g rfl hq)))) rfl rfl rfl ?_
  refine TL.nil ?_
  refine TN.seq ?_
  refine TC.cond (b := ((!((decide (1 ≤ n)) && (decide (n ≤ 6)))) || (!((decide (1 ≤ d)) && (decide (d ≤ 99)))))) (ev_t rfl) (fun h3 => ?_) (fun h3 => ?_)
  · rw [bif_pos h3] at hF
    have q4 := ((or_t h3).imp (fun h => ((and_f (not_t h)).imp (fun h => (of_decide_eq_false h)) (fun h => (of_decide_eq_false h)))) (fun h => ((and_f (not_t h)).imp (fun h => (of_decide_eq_false h)) (fun h => (of_decide_eq_false h)))))
    refine TC.seq ?_
    refine TC.region ?_
    refine TL.op (yq (y_bld0 bd_37_0)) rfl rfl rfl ?_
    refine TL.storeAgg (cs := [(.slice none 0 0)]) (us := [(.slice none 0 0)]) 0 (ev_t rfl) (ev_t rfl) agg_37 rfl rfl (fun w hw => (ocs_cons rfl ocs_nil)) ?_
    refine TL.op (yq (y_assign ev_c)) rfl rfl rfl ?_
    refine TL.nil ?_
    refine TN.seq ?_
    refine TC.ret ?_
    refine TN.thenR ?_
    subst hF
    refine TN.cls (fun w hw => hw.nilTab 28 3) ?_
    exact TN.retCT (cs := [(.slice none 0 0)]) 1 (by simp) rfl (ev_t rfl) (ev_t rfl) agg_37 rfl (fun w' hw => ⟨((.slice none 0 0), []), rfl, Hp.sublist hw (.cons_cons _ (.cons _ .slnil))⟩)
  · rw [bif_neg h3] at hF
    have q4 := (and_imp (or_f h3) (fun h => (and_imp (and_t (not_f h)) (fun h => (of_decide_eq_true h)) (fun h => (of_decide_eq_true h)))) (fun h => (and_imp (and_t (not_f h)) (fun h => (of_decide_eq_true h)) (fun h => (of_decide_eq_true h)))))
    refine TC.skip ?_
    refine TN.seq ?_
    refine TC.seq ?_
    refine TC.region ?_
    refine TL.op (yq (y_move (ev_t rfl))) rfl rfl rfl ?_
    refine TL.op (yq (y_move (ev_t rfl))) rfl rfl rfl ?_
    refine TL.callr (ι := Value × List Value) (vs := [(.int .i64 n), (.int .i64 d)]) (fun i => (.agg #[i.1])) (fun i => [tabI 28 3 i.1 i.2 (F_spec_l6Uniform n d)]) en_73 ⟨(ev_t rfl), (ev_t rfl), trivial⟩ rfl (fun w hw => spec_l6Uniform_ok w n d (by first | assumption | omega | grind)) (fun r3_2 => ?_)
    refine TL.storeAgg (cs := [(.slice none 0 0)]) (us := [r3_2.1]) 1 (ev_t rfl) (ev_t rfl) agg_37 rfl rfl (fun w hw => (ocs_cons (ln_one ((fun w hw => ((rii_tab 0 rfl) w hw).1) w hw).ln) ocs_nil)) ?_
    refine TL.op (yq (y_assign ev_c)) rfl rfl rfl ?_
    refine TL.nil ?_
    refine TN.seq ?_
    refine TC.ret ?_
    subst hF
    exact TN.retCT (cs := [r3_2.1]) 1 (by simp) rfl (ev_t rfl) (ev_t rfl) agg_37 rfl (fun w' hw => ⟨(r3_2.1, r3_2.2), rfl, Hp.sublist hw (.cons_cons _ (.cons _ .slnil))⟩)

set_option maxRecDepth 4000 in
set_option maxHeartbeats 1000000 in
theorem spec_StarMetric_ok (w : World) (varms : Value) (arms : List Int) (harms : RI w varms arms)  :
    Calls Try.prog 50 ([varms] : List Value).toArray w (fun e w' => ∃ i : Value × List Value, e = .returned (.tuple #[(.agg #[i.1]), (.bool ((F_spec_StarMetric arms).2))]) ∧ Hp w [tabI 28 3 i.1 i.2 ((F_spec_StarMetric arms).1)] w') := by
  obtain ⟨rz, hF⟩ : ∃ rz, (F_spec_StarMetric arms) = rz := ⟨_, rfl⟩
  rw [hF]
  unfold F_spec_StarMetric at hF
  have hlen_arms := arg_len harms
  refine calls_tc Try.func50 rfl rfl rfl ?_
  change TC _ _ _ _ (Hp w []) [(0, varms)]
  refine TC.seq ?_
  refine TC.region ?_
  refine TL.alloc (u := (.agg #[(.slice none 0 0)])) (by kernel_rfl) rfl (fun g0_0 => ?_)
  refine TL.op (yq (y_assign ev_c)) rfl rfl rfl ?_
  refine TL.nil ?_
  refine TN.seq ?_
  refine TC.seq ?_
  refine TC.seq ?_
  refine TC.region ?_
  refine TL.op (yq (y_move (ev_t rfl))) rfl rfl rfl ?_
  refine TL.op (yq (y_len (ev_t rfl) Try.underlying28 (fun w hw => ((ri_arg harms) w hw).ln))) rfl rfl rfl ?_
  refine TL.op (y_call (vs := [(.int .i64 (arms.length : Int)), (.int .i64 1), (.int .i64 6)]) (v := (.bool ((decide (1 ≤ (arms.length : Int))) && (decide ((arms.length : Int) ≤ 6))))) en_58 ⟨(ev_t rfl), ev_c, ev_c, trivial⟩ (fun w hw => spec_l1In_ok w (arms.length : Int) 1 6)) rfl rfl rfl ?_
  refine TL.op (yq (y_not (ev_t rfl))) rfl rfl rfl ?_
  refine TL.nil ?_
  refine TN.seq ?_
  refine TC.cond (b := !((decide (1 ≤ (arms.length : Int))) && (decide ((arms.length : Int) ≤ 6)))) (ev_t rfl) (fun h59 => ?_) (fun h59 => ?_)
  · rw [bif_pos h59] at hF
    have q60 := ((and_f (not_t h59)).imp (fun h => (of_decide_eq_false h)) (fun h => (of_decide_eq_false h)))
    refine TC.seq ?_
    refine TC.region ?_
    refine TL.op (yq (y_bld0 bd_37_0)) rfl rfl rfl ?_
    refine TL.storeAgg (cs := [(.slice none 0 0)]) (us := [(.slice none 0 0)]) 0 (ev_t rfl) (ev_t rfl) agg_37 rfl rfl (fun w hw => (ocs_cons rfl ocs_nil)) ?_
    refine TL.op (yq (y_assign ev_c)) rfl rfl rfl ?_
    refine TL.nil ?_
    refine TN.seq ?_
    refine TC.ret ?_
    refine TN.thenR ?_
    subst hF
    refine TN.cls (fun w hw => hw.nilTab 28 3) ?_
    exact TN.retCT (cs := [(.slice none 0 0)]) 1 (by simp) rfl (ev_t rfl) (ev_t rfl) agg_37 rfl (fun w' hw => ⟨((.slice none 0 0), []), rfl, Hp.sublist hw (.cons_cons _ (.cons _ .slnil))⟩)
  · rw [bif_neg h59] at hF
    have q60 := (and_imp (and_t (not_f h59)) (fun h => (of_decide_eq_true h)) (fun h => (of_decide_eq_true h)))
    refine TC.skip ?_
    refine TN.seq ?_
    refine TC.seq ?_
    refine TC.seq ?_
    refine TC.region ?_
    refine TL.op (yq (y_assign ev_c)) rfl rfl rfl ?_
    refine TL.nil ?_
    refine TN.seq ?_
    refine TC.block ?_
    obtain ⟨c62, hc63⟩ : ∃ c, F_spec_StarMetric_L1 arms ((arms.length - 0) + 1) 0 = c := ⟨_, rfl⟩
    rw [hc63] at hF
    refine TC.loop (ι := Nat × Nat) (fun (fu1, i1) => [(0, varms), (2, (.pointer (some ⟨g0_0, 0, none⟩))), (4, (.int .i64 (i1 : Int)))]) (fun (fu1, i1) => Hp w [.blk g0_0 37 [(.slice none 0 0)]]) (fun (fu1, i1) => (i1 ≤ arms.length) ∧ (∀ j, j < i1 → 1 ≤ arms.getD j 0 ∧ arms.getD j 0 ≤ 49) ∧ arms.length - i1 < fu1 ∧ F_spec_StarMetric_L1 arms fu1 i1 = c62) (fun (fu1, i1) => fu1) ((arms.length - 0) + 1, 0) ⟨(by first | omega | (simp [-List.getD_eq_getElem?_getD] <;> omega)), (fun j hj => by omega), (by omega), hc63⟩ ⟨rfl, rfl, rfl, trivial⟩ (fun w hw => hw) ?_
    rintro ⟨fu1, i1⟩ hJ1
    obtain ⟨hi1_0, hi1_1, hmu1, hL1⟩ : (i1 ≤ arms.length) ∧ (∀ j, j < i1 → 1 ≤ arms.getD j 0 ∧ arms.getD j 0 ≤ 49) ∧ arms.length - i1 < fu1 ∧ F_spec_StarMetric_L1 arms fu1 i1 = c62 := hJ1
    change TC _ _ _ _ (Hp w [.blk g0_0 37 [(.slice none 0 0)]]) [(0, varms), (2, (.pointer (some ⟨g0_0, 0, none⟩))), (4, (.int .i64 (i1 : Int)))]
    obtain ⟨mf1, rfl⟩ : ∃ m, fu1 = m + 1 := ⟨fu1 - 1, by omega⟩
    rw [F_spec_StarMetric_L1_s] at hL1
    refine TC.seq ?_
    refine TC.seq ?_
    refine TC.region ?_
    refine TL.op (yq (y_move (ev_t rfl))) rfl rfl rfl ?_
    refine TL.op (yq (y_move (ev_t rfl))) rfl rfl rfl ?_
    refine TL.op (yq (y_len (ev_t rfl) Try.underlying28 (fun w hw => ((ri_arg harms) w hw).ln))) rfl rfl rfl ?_
    refine TL.op (yq (y_lss (ev_t rfl) (ev_t rfl))) rfl rfl rfl ?_
    refine TL.nil ?_
    refine TN.seq ?_
    refine TC.cond (b := decide ((i1 : Int) < (arms.length : Int))) (ev_t rfl) (fun h64 => ?_) (fun h64 => ?_)
    · rw [bif_pos h64] at hL1
      have q65 := (of_decide_eq_true h64)
      refine TC.skip ?_
      refine TN.seq ?_
      refine TC.seq ?_
      refine TC.block ?_
      refine TC.seq ?_
      refine TC.region ?_
      refine TL.op (yq (y_move (ev_t rfl))) rfl rfl rfl ?_
      refine TL.op (yq (y_move (ev_t rfl))) rfl rfl rfl ?_
      have hb66 : i1 < arms.length := (by first | omega | (simp only [List.length_set, List.length_append, List.length_cons, List.length_nil, List.length_replicate]; omega))
      refine TL.op (yq (y_idx (k := i1) (ev_t rfl) (ev_t rfl) (by omega) slT_28 (ri_arg harms) hb66)) rfl rfl rfl ?_
      refine TL.op (yq (y_ldi (ev_t rfl) one_3 (ri_arg harms) hb66)) rfl rfl rfl ?_
      refine TL.op (y_call (vs := [(.int .i64 (arms.getD i1 0)), (.int .i64 1), (.int .i64 49)]) (v := (.bool ((decide (1 ≤ (arms.getD i1 0))) && (decide ((arms.getD i1 0) ≤ 49))))) en_58 ⟨(ev_t rfl), ev_c, ev_c, trivial⟩ (fun w hw => spec_l1In_ok w (arms.getD i1 0) 1 49)) rfl rfl rfl ?_
      refine TL.op (yq (y_not (ev_t rfl))) rfl rfl rfl ?_
      refine TL.nil ?_
      refine TN.seq ?_
      refine TC.cond (b := !((decide (1 ≤ (arms.getD i1 0))) && (decide ((arms.getD i1 0) ≤ 49)))) (ev_t rfl) (fun h67 => ?_) (fun h67 => ?_)
      · rw [bif_pos h67] at hL1
        have q68 := ((and_f (not_t h67)).imp (fun h => (of_decide_eq_false h)) (fun h => (of_decide_eq_false h)))
        refine TC.seq ?_
        refine TC.region ?_
        refine TL.op (yq (y_bld0 bd_37_0)) rfl rfl rfl ?_
        refine TL.storeAgg (cs := [(.slice none 0 0)]) (us := [(.slice none 0 0)]) 0 (ev_t rfl) (ev_t rfl) agg_37 rfl rfl (fun w hw => (ocs_cons rfl ocs_nil)) ?_
        refine TL.op (yq (y_assign ev_c)) rfl rfl rfl ?_
        refine TL.nil ?_
        refine TN.seq ?_
        refine TC.ret ?_
        refine TN.blockR ?_
        refine TN.thenR ?_
        refine TN.thenR ?_
        rw [← hL1, elim_ret] at hF
        refine TN.blockR ?_
        refine TN.thenR ?_
        subst hF
        refine TN.cls (fun w hw => hw.nilTab 28 3) ?_
        exact TN.retCT (cs := [(.slice none 0 0)]) 1 (by simp) rfl (ev_t rfl) (ev_t rfl) agg_37 rfl (fun w' hw => ⟨((.slice none 0 0), []), rfl, Hp.sublist hw (.cons_cons _ (.cons _ .slnil))⟩)
      · rw [bif_neg h67] at hL1
        have q68 := (and_imp (and_t (not_f h67)) (fun h => (of_decide_eq_true h)) (fun h => (of_decide_eq_true h)))
        refine TC.skip ?_
        refine TN.blockN ?_
        refine TN.seq ?_
        refine TC.region ?_
        refine TL.op (yq (y_move (ev_t rfl))) rfl rfl rfl ?_
        refine TL.op (yq (y_add (ev_t rfl) ev_c (by unfold In64; omega))) rfl rfl rfl ?_
        refine TL.op (yq (y_assign (ev_t rfl))) rfl rfl rfl ?_
        refine TL.nil ?_
        exact TN.hand (mf1, (i1 + 1)) ⟨(by first | omega | (simp [-List.getD_eq_getElem?_getD] <;> omega)), (upto_succ hi1_1 (by omega)), (by omega), hL1⟩ (Nat.lt_succ_self _) ⟨rfl, rfl, rfl, trivial⟩ (fun w hw => hw)
    · rw [bif_neg h64] at hL1
      have q65 := (of_decide_eq_false h64)
      refine TC.exit ?_
      refine TN.thenE ?_
      refine TN.thenE ?_
      rw [← hL1, elim_next] at hF
      try dsimp only at hF
      refine TN.blockH ?_
      refine TN.seq ?_
      refine TC.seq ?_
      refine TC.region ?_
      refine TL.op (yq (y_move (ev_t rfl))) rfl rfl rfl ?_
      refine TL.op (yq (y_len (ev_t rfl) Try.underlying28 (fun w hw => ((ri_arg harms) w hw).ln))) rfl rfl rfl ?_
      refine TL.callr (ι := Value × List Value) (vs := [(.int .i64 (arms.length : Int)), (.int .i64 0)]) (fun i => (.agg #[i.1])) (fun i => [tabI 28 3 i.1 i.2 (F_spec_l6Uniform (arms.length : Int) 0)]) en_73 ⟨(ev_t rfl), ev_c, trivial⟩ rfl (fun w hw => spec_l6Uniform_ok w (arms.length : Int) 0 (by first | assumption | omega | grind)) (fun r8_2 => ?_)
      refine TL.alloc (u := (.agg #[(.slice none 0 0)])) (by kernel_rfl) rfl (fun g8_3 => ?_)
      refine TL.storeAgg (cs := [(.slice none 0 0)]) (us := [r8_2.1]) 0 (ev_t rfl) (ev_t rfl) agg_37 rfl rfl (fun w hw => (ocs_cons (ln_one ((fun w hw => ((rii_tab 1 rfl) w hw).1) w hw).ln) ocs_nil)) ?_
      refine TL.nil ?_
      refine TN.seq ?_
      refine TC.seq ?_
      refine TC.seq ?_
      refine TC.region ?_
      refine TL.op (yq (y_assign ev_c)) rfl rfl rfl ?_
      refine TL.nil ?_
      refine TN.seq ?_
      refine TC.block ?_
      obtain ⟨c70, hc71⟩ : ∃ c, F_spec_StarMetric_L2 arms ((arms.length - 0) + 1) (0, (F_spec_l6Uniform (arms.length : Int) 0)) = c := ⟨_, rfl⟩
      rw [hc71] at hF
      refine TC.loop (ι := Nat × Nat × List (List Int)) (fun (fu2, x2, m0_2) => [(0, varms), (2, (.pointer (some ⟨g0_0, 0, none⟩))), (5, (.pointer (some ⟨g8_3, 0, none⟩))), (6, (.int .i64 (x2 : Int)))]) (fun (fu2, x2, m0_2) => Hp w [.blk g8_3 37 [r8_2.1], tabI 28 3 r8_2.1 r8_2.2 m0_2, .blk g0_0 37 [(.slice none 0 0)]]) (fun (fu2, x2, m0_2) => (x2 ≤ arms.length) ∧ (Sq arms.length m0_2) ∧ arms.length - x2 < fu2 ∧ F_spec_StarMetric_L2 arms fu2 (x2, m0_2) = c70) (fun (fu2, x2, m0_2) => fu2) ((arms.length - 0) + 1, 0, (F_spec_l6Uniform (arms.length : Int) 0)) ⟨(by first | omega | (simp [-List.getD_eq_getElem?_getD] <;> omega)), (uniform_sq arms.length 0), (by omega), hc71⟩ ⟨rfl, rfl, rfl, rfl, trivial⟩ (fun w hw => hw) ?_
      rintro ⟨fu2, x2, m0_2⟩ hJ2
      obtain ⟨hi2_0, hi2_1, hmu2, hL2⟩ : (x2 ≤ arms.length) ∧ (Sq arms.length m0_2) ∧ arms.length - x2 < fu2 ∧ F_spec_StarMetric_L2 arms fu2 (x2, m0_2) = c70 := hJ2
      change TC _ _ _ _ (Hp w [.blk g8_3 37 [r8_2.1], tabI 28 3 r8_2.1 r8_2.2 m0_2, .blk g0_0 37 [(.slice none 0 0)]]) [(0, varms), (2, (.pointer (some ⟨g0_0, 0, none⟩))), (5, (.pointer (some ⟨g8_3, 0, none⟩))), (6, (.int .i64 (x2 : Int)))]
      obtain ⟨mf2, rfl⟩ : ∃ m, fu2 = m + 1 := ⟨fu2 - 1, by omega⟩
      rw [F_spec_StarMetric_L2_s] at hL2
      have ha1 := hi1_1 x2
      have hsl := hi2_1.len
      refine TC.seq ?_
      refine TC.seq ?_
      refine TC.region ?_
      refine TL.op (yq (y_move (ev_t rfl))) rfl rfl rfl ?_
      refine TL.op (yq (y_move (ev_t rfl))) rfl rfl rfl ?_
      refine TL.op (yq (y_len (ev_t rfl) Try.underlying28 (fun w hw => ((ri_arg harms) w hw).ln))) rfl rfl rfl ?_
      refine TL.op (yq (y_lss (ev_t rfl) (ev_t rfl))) rfl rfl rfl ?_
      refine TL.nil ?_
      refine TN.seq ?_
      refine TC.cond (b := decide ((x2 : Int) < (arms.length : Int))) (ev_t rfl) (fun h72 => ?_) (fun h72 => ?_)
      · rw [bif_pos h72] at hL2
        have q73 := (of_decide_eq_true h72)
        refine TC.skip ?_
        refine TN.seq ?_
        refine TC.seq ?_
        refine TC.block ?_
        refine TC.seq ?_
        refine TC.region ?_
        refine TL.op (yq (y_assign ev_c)) rfl rfl rfl ?_
        refine TL.nil ?_
        refine TN.seq ?_
        refine TC.block ?_
        obtain ⟨c74, hc75⟩ : ∃ c, F_spec_StarMetric_L3 arms x2 ((arms.length - 0) + 1) (0, m0_2) = c := ⟨_, rfl⟩
        rw [hc75] at hL2
        refine TC.loop (ι := Nat × Nat × List (List Int)) (fun (fu3, y3, m0_3) => [(0, varms), (2, (.pointer (some ⟨g0_0, 0, none⟩))), (5, (.pointer (some ⟨g8_3, 0, none⟩))), (6, (.int .i64 (x2 : Int))), (7, (.int .i64 (y3 : Int)))]) (fun (fu3, y3, m0_3) => Hp w [.blk g8_3 37 [r8_2.1], tabI 28 3 r8_2.1 r8_2.2 m0_3, .blk g0_0 37 [(.slice none 0 0)]]) (fun (fu3, y3, m0_3) => (y3 ≤ arms.length) ∧ (Sq arms.length m0_3) ∧ arms.length - y3 < fu3 ∧ F_spec_StarMetric_L3 arms x2 fu3 (y3, m0_3) = c74) (fun (fu3, y3, m0_3) => fu3) ((arms.length - 0) + 1, 0, m0_2) ⟨(by first | omega | (simp [-List.getD_eq_getElem?_getD] <;> omega)), hi2_1, (by omega), hc75⟩ ⟨rfl, rfl, rfl, rfl, rfl, trivial⟩ (fun w hw => hw) ?_
        rintro ⟨fu3, y3, m0_3⟩ hJ3
        obtain ⟨hi3_0, hi3_1, hmu3, hL3⟩ : (y3 ≤ arms.length) ∧ (Sq arms.length m0_3) ∧ arms.length - y3 < fu3 ∧ F_spec_StarMetric_L3 arms x2 fu3 (y3, m0_3) = c74 := hJ3
        change TC _ _ _ _ (Hp w [.blk g8_3 37 [r8_2.1], tabI 28 3 r8_2.1 r8_2.2 m0_3, .blk g0_0 37 [(.slice none 0 0)]]) [(0, varms), (2, (.pointer (some ⟨g0_0, 0, none⟩))), (5, (.pointer (some ⟨g8_3, 0, none⟩))), (6, (.int .i64 (x2 : Int))), (7, (.int .i64 (y3 : Int)))]
        obtain ⟨mf3, rfl⟩ : ∃ m, fu3 = m + 1 := ⟨fu3 - 1, by omega⟩
        rw [F_spec_StarMetric_L3_s] at hL3
        have ha2 := hi1_1 y3
        have hsl3 := hi3_1.len
        have hsr3 := hi3_1.rows x2
        refine TC.seq ?_
        refine TC.seq ?_
        refine TC.region ?_
        refine TL.op (yq (y_move (ev_t rfl))) rfl rfl rfl ?_
        refine TL.op (yq (y_move (ev_t rfl))) rfl rfl rfl ?_
        refine TL.op (yq (y_len (ev_t rfl) Try.underlying28 (fun w hw => ((ri_arg harms) w hw).ln))) rfl rfl rfl ?_
        refine TL.op (yq (y_lss (ev_t rfl) (ev_t rfl))) rfl rfl rfl ?_
        refine TL.nil ?_
        refine TN.seq ?_
        refine TC.cond (b := decide ((y3 : Int) < (arms.length : Int))) (ev_t rfl) (fun h76 => ?_) (fun h76 => ?_)
        · rw [bif_pos h76] at hL3
          have q77 := (of_decide_eq_true h76)
          refine TC.skip ?_
          refine TN.seq ?_
          refine TC.seq ?_
          refine TC.block ?_
          refine TC.seq ?_
          refine TC.region ?_
          refine TL.op (yq (y_move (ev_t rfl))) rfl rfl rfl ?_
          refine TL.op (yq (y_move (ev_t rfl))) rfl rfl rfl ?_
          refine TL.op (yq (y_neq (ev_t rfl) (ev_t rfl))) rfl rfl rfl ?_
          refine TL.nil ?_
          refine TN.seq ?_
          refine TC.cond (b := !decide ((x2 : Int) = (y3 : Int))) (ev_t rfl) (fun h78 => ?_) (fun h78 => ?_)
          · rw [bif_pos h78] at hL3
            have q79 := (of_decide_eq_false (not_t h78))
            refine TC.regionT 16 (by kernel_rfl) (by kernel_rfl) dr_hp ?_
            refine TQ.op (yq (y_fa (fa_37_0 g8_3) (ev_t rfl))) rfl rfl rfl ?_
            refine TQ.op (yq (y_ldb 0 (ev_t rfl) one_22 rfl rfl)) rfl rfl rfl ?_
            refine TQ.op (yq (y_move (ev_t rfl))) rfl rfl rfl ?_
            have hb80 : x2 < m0_3.length := (by first | omega | (simp only [List.length_set, List.length_append, List.length_cons, List.length_nil, List.length_replicate]; omega))
            refine TQ.op (yq (y_idx (k := x2) (ev_t rfl) (ev_t rfl) (by omega) slT_22 (fun w hw => ((rii_tab 1 rfl) w hw).1) hb80)) rfl rfl rfl ?_
            refine TQ.op (yq (y_ldT 1 (ev_t rfl) one_28 rfl hb80)) rfl rfl rfl ?_
            refine TQ.op (yq (y_move (ev_t rfl))) rfl rfl rfl ?_
            refine TQ.op (yq (y_move (ev_t rfl))) rfl rfl rfl ?_
            refine TQ.op (yq (y_move (ev_t rfl))) rfl rfl rfl ?_
            have hb81 : x2 < arms.length := (by first | omega | (simp only [List.length_set, List.length_append, List.length_cons, List.length_nil, List.length_replicate]; omega))
            refine TQ.op (yq (y_idx (k := x2) (ev_t rfl) (ev_t rfl) (by omega) slT_28 (ri_arg harms) hb81)) rfl rfl rfl ?_
            refine TQ.op (yq (y_ldi (ev_t rfl) one_3 (ri_arg harms) hb81)) rfl rfl rfl ?_
            refine TQ.op (yq (y_move (ev_t rfl))) rfl rfl rfl ?_
            refine TQ.op (yq (y_move (ev_t rfl))) rfl rfl rfl ?_
            have hb82 : y3 < arms.length := (by first | omega | (simp only [List.length_set, List.length_append, List.length_cons, List.length_nil, List.length_replicate]; omega))
            refine TQ.op (yq (y_idx (k := y3) (ev_t rfl) (ev_t rfl) (by omega) slT_28 (ri_arg harms) hb82)) rfl rfl rfl ?_
            refine TQ.op (yq (y_ldi (ev_t rfl) one_3 (ri_arg harms) hb82)) rfl rfl rfl ?_
            refine TQ.op (yq (y_add (ev_t rfl) (ev_t rfl) (by unfold In64; omega))) rfl rfl rfl ?_
            have hb83 : y3 < (m0_3.getD x2 []).length := (by first | omega | (simp only [List.length_set, List.length_append, List.length_cons, List.length_nil, List.length_replicate]; omega))
            refine TQ.op (yq (y_idx (k := y3) (ev_t rfl) (ev_t rfl) (by omega) slT_28 (ri_tab 1 x2 rfl hb80) hb83)) rfl rfl rfl ?_
            refine TQ.tail ?_
            refine TL.storeT 1 (ev_t rfl) (ev_t rfl) one_3 rfl hb80 hb83 ?_
            refine TL.nil ?_
            refine TN.blockN ?_
            refine TN.seq ?_
            refine TC.region ?_
            refine TL.op (yq (y_move (ev_t rfl))) rfl rfl rfl ?_
            refine TL.op (yq (y_add (ev_t rfl) ev_c (by unfold In64; omega))) rfl rfl rfl ?_
            refine TL.op (yq (y_assign (ev_t rfl))) rfl rfl rfl ?_
            refine TL.nil ?_
            exact TN.hand (mf3, (y3 + 1), (m0_3.set x2 ((m0_3.getD x2 []).set y3 ((arms.getD x2 0) + (arms.getD y3 0))))) ⟨(by first | omega | (simp [-List.getD_eq_getElem?_getD] <;> omega)), (by first | exact hi3_1 | exact hi3_1.set (by omega) (by omega)), (by omega), hL3⟩ (Nat.lt_succ_self _) ⟨rfl, rfl, rfl, rfl, rfl, trivial⟩ (fun w hw => hw)
          · rw [bif_neg h78] at hL3
            have q79 := (of_decide_eq_true (not_f h78))
            refine TC.skip ?_
            refine TN.blockN ?_
            refine TN.seq ?_
            refine TC.region ?_
            refine TL.op (yq (y_move (ev_t rfl))) rfl rfl rfl ?_
            refine TL.op (yq (y_add (ev_t rfl) ev_c (by unfold In64; omega))) rfl rfl rfl ?_
            refine TL.op (yq (y_assign (ev_t rfl))) rfl rfl rfl ?_
            refine TL.nil ?_
            exact TN.hand (mf3, (y3 + 1), m0_3) ⟨(by first | omega | (simp [-List.getD_eq_getElem?_getD] <;> omega)), (by first | exact hi3_1 | exact hi3_1.set (by omega) (by omega)), (by omega), hL3⟩ (Nat.lt_succ_self _) ⟨rfl, rfl, rfl, rfl, rfl, trivial⟩ (fun w hw => hw)
        · rw [bif_neg h76] at hL3
          have q77 := (of_decide_eq_false h76)
          refine TC.exit ?_
          refine TN.thenE ?_
          refine TN.thenE ?_
          rw [← hL3, elim_next] at hL2
          try dsimp only at hL2
          refine TN.blockH ?_
          refine TN.blockN ?_
          refine TN.seq ?_
          refine TC.region ?_
          refine TL.op (yq (y_move (ev_t rfl))) rfl rfl rfl ?_
          refine TL.op (yq (y_add (ev_t rfl) ev_c (by unfold In64; omega))) rfl rfl rfl ?_
          refine TL.op (yq (y_assign (ev_t rfl))) rfl rfl rfl ?_
          refine TL.nil ?_
          exact TN.hand (mf2, (x2 + 1), m0_3) ⟨(by first | omega | (simp [-List.getD_eq_getElem?_getD] <;> omega)), hi3_1, (by omega), hL2⟩ (Nat.lt_succ_self _) ⟨rfl, rfl, rfl, rfl, trivial⟩ (fun w hw => hw)
      · rw [bif_neg h72] at hL2
        have q73 := (of_decide_eq_false h72)
        refine TC.exit ?_
        refine TN.thenE ?_
        refine TN.thenE ?_
        rw [← hL2, elim_next] at hF
        try dsimp only at hF
        refine TN.blockH ?_
        refine TN.seq ?_
        refine TC.seq ?_
        refine TC.region ?_
        refine TL.op (yq (y_ldagg (cs := [r8_2.1]) 0 (ev_t rfl) agg_37 rfl)) rfl rfl rfl ?_
        refine TL.storeAgg (cs := [(.slice none 0 0)]) (us := [r8_2.1]) 2 (ev_t rfl) (ev_t rfl) agg_37 rfl rfl (fun w hw => (ocs_cons (ln_one ((fun w hw => ((rii_tab 1 rfl) w hw).1) w hw).ln) ocs_nil)) ?_
        refine TL.op (yq (y_assign ev_c)) rfl rfl rfl ?_
        refine TL.nil ?_
        refine TN.seq ?_
        refine TC.ret ?_
        subst hF
        exact TN.retCT (cs := [r8_2.1]) 2 (by simp) rfl (ev_t rfl) (ev_t rfl) agg_37 rfl (fun w' hw => ⟨(r8_2.1, r8_2.2), rfl, Hp.sublist hw (.cons _ (.cons_cons _ (.cons _ .slnil)))⟩)

set_option maxRecDepth 4000 in
set_option maxHeartbeats 1000000 in
theorem spec_l6Line_ok (w : World) (vplaces : Value) (places : List Int) (hplaces : RI w vplaces places) (hp0 : places.length ≤ 6) (hp1 : ∀ i, i < places.length → 0 ≤ places.getD i 0 ∧ places.getD i 0 ≤ 99) :
    Calls Try.prog 95 ([vplaces] : List Value).toArray w (fun e w' => ∃ i : Value × List Value, e = .returned (.agg #[i.1]) ∧ Hp w [tabI 28 3 i.1 i.2 (F_spec_l6Line places)] w') := by
  obtain ⟨rz, hF⟩ : ∃ rz, (F_spec_l6Line places) = rz := ⟨_, rfl⟩
  rw [hF]
  unfold F_spec_l6Line at hF
  have hlen_places := arg_len hplaces
  refine calls_tc Try.func95 rfl rfl rfl ?_
  change TC _ _ _ _ (Hp w []) [(0, vplaces)]
  refine TC.seq ?_
  refine TC.region ?_
  refine TL.alloc (u := (.agg #[(.slice none 0 0)])) (by kernel_rfl) rfl (fun g0_0 => ?_)
  refine TL.nil ?_
  refine TN.seq ?_
  refine TC.seq ?_
  refine TC.region ?_
  refine TL.op (yq (y_move (ev_t rfl))) rfl rfl rfl ?_
  refine TL.op (yq (y_len (ev_t rfl) Try.underlying28 (fun w hw => ((ri_arg hplaces) w hw).ln))) rfl rfl rfl ?_
  refine TL.callr (ι := Value × List Value) (vs := [(.int .i64 (places.length : Int)), (.int .i64 0)]) (fun i => (.agg #[i.1])) (fun i => [tabI 28 3 i.1 i.2 (F_spec_l6Uniform (places.length : Int) 0)]) en_73 ⟨(ev_t rfl), ev_c, trivial⟩ rfl (fun w hw => spec_l6Uniform_ok w (places.length : Int) 0 (by first | assumption | omega | grind)) (fun r1_2 => ?_)
  refine TL.alloc (u := (.agg #[(.slice none 0 0)])) (by kernel_rfl) rfl (fun g1_3 => ?_)
  refine TL.storeAgg (cs := [(.slice none 0 0)]) (us := [r1_2.1]) 0 (ev_t rfl) (ev_t rfl) agg_37 rfl rfl (fun w hw => (ocs_cons (ln_one ((fun w hw => ((rii_tab 1 rfl) w hw).1) w hw).ln) ocs_nil)) ?_
  refine TL.nil ?_
  refine TN.seq ?_
  refine TC.seq ?_
  refine TC.seq ?_
  refine TC.region ?_
  refine TL.op (yq (y_assign ev_c)) rfl rfl rfl ?_
  refine TL.nil ?_
  refine TN.seq ?_
  refine TC.block ?_
  obtain ⟨c47, hc48⟩ : ∃ c, F_spec_l6Line_L1 places ((places.length - 0) + 1) (0, (F_spec_l6Uniform (places.length : Int) 0)) = c := ⟨_, rfl⟩
  rw [hc48] at hF
  refine TC.loop (ι := Nat × Nat × List (List Int)) (fun (fu1, x1, m0_1) => [(0, vplaces), (2, (.pointer (some ⟨g0_0, 0, none⟩))), (3, (.pointer (some ⟨g1_3, 0, none⟩))), (4, (.int .i64 (x1 : Int)))]) (fun (fu1, x1, m0_1) => Hp w [.blk g1_3 37 [r1_2.1], tabI 28 3 r1_2.1 r1_2.2 m0_1, .blk g0_0 37 [(.slice none 0 0)]]) (fun (fu1, x1, m0_1) => (x1 ≤ places.length) ∧ (Sq places.length m0_1) ∧ places.length - x1 < fu1 ∧ F_spec_l6Line_L1 places fu1 (x1, m0_1) = c47) (fun (fu1, x1, m0_1) => fu1) ((places.length - 0) + 1, 0, (F_spec_l6Uniform (places.length : Int) 0)) ⟨(by first | omega | (simp [-List.getD_eq_getElem?_getD] <;> omega)), (uniform_sq places.length 0), (by omega), hc48⟩ ⟨rfl, rfl, rfl, rfl, trivial⟩ (fun w hw => hw) ?_
  rintro ⟨fu1, x1, m0_1⟩ hJ1
  obtain ⟨hi1_0, hi1_1, hmu1, hL1⟩ : (x1 ≤ places.length) ∧ (Sq places.length m0_1) ∧ places.length - x1 < fu1 ∧ F_spec_l6Line_L1 places fu1 (x1, m0_1) = c47 := hJ1
  change TC _ _ _ _ (Hp w [.blk g1_3 37 [r1_2.1], tabI 28 3 r1_2.1 r1_2.2 m0_1, .blk g0_0 37 [(.slice none 0 0)]]) [(0, vplaces), (2, (.pointer (some ⟨g0_0, 0, none⟩))), (3, (.pointer (some ⟨g1_3, 0, none⟩))), (4, (.int .i64 (x1 : Int)))]
  obtain ⟨mf1, rfl⟩ : ∃ m, fu1 = m + 1 := ⟨fu1 - 1, by omega⟩
  rw [F_spec_l6Line_L1_s] at hL1
  have hb1 := hp1 x1
  refine TC.seq ?_
  refine TC.seq ?_
  refine TC.region ?_
  refine TL.op (yq (y_move (ev_t rfl))) rfl rfl rfl ?_
  refine TL.op (yq (y_move (ev_t rfl))) rfl rfl rfl ?_
  refine TL.op (yq (y_len (ev_t rfl) Try.underlying28 (fun w hw => ((ri_arg hplaces) w hw).ln))) rfl rfl rfl ?_
  refine TL.op (yq (y_lss (ev_t rfl) (ev_t rfl))) rfl rfl rfl ?_
  refine TL.nil ?_
  refine TN.seq ?_
  refine TC.cond (b := decide ((x1 : Int) < (places.length : Int))) (ev_t rfl) (fun h49 => ?_) (fun h49 => ?_)
  · rw [bif_pos h49] at hL1
    have q50 := (of_decide_eq_true h49)
    refine TC.skip ?_
    refine TN.seq ?_
    refine TC.seq ?_
    refine TC.block ?_
    refine TC.seq ?_
    refine TC.region ?_
    refine TL.op (yq (y_assign ev_c)) rfl rfl rfl ?_
    refine TL.nil ?_
    refine TN.seq ?_
    refine TC.block ?_
    obtain ⟨c51, hc52⟩ : ∃ c, F_spec_l6Line_L2 places x1 ((places.length - 0) + 1) (0, m0_1) = c := ⟨_, rfl⟩
    rw [hc52] at hL1
    refine TC.loop (ι := Nat × Nat × List (List Int)) (fun (fu2, y2, m0_2) => [(0, vplaces), (2, (.pointer (some ⟨g0_0, 0, none⟩))), (3, (.pointer (some ⟨g1_3, 0, none⟩))), (4, (.int .i64 (x1 : Int))), (5, (.int .i64 (y2 : Int)))]) (fun (fu2, y2, m0_2) => Hp w [.blk g1_3 37 [r1_2.1], tabI 28 3 r1_2.1 r1_2.2 m0_2, .blk g0_0 37 [(.slice none 0 0)]]) (fun (fu2, y2, m0_2) => (y2 ≤ places.length) ∧ (Sq places.length m0_2) ∧ places.length - y2 < fu2 ∧ F_spec_l6Line_L2 places x1 fu2 (y2, m0_2) = c51) (fun (fu2, y2, m0_2) => fu2) ((places.length - 0) + 1, 0, m0_1) ⟨(by first | omega | (simp [-List.getD_eq_getElem?_getD] <;> omega)), hi1_1, (by omega), hc52⟩ ⟨rfl, rfl, rfl, rfl, rfl, trivial⟩ (fun w hw => hw) ?_
    rintro ⟨fu2, y2, m0_2⟩ hJ2
    obtain ⟨hi2_0, hi2_1, hmu2, hL2⟩ : (y2 ≤ places.length) ∧ (Sq places.length m0_2) ∧ places.length - y2 < fu2 ∧ F_spec_l6Line_L2 places x1 fu2 (y2, m0_2) = c51 := hJ2
    change TC _ _ _ _ (Hp w [.blk g1_3 37 [r1_2.1], tabI 28 3 r1_2.1 r1_2.2 m0_2, .blk g0_0 37 [(.slice none 0 0)]]) [(0, vplaces), (2, (.pointer (some ⟨g0_0, 0, none⟩))), (3, (.pointer (some ⟨g1_3, 0, none⟩))), (4, (.int .i64 (x1 : Int))), (5, (.int .i64 (y2 : Int)))]
    obtain ⟨mf2, rfl⟩ : ∃ m, fu2 = m + 1 := ⟨fu2 - 1, by omega⟩
    rw [F_spec_l6Line_L2_s] at hL2
    have hb2 := hp1 y2
    have hsl2 := hi2_1.len
    have hsr2 := hi2_1.rows x1
    refine TC.seq ?_
    refine TC.seq ?_
    refine TC.region ?_
    refine TL.op (yq (y_move (ev_t rfl))) rfl rfl rfl ?_
    refine TL.op (yq (y_move (ev_t rfl))) rfl rfl rfl ?_
    refine TL.op (yq (y_len (ev_t rfl) Try.underlying28 (fun w hw => ((ri_arg hplaces) w hw).ln))) rfl rfl rfl ?_
    refine TL.op (yq (y_lss (ev_t rfl) (ev_t rfl))) rfl rfl rfl ?_
    refine TL.nil ?_
    refine TN.seq ?_
    refine TC.cond (b := decide ((y2 : Int) < (places.length : Int))) (ev_t rfl) (fun h53 => ?_) (fun h53 => ?_)
    · rw [bif_pos h53] at hL2
      have q54 := (of_decide_eq_true h53)
      refine TC.skip ?_
      refine TN.seq ?_
      refine TC.seq ?_
      refine TC.block ?_
      refine TC.regionT 26 (by kernel_rfl) (by kernel_rfl) dr_hp ?_
      refine TQ.op (yq (y_fa (fa_37_0 g1_3) (ev_t rfl))) rfl rfl rfl ?_
      refine TQ.op (yq (y_ldb 0 (ev_t rfl) one_22 rfl rfl)) rfl rfl rfl ?_
      refine TQ.op (yq (y_move (ev_t rfl))) rfl rfl rfl ?_
      have hb55 : x1 < m0_2.length := (by first | omega | (simp only [List.length_set, List.length_append, List.length_cons, List.length_nil, List.length_replicate]; omega))
      refine TQ.op (yq (y_idx (k := x1) (ev_t rfl) (ev_t rfl) (by omega) slT_22 (fun w hw => ((rii_tab 1 rfl) w hw).1) hb55)) rfl rfl rfl ?_
      refine TQ.op (yq (y_ldT 1 (ev_t rfl) one_28 rfl hb55)) rfl rfl rfl ?_
      refine TQ.op (yq (y_move (ev_t rfl))) rfl rfl rfl ?_
      refine TQ.op (yq (y_move (ev_t rfl))) rfl rfl rfl ?_
      refine TQ.op (yq (y_move (ev_t rfl))) rfl rfl rfl ?_
      have hb56 : x1 < places.length := (by first | omega | (simp only [List.length_set, List.length_append, List.length_cons, List.length_nil, List.length_replicate]; omega))
      refine TQ.op (yq (y_idx (k := x1) (ev_t rfl) (ev_t rfl) (by omega) slT_28 (ri_arg hplaces) hb56)) rfl rfl rfl ?_
      refine TQ.op (yq (y_ldi (ev_t rfl) one_3 (ri_arg hplaces) hb56)) rfl rfl rfl ?_
      refine TQ.op (yq (y_move (ev_t rfl))) rfl rfl rfl ?_
      refine TQ.op (yq (y_move (ev_t rfl))) rfl rfl rfl ?_
      have hb57 : y2 < places.length := (by first | omega | (simp only [List.length_set, List.length_append, List.length_cons, List.length_nil, List.length_replicate]; omega))
      refine TQ.op (yq (y_idx (k := y2) (ev_t rfl) (ev_t rfl) (by omega) slT_28 (ri_arg hplaces) hb57)) rfl rfl rfl ?_
      refine TQ.op (yq (y_ldi (ev_t rfl) one_3 (ri_arg hplaces) hb57)) rfl rfl rfl ?_
      refine TQ.op (yq (y_sub (ev_t rfl) (ev_t rfl) (by unfold In64; omega))) rfl rfl rfl ?_
      refine TQ.op (yq (y_move (ev_t rfl))) rfl rfl rfl ?_
      refine TQ.op (yq (y_move (ev_t rfl))) rfl rfl rfl ?_
      have hb58 : y2 < places.length := (by first | omega | (simp only [List.length_set, List.length_append, List.length_cons, List.length_nil, List.length_replicate]; omega))
      refine TQ.op (yq (y_idx (k := y2) (ev_t rfl) (ev_t rfl) (by omega) slT_28 (ri_arg hplaces) hb58)) rfl rfl rfl ?_
      refine TQ.op (yq (y_ldi (ev_t rfl) one_3 (ri_arg hplaces) hb58)) rfl rfl rfl ?_
      refine TQ.op (yq (y_move (ev_t rfl))) rfl rfl rfl ?_
      refine TQ.op (yq (y_move (ev_t rfl))) rfl rfl rfl ?_
      have hb59 : x1 < places.length := (by first | omega | (simp only [List.length_set, List.length_append, List.length_cons, List.length_nil, List.length_replicate]; omega))
      refine TQ.op (yq (y_idx (k := x1) (ev_t rfl) (ev_t rfl) (by omega) slT_28 (ri_arg hplaces) hb59)) rfl rfl rfl ?_
      refine TQ.op (yq (y_ldi (ev_t rfl) one_3 (ri_arg hplaces) hb59)) rfl rfl rfl ?_
      refine TQ.op (yq (y_sub (ev_t rfl) (ev_t rfl) (by unfold In64; omega))) rfl rfl rfl ?_
      refine TQ.op (y_call (vs := [(.int .i64 ((places.getD x1 0) - (places.getD y2 0))), (.int .i64 ((places.getD y2 0) - (places.getD x1 0)))]) (v := (.int .i64 (F_spec_l1Most ((places.getD x1 0) - (places.getD y2 0)) ((places.getD y2 0) - (places.getD x1 0))))) en_92 ⟨(ev_t rfl), (ev_t rfl), trivial⟩ (fun w hw => spec_l1Most_ok w ((places.getD x1 0) - (places.getD y2 0)) ((places.getD y2 0) - (places.getD x1 0)))) rfl rfl rfl ?_
      have hb60 : y2 < (m0_2.getD x1 []).length := (by first | omega | (simp only [List.length_set, List.length_append, List.length_cons, List.length_nil, List.length_replicate]; omega))
      refine TQ.op (yq (y_idx (k := y2) (ev_t rfl) (ev_t rfl) (by omega) slT_28 (ri_tab 1 x1 rfl hb55) hb60)) rfl rfl rfl ?_
      refine TQ.tail ?_
      refine TL.storeT 1 (ev_t rfl) (ev_t rfl) one_3 rfl hb55 hb60 ?_
      refine TL.nil ?_
      refine TN.blockN ?_
      refine TN.seq ?_
      refine TC.region ?_
      refine TL.op (yq (y_move (ev_t rfl))) rfl rfl rfl ?_
      refine TL.op (yq (y_add (ev_t rfl) ev_c (by unfold In64; omega))) rfl rfl rfl ?_
      refine TL.op (yq (y_assign (ev_t rfl))) rfl rfl rfl ?_
      refine TL.nil ?_
      exact TN.hand (mf2, (y2 + 1), (m0_2.set x1 ((m0_2.getD x1 []).set y2 (F_spec_l1Most ((places.getD x1 0) - (places.getD y2 0)) ((places.getD y2 0) - (places.getD x1 0)))))) ⟨(by first | omega | (simp [-List.getD_eq_getElem?_getD] <;> omega)), (hi2_1.set (by omega) (by omega)), (by omega), hL2⟩ (Nat.lt_succ_self _) ⟨rfl, rfl, rfl, rfl, rfl, trivial⟩ (fun w hw => hw)
    · rw [bif_neg h53] at hL2
      have q54 := (of_decide_eq_false h53)
      refine TC.exit ?_
      refine TN.thenE ?_
      refine TN.thenE ?_
      rw [← hL2, elim_next] at hL1
      try dsimp only at hL1
      refine TN.blockH ?_
      refine TN.blockN ?_
      refine TN.seq ?_
      refine TC.region ?_
      refine TL.op (yq (y_move (ev_t rfl))) rfl rfl rfl ?_
      refine TL.op (yq (y_add (ev_t rfl) ev_c (by unfold In64; omega))) rfl rfl rfl ?_
      refine TL.op (yq (y_assign (ev_t rfl))) rfl rfl rfl ?_
      refine TL.nil ?_
      exact TN.hand (mf1, (x1 + 1), m0_2) ⟨(by first | omega | (simp [-List.getD_eq_getElem?_getD] <;> omega)), hi2_1, (by omega), hL1⟩ (Nat.lt_succ_self _) ⟨rfl, rfl, rfl, rfl, trivial⟩ (fun w hw => hw)
  · rw [bif_neg h49] at hL1
    have q50 := (of_decide_eq_false h49)
    refine TC.exit ?_
    refine TN.thenE ?_
    refine TN.thenE ?_
    rw [← hL1, elim_next] at hF
    try dsimp only at hF
    refine TN.blockH ?_
    refine TN.seq ?_
    refine TC.seq ?_
    refine TC.region ?_
    refine TL.op (yq (y_ldagg (cs := [r1_2.1]) 0 (ev_t rfl) agg_37 rfl)) rfl rfl rfl ?_
    refine TL.storeAgg (cs := [(.slice none 0 0)]) (us := [r1_2.1]) 2 (ev_t rfl) (ev_t rfl) agg_37 rfl rfl (fun w hw => (ocs_cons (ln_one ((fun w hw => ((rii_tab 1 rfl) w hw).1) w hw).ln) ocs_nil)) ?_
    refine TL.nil ?_
    refine TN.seq ?_
    refine TC.ret ?_
    subst hF
    exact TN.retC (cs := [r1_2.1]) 2 (by simp) rfl (ev_t rfl) agg_37 rfl (fun w' hw => ⟨(r1_2.1, r1_2.2), rfl, Hp.sublist hw (.cons _ (.cons_cons _ (.cons _ .slnil)))⟩)

set_option maxRecDepth 4000 in
set_option maxHeartbeats 1000000 in
theorem spec_LineMetric_ok (w : World) (vplaces : Value) (places : List Int) (hplaces : RI w vplaces places)  :
    Calls Try.prog 54 ([vplaces] : List Value).toArray w (fun e w' => ∃ i : Value × List Value, e = .returned (.tuple #[(.agg #[i.1]), (.bool ((F_spec_LineMetric places).2))]) ∧ Hp w [tabI 28 3 i.1 i.2 ((F_spec_LineMetric places).1)] w') := by
  obtain ⟨rz, hF⟩ : ∃ rz, (F_spec_LineMetric places) = rz := ⟨_, rfl⟩
  rw [hF]
  unfold F_spec_LineMetric at hF
  have hlen_places := arg_len hplaces
  refine calls_tc Try.func54 rfl rfl rfl ?_
  change TC _ _ _ _ (Hp w []) [(0, vplaces)]
  refine TC.seq ?_
  refine TC.region ?_
  refine TL.alloc (u := (.agg #[(.slice none 0 0)])) (by kernel_rfl) rfl (fun g0_0 => ?_)
  refine TL.op (yq (y_assign ev_c)) rfl rfl rfl ?_
  refine TL.nil ?_
  refine TN.seq ?_
  refine TC.seq ?_
  refine TC.seq ?_
  refine TC.region ?_
  refine TL.op (yq (y_move (ev_t rfl))) rfl rfl rfl ?_
  refine TL.op (yq (y_len (ev_t rfl) Try.underlying28 (fun w hw => ((ri_arg hplaces) w hw).ln))) rfl rfl rfl ?_
  refine TL.op (y_call (vs := [(.int .i64 (places.length : Int)), (.int .i64 1), (.int .i64 6)]) (v := (.bool ((decide (1 ≤ (places.length : Int))) && (decide ((places.length : Int) ≤ 6))))) en_58 ⟨(ev_t rfl), ev_c, ev_c, trivial⟩ (fun w hw => spec_l1In_ok w (places.length : Int) 1 6)) rfl rfl rfl ?_
  refine TL.op (yq (y_not (ev_t rfl))) rfl rfl rfl ?_
  refine TL.nil ?_
  refine TN.seq ?_
  refine TC.cond (b := !((decide (1 ≤ (places.length : Int))) && (decide ((places.length : Int) ≤ 6)))) (ev_t rfl) (fun h13 => ?_) (fun h13 => ?_)
  · rw [bif_pos h13] at hF
    have q14 := ((and_f (not_t h13)).imp (fun h => (of_decide_eq_false h)) (fun h => (of_decide_eq_false h)))
    refine TC.seq ?_
    refine TC.region ?_
    refine TL.op (yq (y_bld0 bd_37_0)) rfl rfl rfl ?_
    refine TL.storeAgg (cs := [(.slice none 0 0)]) (us := [(.slice none 0 0)]) 0 (ev_t rfl) (ev_t rfl) agg_37 rfl rfl (fun w hw => (ocs_cons rfl ocs_nil)) ?_
    refine TL.op (yq (y_assign ev_c)) rfl rfl rfl ?_
    refine TL.nil ?_
    refine TN.seq ?_
    refine TC.ret ?_
    refine TN.thenR ?_
    subst hF
    refine TN.cls (fun w hw => hw.nilTab 28 3) ?_
    exact TN.retCT (cs := [(.slice none 0 0)]) 1 (by simp) rfl (ev_t rfl) (ev_t rfl) agg_37 rfl (fun w' hw => ⟨((.slice none 0 0), []), rfl, Hp.sublist hw (.cons_cons _ (.cons _ .slnil))⟩)
  · rw [bif_neg h13] at hF
    have q14 := (and_imp (and_t (not_f h13)) (fun h => (of_decide_eq_true h)) (fun h => (of_decide_eq_true h)))
    refine TC.skip ?_
    refine TN.seq ?_
    refine TC.seq ?_
    refine TC.seq ?_
    refine TC.region ?_
    refine TL.op (yq (y_assign ev_c)) rfl rfl rfl ?_
    refine TL.nil ?_
    refine TN.seq ?_
    refine TC.block ?_
    obtain ⟨c16, hc17⟩ : ∃ c, F_spec_LineMetric_L1 places ((places.length - 0) + 1) 0 = c := ⟨_, rfl⟩
    rw [hc17] at hF
    refine TC.loop (ι := Nat × Nat) (fun (fu1, i1) => [(0, vplaces), (2, (.pointer (some ⟨g0_0, 0, none⟩))), (4, (.int .i64 (i1 : Int)))]) (fun (fu1, i1) => Hp w [.blk g0_0 37 [(.slice none 0 0)]]) (fun (fu1, i1) => (i1 ≤ places.length) ∧ (∀ j, j < i1 → 0 ≤ places.getD j 0 ∧ places.getD j 0 ≤ 99) ∧ places.length - i1 < fu1 ∧ F_spec_LineMetric_L1 places fu1 i1 = c16) (fun (fu1, i1) => fu1) ((places.length - 0) + 1, 0) ⟨(by first | omega | (simp [-List.getD_eq_getElem?_getD] <;> omega)), (fun j hj => by omega), (by omega), hc17⟩ ⟨rfl, rfl, rfl, trivial⟩ (fun w hw => hw) ?_
    rintro ⟨fu1, i1⟩ hJ1
    obtain ⟨hi1_0, hi1_1, hmu1, hL1⟩ : (i1 ≤ places.length) ∧ (∀ j, j < i1 → 0 ≤ places.getD j 0 ∧ places.getD j 0 ≤ 99) ∧ places.length - i1 < fu1 ∧ F_spec_LineMetric_L1 places fu1 i1 = c16 := hJ1
    change TC _ _ _ _ (Hp w [.blk g0_0 37 [(.slice none 0 0)]]) [(0, vplaces), (2, (.pointer (some ⟨g0_0, 0, none⟩))), (4, (.int .i64 (i1 : Int)))]
    obtain ⟨mf1, rfl⟩ : ∃ m, fu1 = m + 1 := ⟨fu1 - 1, by omega⟩
    rw [F_spec_LineMetric_L1_s] at hL1
    refine TC.seq ?_
    refine TC.seq ?_
    refine TC.region ?_
    refine TL.op (yq (y_move (ev_t rfl))) rfl rfl rfl ?_
    refine TL.op (yq (y_move (ev_t rfl))) rfl rfl rfl ?_
    refine TL.op (yq (y_len (ev_t rfl) Try.underlying28 (fun w hw => ((ri_arg hplaces) w hw).ln))) rfl rfl rfl ?_
    refine TL.op (yq (y_lss (ev_t rfl) (ev_t rfl))) rfl rfl rfl ?_
    refine TL.nil ?_
    refine TN.seq ?_
    refine TC.cond (b := decide ((i1 : Int) < (places.length : Int))) (ev_t rfl) (fun h18 => ?_) (fun h18 => ?_)
    · rw [bif_pos h18] at hL1
      have q19 := (of_decide_eq_true h18)
      refine TC.skip ?_
      refine TN.seq ?_
      refine TC.seq ?_
      refine TC.block ?_
      refine TC.seq ?_
      refine TC.regionQ (by kernel_rfl) (by kernel_rfl) dr_hp ?_
      refine TQ.op (yq (y_move (ev_t rfl))) rfl rfl rfl ?_
      refine TQ.op (yq (y_move (ev_t rfl))) rfl rfl rfl ?_
      have hb20 : i1 < places.length := (by first | omega | (simp only [List.length_set, List.length_append, List.length_cons, List.length_nil, List.length_replicate]; omega))
      refine TQ.op (yq (y_idx (k := i1) (ev_t rfl) (ev_t rfl) (by omega) slT_28 (ri_arg hplaces) hb20)) rfl rfl rfl ?_
      refine TQ.op (yq (y_ldi (ev_t rfl) one_3 (ri_arg hplaces) hb20)) rfl rfl rfl ?_
      refine TQ.op (y_call (vs := [(.int .i64 (places.getD i1 0)), (.int .i64 0), (.int .i64 99)]) (v := (.bool ((decide (0 ≤ (places.getD i1 0))) && (decide ((places.getD i1 0) ≤ 99))))) en_58 ⟨(ev_t rfl), ev_c, ev_c, trivial⟩ (fun w hw => spec_l1In_ok w (places.getD i1 0) 0 99)) rfl rfl rfl ?_
      refine TQ.op (yq (y_not (ev_t rfl))) rfl rfl rfl ?_
      refine TQ.op (yq (y_move (ev_t rfl))) rfl rfl rfl ?_
      refine TQ.opw (w_f rfl rfl rfl) (fun hg => yq (y_move (ev_t rfl))) rfl rfl ?_
      refine TQ.opw (w_f rfl rfl rfl) (fun hg => yq (y_move (ev_t rfl))) rfl rfl ?_
      refine TQ.opw (w_f rfl rfl rfl) (fun hg => yq (y_slice_hi (ev_g rfl hg) (ev_g rfl hg) (hi := i1) (by omega) slT_28 (ri_arg hplaces) (show i1 ≤ places.length by have hgf := (and_imp (and_t (not_f (not_t hg))) (fun h => (of_decide_eq_true h)) (fun h => (of_decide_eq_true h))); omega))) rfl rfl ?_
      refine TQ.opw (w_f rfl rfl rfl) (fun hg => yq (y_move (ev_t rfl))) rfl rfl ?_
      refine TQ.opw (w_f rfl rfl rfl) (fun hg => yq (y_move (ev_t rfl))) rfl rfl ?_
      refine TQ.opw (w_f rfl rfl rfl) (fun hg => yq (y_idx (k := i1) (ev_g rfl hg) (ev_g rfl hg) (by omega) slT_28 (ri_arg hplaces) (show i1 < places.length by have hgf := (and_imp (and_t (not_f (not_t hg))) (fun h => (of_decide_eq_true h)) (fun h => (of_decide_eq_true h))); omega))) rfl rfl ?_
      refine TQ.opw (w_f rfl rfl rfl) (fun hg => yq (y_ldi (ev_g rfl hg) one_3 (ri_arg hplaces) (show i1 < places.length by have hgf := (and_imp (and_t (not_f (not_t hg))) (fun h => (of_decide_eq_true h)) (fun h => (of_decide_eq_true h))); omega))) rfl rfl ?_
      refine TQ.opw (w_f rfl rfl rfl) (fun hg => y_call (vs := [(resl vplaces 0 i1 1), (.int .i64 (places.getD i1 0))]) (v := (.bool (F_spec_l1Has ((places.take i1).drop 0) (places.getD i1 0)))) en_94 ⟨(ev_g rfl hg), (ev_g rfl hg), trivial⟩ (fun w hw => spec_l1Has_ok w (resl vplaces 0 i1 1) ((places.take i1).drop 0) ((fun w hw => ri_resl ((ri_arg hplaces) w hw) (show 0 ≤ i1 by have hgf := (and_imp (and_t (not_f (not_t hg))) (fun h => (of_decide_eq_true h)) (fun h => (of_decide_eq_true h))); omega) (show i1 ≤ places.length by have hgf := (and_imp (and_t (not_f (not_t hg))) (fun h => (of_decide_eq_true h)) (fun h => (of_decide_eq_true h))); omega)) w hw) (places.getD i1 0))) rfl rfl ?_
      refine TQ.op (yq (y_or (ev_t rfl) (fun hq => (ev_g rfl hq)))) rfl rfl rfl ?_
      refine TQ.nil ?_
      refine TN.seq ?_
      refine TC.cond (b := ((!((decide (0 ≤ (places.getD i1 0))) && (decide ((places.getD i1 0) ≤ 99)))) || (F_spec_l1Has ((places.take i1).drop 0) (places.getD i1 0)))) (ev_t rfl) (fun h21 => ?_) (fun h21 => ?_)
      · rw [bif_pos h21] at hL1
        have q22 := ((or_t h21).imp (fun h => ((and_f (not_t h)).imp (fun h => (of_decide_eq_false h)) (fun h => (of_decide_eq_false h)))) (fun h => h))
        refine TC.seq ?_
        refine TC.region ?_
        refine TL.op (yq (y_bld0 bd_37_0)) rfl rfl rfl ?_
        refine TL.storeAgg (cs := [(.slice none 0 0)]) (us := [(.slice none 0 0)]) 0 (ev_t rfl) (ev_t rfl) agg_37 rfl rfl (fun w hw => (ocs_cons rfl ocs_nil)) ?_
        refine TL.op (yq (y_assign ev_c)) rfl rfl rfl ?_
        refine TL.nil ?_
        refine TN.seq ?_
        refine TC.ret ?_
        refine TN.blockR ?_
        refine TN.thenR ?_
        refine TN.thenR ?_
        rw [← hL1, elim_ret] at hF
        refine TN.blockR ?_
        refine TN.thenR ?_
        subst hF
        refine TN.cls (fun w hw => hw.nilTab 28 3) ?_
        exact TN.retCT (cs := [(.slice none 0 0)]) 1 (by simp) rfl (ev_t rfl) (ev_t rfl) agg_37 rfl (fun w' hw => ⟨((.slice none 0 0), []), rfl, Hp.sublist hw (.cons_cons _ (.cons _ .slnil))⟩)
      · rw [bif_neg h21] at hL1
        have q22 := (and_imp (or_f h21) (fun h => (and_imp (and_t (not_f h)) (fun h => (of_decide_eq_true h)) (fun h => (of_decide_eq_true h)))) (fun h => (l1Has_f h)))
        refine TC.skip ?_
        refine TN.blockN ?_
        refine TN.seq ?_
        refine TC.region ?_
        refine TL.op (yq (y_move (ev_t rfl))) rfl rfl rfl ?_
        refine TL.op (yq (y_add (ev_t rfl) ev_c (by unfold In64; omega))) rfl rfl rfl ?_
        refine TL.op (yq (y_assign (ev_t rfl))) rfl rfl rfl ?_
        refine TL.nil ?_
        exact TN.hand (mf1, (i1 + 1)) ⟨(by first | omega | (simp [-List.getD_eq_getElem?_getD] <;> omega)), (upto_succ hi1_1 (by omega)), (by omega), hL1⟩ (Nat.lt_succ_self _) ⟨rfl, rfl, rfl, trivial⟩ (fun w hw => hw)
    · rw [bif_neg h18] at hL1
      have q19 := (of_decide_eq_false h18)
      refine TC.exit ?_
      refine TN.thenE ?_
      refine TN.thenE ?_
      rw [← hL1, elim_next] at hF
      try dsimp only at hF
      have hall : ∀ i, i < places.length → 0 ≤ places.getD i 0 ∧ places.getD i 0 ≤ 99 := fun i hi => hi1_1 i (by omega)
      refine TN.blockH ?_
      refine TN.seq ?_
      refine TC.seq ?_
      refine TC.region ?_
      refine TL.op (yq (y_move (ev_t rfl))) rfl rfl rfl ?_
      refine TL.callr (ι := Value × List Value) (vs := [vplaces]) (fun i => (.agg #[i.1])) (fun i => [tabI 28 3 i.1 i.2 (F_spec_l6Line places)]) en_95 ⟨(ev_t rfl), trivial⟩ rfl (fun w hw => spec_l6Line_ok w vplaces places ((ri_arg hplaces) w hw) (by first | assumption | omega | grind) (by first | assumption | omega | grind)) (fun r8_1 => ?_)
      refine TL.storeAgg (cs := [(.slice none 0 0)]) (us := [r8_1.1]) 1 (ev_t rfl) (ev_t rfl) agg_37 rfl rfl (fun w hw => (ocs_cons (ln_one ((fun w hw => ((rii_tab 0 rfl) w hw).1) w hw).ln) ocs_nil)) ?_
      refine TL.op (yq (y_assign ev_c)) rfl rfl rfl ?_
      refine TL.nil ?_
      refine TN.seq ?_
      refine TC.ret ?_
      subst hF
      exact TN.retCT (cs := [r8_1.1]) 1 (by simp) rfl (ev_t rfl) (ev_t rfl) agg_37 rfl (fun w' hw => ⟨(r8_1.1, r8_1.2), rfl, Hp.sublist hw (.cons_cons _ (.cons _ .slnil))⟩)

set_option maxRecDepth 4000 in
set_option maxHeartbeats 1000000 in
theorem laws_FnExactUniformMetric_ok (w : World) (n : Int) (d : Int)  :
    Calls Try.prog 7 ([(.int .i64 n), (.int .i64 d)] : List Value).toArray w (Ret (.bool (F_laws_FnExactUniformMetric n d)) (Hp w [])) := by
  obtain ⟨rz, hF⟩ : ∃ rz, (F_laws_FnExactUniformMetric n d) = rz := ⟨_, rfl⟩
  rw [hF]
  unfold F_laws_FnExactUniformMetric at hF
  have hut := uniform_total n d
  have hmt := markMetric_total (F_impl_UniformMetric n d).1 1
  refine calls_tc Try.func7 rfl rfl rfl ?_
  change TC _ _ _ _ (Hp w []) [(0, (.int .i64 n)), (1, (.int .i64 d))]
  refine TC.seq ?_
  refine TC.region ?_
  refine TL.op (yq (y_assign ev_c)) rfl rfl rfl ?_
  refine TL.nil ?_
  refine TN.seq ?_
  refine TC.seq ?_
  refine TC.region ?_
  refine TL.op (yq (y_move (ev_t rfl))) rfl rfl rfl ?_
  refine TL.op (yq (y_move (ev_t rfl))) rfl rfl rfl ?_
  refine TL.callr (ι := Value × List Value) (vs := [(.int .i64 n), (.int .i64 d)]) (fun i => (.tuple #[(.agg #[i.1]), (.bool ((F_spec_UniformMetric n d).2))])) (fun i => [tabI 28 3 i.1 i.2 ((F_spec_UniformMetric n d).1)]) en_31 ⟨(ev_t rfl), (ev_t rfl), trivial⟩ rfl (fun w hw => spec_UniformMetric_ok w n d) (fun r1_2 => ?_)
  refine TL.op (yq (y_move (ev_t rfl))) rfl rfl rfl ?_
  refine TL.op (yq (y_extract (ev_t rfl) rfl)) rfl rfl rfl ?_
  refine TL.op (yq (y_extract (ev_t rfl) rfl)) rfl rfl rfl ?_
  refine TL.alloc (u := (.agg #[(.slice none 0 0)])) (by kernel_rfl) rfl (fun g1_6 => ?_)
  refine TL.storeAgg (cs := [(.slice none 0 0)]) (us := [r1_2.1]) 0 (ev_t rfl) (ev_t rfl) agg_37 rfl rfl (fun w hw => (ocs_cons (ln_one ((fun w hw => ((rii_tab 1 rfl) w hw).1) w hw).ln) ocs_nil)) ?_
  refine TL.op (yq (y_assign (ev_t rfl))) rfl rfl rfl ?_
  refine TL.nil ?_
  refine TN.seq ?_
  refine TC.seq ?_
  refine TC.region ?_
  refine TL.op (yq (y_move (ev_t rfl))) rfl rfl rfl ?_
  refine TL.op (yq (y_move (ev_t rfl))) rfl rfl rfl ?_
  refine TL.callr (ι := Value × List Value) (vs := [(.int .i64 n), (.int .i64 d)]) (fun i => (.tuple #[(.agg #[i.1]), (.bool ((F_impl_UniformMetric n d).2))])) (fun i => [tabI 28 3 i.1 i.2 ((F_impl_UniformMetric n d).1)]) en_32 ⟨(ev_t rfl), (ev_t rfl), trivial⟩ rfl (fun w hw => impl_UniformMetric_ok w n d) (fun r2_2 => ?_)
  refine TL.op (yq (y_move (ev_t rfl))) rfl rfl rfl ?_
  refine TL.op (yq (y_extract (ev_t rfl) rfl)) rfl rfl rfl ?_
  refine TL.op (yq (y_extract (ev_t rfl) rfl)) rfl rfl rfl ?_
  refine TL.alloc (u := (.agg #[(.slice none 0 0)])) (by kernel_rfl) rfl (fun g2_6 => ?_)
  refine TL.storeAgg (cs := [(.slice none 0 0)]) (us := [r2_2.1]) 0 (ev_t rfl) (ev_t rfl) agg_37 rfl rfl (fun w hw => (ocs_cons (ln_one ((fun w hw => ((rii_tab 1 rfl) w hw).1) w hw).ln) ocs_nil)) ?_
  refine TL.op (yq (y_assign (ev_t rfl))) rfl rfl rfl ?_
  refine TL.nil ?_
  refine TN.seq ?_
  refine TC.seq ?_
  refine TC.seq ?_
  refine TC.region ?_
  refine TL.op (yq (y_ldagg (cs := [r2_2.1]) 0 (ev_t rfl) agg_37 rfl)) rfl rfl rfl ?_
  refine TL.op (yq (y_ldagg (cs := [r1_2.1]) 2 (ev_t rfl) agg_37 rfl)) rfl rfl rfl ?_
  refine TL.op (y_call (vs := [(.agg #[r2_2.1]), (.agg #[r1_2.1])]) (v := (.bool (F_laws_eqMetric ((F_impl_UniformMetric n d).1) ((F_spec_UniformMetric n d).1)))) en_30 ⟨(ev_t rfl), (ev_t rfl), trivial⟩ (fun w hw => laws_eqMetric_ok w r2_2.1 r2_2.2 ((F_impl_UniformMetric n d).1) ((rii_tab 1 rfl) w hw) r1_2.1 r1_2.2 ((F_spec_UniformMetric n d).1) ((rii_tab 3 rfl) w hw))) rfl rfl rfl ?_
  refine TL.op (yq (y_not (ev_t rfl))) rfl rfl rfl ?_
  refine TL.op (yq (y_move (ev_t rfl))) rfl rfl rfl ?_
  refine TL.opw (w_f rfl rfl rfl) (fun hg => yq (y_move (ev_t rfl))) rfl rfl ?_
  refine TL.opw (w_f rfl rfl rfl) (fun hg => yq (y_move (ev_t rfl))) rfl rfl ?_
  refine TL.opw (w_f rfl rfl rfl) (fun hg => yq (y_bneq (ev_g rfl hg) (ev_g rfl hg) Try.underlying4)) rfl rfl ?_
  refine TL.op (yq (y_or (ev_t rfl) (fun hq => (ev_g rfl hq)))) rfl rfl rfl ?_
  refine TL.nil ?_
  refine TN.seq ?_
  refine TC.cond (b := ((!(F_laws_eqMetric ((F_impl_UniformMetric n d).1) ((F_spec_UniformMetric n d).1))) || (((F_impl_UniformMetric n d).2) != ((F_spec_UniformMetric n d).2)))) (ev_t rfl) (fun h13 => ?_) (fun h13 => ?_)
  · rw [bif_pos h13] at hF
    have q14 := ((or_t h13).imp (fun h => (not_t h)) (fun h => h))
    refine TC.seq ?_
    refine TC.region ?_
    refine TL.op (yq (y_assign ev_c)) rfl rfl rfl ?_
    refine TL.nil ?_
    refine TN.seq ?_
    refine TC.ret ?_
    refine TN.thenR ?_
    subst hF
    exact TN.ret1 rfl (ev_t rfl) (fun w' hw => ⟨rfl, Hp.sublist hw (List.nil_sublist _)⟩)
  · rw [bif_neg h13] at hF
    have q14 := (and_imp (or_f h13) (fun h => (not_f h)) (fun h => h))
    refine TC.skip ?_
    refine TN.seq ?_
    refine TC.seq ?_
    refine TC.region ?_
    refine TL.op (yq (y_assign ev_c)) rfl rfl rfl ?_
    refine TL.nil ?_
    refine TN.seq ?_
    refine TC.seq ?_
    refine TC.region ?_
    refine TL.op (yq (y_ldagg (cs := [r2_2.1]) 0 (ev_t rfl) agg_37 rfl)) rfl rfl rfl ?_
    refine TL.op (yq (y_move (ev_t rfl))) rfl rfl rfl ?_
    refine TL.callm (ι := Unit) 1 (vs := [(.agg #[r2_2.1]), (.int .i64 1)]) (fun _ => (.int .i64 ((F_laws_markMetric ((F_impl_UniformMetric n d).1) 1).1))) (fun _ => tabI 28 3 r2_2.1 r2_2.2 ((F_laws_markMetric ((F_impl_UniformMetric n d).1) 1).2)) en_33 ⟨(ev_t rfl), (ev_t rfl), trivial⟩ rfl rfl (fun w1 fr1 hw => laws_markMetric_ok w w1 fr1 r2_2.1 r2_2.2 ((F_impl_UniformMetric n d).1) hw 1 (by first | assumption | omega | grind) (by first | assumption | omega | grind)) (fun _ => ?_)
    refine TL.op (yq (y_assign (ev_t rfl))) rfl rfl rfl ?_
    refine TL.nil ?_
    refine TN.seq ?_
    refine TC.seq ?_
    refine TC.region ?_
    refine TL.op (yq (y_assign ev_c)) rfl rfl rfl ?_
    refine TL.nil ?_
    refine TN.seq ?_
    refine TC.seq ?_
    refine TC.region ?_
    refine TL.op (yq (y_ldagg (cs := [r2_2.1]) 0 (ev_t rfl) agg_37 rfl)) rfl rfl rfl ?_
    refine TL.op (yq (y_move (ev_t rfl))) rfl rfl rfl ?_
    refine TL.op (y_call (vs := [(.agg #[r2_2.1]), (.int .i64 1)]) (v := (.int .i64 (F_laws_heldMetric ((F_laws_markMetric ((F_impl_UniformMetric n d).1) 1).2) 1))) en_34 ⟨(ev_t rfl), (ev_t rfl), trivial⟩ (fun w hw => laws_heldMetric_ok w r2_2.1 r2_2.2 ((F_laws_markMetric ((F_impl_UniformMetric n d).1) 1).2) ((rii_tab 1 rfl) w hw) 1 (by first | assumption | omega | grind) (by first | assumption | omega | grind))) rfl rfl rfl ?_
    refine TL.op (yq (y_assign (ev_t rfl))) rfl rfl rfl ?_
    refine TL.nil ?_
    refine TN.seq ?_
    refine TC.seq ?_
    refine TC.seq ?_
    refine TC.region ?_
    refine TL.op (yq (y_move (ev_t rfl))) rfl rfl rfl ?_
    refine TL.op (yq (y_lss (ev_t rfl) ev_c)) rfl rfl rfl ?_
    refine TL.nil ?_
    refine TN.seq ?_
    refine TC.cond (b := decide ((F_laws_heldMetric ((F_laws_markMetric ((F_impl_UniformMetric n d).1) 1).2) 1) < 0)) (ev_t rfl) (fun h15 => ?_) (fun h15 => ?_)
    · rw [bif_pos h15] at hF
      have q16 := (of_decide_eq_true h15)
      refine TC.seq ?_
      refine TC.region ?_
      refine TL.op (yq (y_assign ev_c)) rfl rfl rfl ?_
      refine TL.nil ?_
      refine TN.seq ?_
      refine TC.ret ?_
      refine TN.thenR ?_
      subst hF
      exact TN.ret1 rfl (ev_t rfl) (fun w' hw => ⟨rfl, Hp.sublist hw (List.nil_sublist _)⟩)
    · rw [bif_neg h15] at hF
      have q16 := (of_decide_eq_false h15)
      refine TC.skip ?_
      refine TN.seq ?_
      refine TC.seq ?_
      refine TC.seq ?_
      refine TC.region ?_
      refine TL.op (yq (y_move (ev_t rfl))) rfl rfl rfl ?_
      refine TL.op (yq (y_move (ev_t rfl))) rfl rfl rfl ?_
      refine TL.op (yq (y_neq (ev_t rfl) (ev_t rfl))) rfl rfl rfl ?_
      refine TL.nil ?_
      refine TN.seq ?_
      refine TC.cond (b := !decide ((F_laws_heldMetric ((F_laws_markMetric ((F_impl_UniformMetric n d).1) 1).2) 1) = (F_laws_markMetric ((F_impl_UniformMetric n d).1) 1).1)) (ev_t rfl) (fun h17 => ?_) (fun h17 => ?_)
      · rw [bif_pos h17] at hF
        have q18 := (of_decide_eq_false (not_t h17))
        refine TC.seq ?_
        refine TC.region ?_
        refine TL.op (yq (y_assign ev_c)) rfl rfl rfl ?_
        refine TL.nil ?_
        refine TN.seq ?_
        refine TC.ret ?_
        refine TN.thenR ?_
        subst hF
        exact TN.ret1 rfl (ev_t rfl) (fun w' hw => ⟨rfl, Hp.sublist hw (List.nil_sublist _)⟩)
      · rw [bif_neg h17] at hF
        have q18 := (of_decide_eq_true (not_f h17))
        refine TC.skip ?_
        refine TN.seq ?_
        refine TC.seq ?_
        refine TC.region ?_
        refine TL.op (yq (y_move (ev_t rfl))) rfl rfl rfl ?_
        refine TL.op (yq (y_move (ev_t rfl))) rfl rfl rfl ?_
        refine TL.callr (ι := Value × List Value) (vs := [(.int .i64 n), (.int .i64 d)]) (fun i => (.tuple #[(.agg #[i.1]), (.bool ((F_impl_UniformMetric n d).2))])) (fun i => [tabI 28 3 i.1 i.2 ((F_impl_UniformMetric n d).1)]) en_32 ⟨(ev_t rfl), (ev_t rfl), trivial⟩ rfl (fun w hw => impl_UniformMetric_ok w n d) (fun r13_2 => ?_)
        refine TL.op (yq (y_move (ev_t rfl))) rfl rfl rfl ?_
        refine TL.op (yq (y_extract (ev_t rfl) rfl)) rfl rfl rfl ?_
        refine TL.op (yq (y_extract (ev_t rfl) rfl)) rfl rfl rfl ?_
        refine TL.alloc (u := (.agg #[(.slice none 0 0)])) (by kernel_rfl) rfl (fun g13_6 => ?_)
        refine TL.storeAgg (cs := [(.slice none 0 0)]) (us := [r13_2.1]) 0 (ev_t rfl) (ev_t rfl) agg_37 rfl rfl (fun w hw => (ocs_cons (ln_one ((fun w hw => ((rii_tab 1 rfl) w hw).1) w hw).ln) ocs_nil)) ?_
        refine TL.op (yq (y_assign (ev_t rfl))) rfl rfl rfl ?_
        refine TL.nil ?_
        refine TN.seq ?_
        refine TC.seq ?_
        refine TC.seq ?_
        refine TC.region ?_
        refine TL.op (yq (y_ldagg (cs := [r13_2.1]) 0 (ev_t rfl) agg_37 rfl)) rfl rfl rfl ?_
        refine TL.op (yq (y_ldagg (cs := [r1_2.1]) 4 (ev_t rfl) agg_37 rfl)) rfl rfl rfl ?_
        refine TL.op (y_call (vs := [(.agg #[r13_2.1]), (.agg #[r1_2.1])]) (v := (.bool (F_laws_eqMetric ((F_impl_UniformMetric n d).1) ((F_spec_UniformMetric n d).1)))) en_30 ⟨(ev_t rfl), (ev_t rfl), trivial⟩ (fun w hw => laws_eqMetric_ok w r13_2.1 r13_2.2 ((F_impl_UniformMetric n d).1) ((rii_tab 1 rfl) w hw) r1_2.1 r1_2.2 ((F_spec_UniformMetric n d).1) ((rii_tab 5 rfl) w hw))) rfl rfl rfl ?_
        refine TL.op (yq (y_not (ev_t rfl))) rfl rfl rfl ?_
        refine TL.op (yq (y_move (ev_t rfl))) rfl rfl rfl ?_
        refine TL.opw (w_f rfl rfl rfl) (fun hg => yq (y_move (ev_t rfl))) rfl rfl ?_
        refine TL.opw (w_f rfl rfl rfl) (fun hg => yq (y_move (ev_t rfl))) rfl rfl ?_
        refine TL.opw (w_f rfl rfl rfl) (fun hg => yq (y_bneq (ev_g rfl hg) (ev_g rfl hg) Try.underlying4)) rfl rfl ?_
        refine TL.op (yq (y_or (ev_t rfl) (fun hq => (ev_g rfl hq)))) rfl rfl rfl ?_
        refine TL.nil ?_
        refine TN.seq ?_
        refine TC.condF (ev_t rfl) h13 ?_
        refine TC.skip ?_
        refine TN.seq ?_
        refine TC.seq ?_
        refine TC.region ?_
        refine TL.op (yq (y_assign ev_c)) rfl rfl rfl ?_
        refine TL.nil ?_
        refine TN.seq ?_
        refine TC.seq ?_
        refine TC.region ?_
        refine TL.op (yq (y_ldagg (cs := [r2_2.1]) 2 (ev_t rfl) agg_37 rfl)) rfl rfl rfl ?_
        refine TL.op (yq (y_move (ev_t rfl))) rfl rfl rfl ?_
        refine TL.op (y_call (vs := [(.agg #[r2_2.1]), (.int .i64 1)]) (v := (.int .i64 (F_laws_heldMetric ((F_laws_markMetric ((F_impl_UniformMetric n d).1) 1).2) 1))) en_34 ⟨(ev_t rfl), (ev_t rfl), trivial⟩ (fun w hw => laws_heldMetric_ok w r2_2.1 r2_2.2 ((F_laws_markMetric ((F_impl_UniformMetric n d).1) 1).2) ((rii_tab 3 rfl) w hw) 1 (by first | assumption | omega | grind) (by first | assumption | omega | grind))) rfl rfl rfl ?_
        refine TL.op (yq (y_assign (ev_t rfl))) rfl rfl rfl ?_
        refine TL.nil ?_
        refine TN.seq ?_
        refine TC.seq ?_
        refine TC.seq ?_
        refine TC.region ?_
        refine TL.op (yq (y_move (ev_t rfl))) rfl rfl rfl ?_
        refine TL.op (yq (y_lss (ev_t rfl) ev_c)) rfl rfl rfl ?_
        refine TL.nil ?_
        refine TN.seq ?_
        refine TC.condF (ev_t rfl) h15 ?_
        refine TC.skip ?_
        refine TN.seq ?_
        refine TC.seq ?_
        refine TC.seq ?_
        refine TC.region ?_
        refine TL.op (yq (y_move (ev_t rfl))) rfl rfl rfl ?_
        refine TL.op (yq (y_move (ev_t rfl))) rfl rfl rfl ?_
        refine TL.op (yq (y_neq (ev_t rfl) (ev_t rfl))) rfl rfl rfl ?_
        refine TL.nil ?_
        refine TN.seq ?_
        refine TC.condF (ev_t rfl) h17 ?_
        refine TC.skip ?_
        refine TN.seq ?_
        refine TC.seq ?_
        refine TC.region ?_
        refine TL.op (yq (y_assign ev_c)) rfl rfl rfl ?_
        refine TL.nil ?_
        refine TN.seq ?_
        refine TC.ret ?_
        subst hF
        exact TN.ret1 rfl (ev_t rfl) (fun w' hw => ⟨rfl, Hp.sublist hw (List.nil_sublist _)⟩)

set_option maxRecDepth 4000 in
set_option maxHeartbeats 1000000 in
theorem laws_FnExactStarMetric_ok (w : World) (va : Value) (a : List Int) (ha : RI w va a)  :
    Calls Try.prog 11 ([va] : List Value).toArray w (Ret (.bool (F_laws_FnExactStarMetric a)) (Hp w [])) := by
  obtain ⟨rz, hF⟩ : ∃ rz, (F_laws_FnExactStarMetric a) = rz := ⟨_, rfl⟩
  rw [hF]
  unfold F_laws_FnExactStarMetric at hF
  have hta := toIntS_eq a
  have hut := star_total (F_laws_toIntS a)
  have hmt := markMetric_total (F_impl_StarMetric (F_laws_toIntS a)).1 1
  have hlen_a := arg_len ha
  refine calls_tc Try.func11 rfl rfl rfl ?_
  change TC _ _ _ _ (Hp w []) [(0, va)]
  refine TC.seq ?_
  refine TC.region ?_
  refine TL.op (yq (y_assign ev_c)) rfl rfl rfl ?_
  refine TL.nil ?_
  refine TN.seq ?_
  refine TC.seq ?_
  refine TC.seq ?_
  refine TC.region ?_
  refine TL.op (yq (y_move (ev_t rfl))) rfl rfl rfl ?_
  refine TL.op (yq (y_len (ev_t rfl) Try.underlying28 (fun w hw => ((ri_arg ha) w hw).ln))) rfl rfl rfl ?_
  refine TL.op (yq (y_gtr (ev_t rfl) ev_c)) rfl rfl rfl ?_
  refine TL.nil ?_
  refine TN.seq ?_
  refine TC.cond (b := decide (1048576 < (a.length : Int))) (ev_t rfl) (fun h19 => ?_) (fun h19 => ?_)
  · rw [bif_pos h19] at hF
    have q20 := (of_decide_eq_true h19)
    refine TC.seq ?_
    refine TC.region ?_
    refine TL.op (yq (y_assign ev_c)) rfl rfl rfl ?_
    refine TL.nil ?_
    refine TN.seq ?_
    refine TC.ret ?_
    refine TN.thenR ?_
    subst hF
    exact TN.ret1 rfl (ev_t rfl) (fun w' hw => ⟨rfl, hw⟩)
  · rw [bif_neg h19] at hF
    have q20 := (of_decide_eq_false h19)
    refine TC.skip ?_
    refine TN.seq ?_
    refine TC.seq ?_
    refine TC.region ?_
    refine TL.op (yq (y_move (ev_t rfl))) rfl rfl rfl ?_
    refine TL.callr (ι := Value) (vs := [va]) (fun i => i) (fun i => [rowI 3 i (F_laws_toIntS a)]) en_21 ⟨(ev_t rfl), trivial⟩ rfl (fun w hw => laws_toIntS_ok w va a ((ri_arg ha) w hw) (by first | assumption | omega | grind)) (fun r3_1 => ?_)
    refine TL.callr (ι := Value × List Value) (vs := [r3_1]) (fun i => (.tuple #[(.agg #[i.1]), (.bool ((F_spec_StarMetric (F_laws_toIntS a)).2))])) (fun i => [tabI 28 3 i.1 i.2 ((F_spec_StarMetric (F_laws_toIntS a)).1)]) en_50 ⟨(ev_t rfl), trivial⟩ rfl (fun w hw => spec_StarMetric_ok w r3_1 (F_laws_toIntS a) ((ri_row 0 rfl) w hw)) (fun r3_2 => ?_)
    refine TL.op (yq (y_move (ev_t rfl))) rfl rfl rfl ?_
    refine TL.op (yq (y_extract (ev_t rfl) rfl)) rfl rfl rfl ?_
    refine TL.op (yq (y_extract (ev_t rfl) rfl)) rfl rfl rfl ?_
    refine TL.alloc (u := (.agg #[(.slice none 0 0)])) (by kernel_rfl) rfl (fun g3_6 => ?_)
    refine TL.storeAgg (cs := [(.slice none 0 0)]) (us := [r3_2.1]) 0 (ev_t rfl) (ev_t rfl) agg_37 rfl rfl (fun w hw => (ocs_cons (ln_one ((fun w hw => ((rii_tab 1 rfl) w hw).1) w hw).ln) ocs_nil)) ?_
    refine TL.op (yq (y_assign (ev_t rfl))) rfl rfl rfl ?_
    refine TL.nil ?_
    refine TN.seq ?_
    refine TC.seq ?_
    refine TC.region ?_
    refine TL.op (yq (y_move (ev_t rfl))) rfl rfl rfl ?_
    refine TL.callr (ι := Value) (vs := [va]) (fun i => i) (fun i => [rowI 3 i (F_laws_toIntS a)]) en_21 ⟨(ev_t rfl), trivial⟩ rfl (fun w hw => laws_toIntS_ok w va a ((ri_arg ha) w hw) (by first | assumption | omega | grind)) (fun r4_1 => ?_)
    refine TL.op (yq (y_assign (ev_t rfl))) rfl rfl rfl ?_
    refine TL.nil ?_
    refine TN.seq ?_
    refine TC.seq ?_
    refine TC.region ?_
    refine TL.op (yq (y_move (ev_t rfl))) rfl rfl rfl ?_
    refine TL.callr (ι := Value × List Value) (vs := [r4_1]) (fun i => (.tuple #[(.agg #[i.1]), (.bool ((F_impl_StarMetric (F_laws_toIntS a)).2))])) (fun i => [tabI 28 3 i.1 i.2 ((F_impl_StarMetric (F_laws_toIntS a)).1)]) en_51 ⟨(ev_t rfl), trivial⟩ rfl (fun w hw => impl_StarMetric_ok w r4_1 (F_laws_toIntS a) ((ri_row 0 rfl) w hw)) (fun r5_1 => ?_)
    refine TL.op (yq (y_move (ev_t rfl))) rfl rfl rfl ?_
    refine TL.op (yq (y_extract (ev_t rfl) rfl)) rfl rfl rfl ?_
    refine TL.op (yq (y_extract (ev_t rfl) rfl)) rfl rfl rfl ?_
    refine TL.alloc (u := (.agg #[(.slice none 0 0)])) (by kernel_rfl) rfl (fun g5_5 => ?_)
    refine TL.storeAgg (cs := [(.slice none 0 0)]) (us := [r5_1.1]) 0 (ev_t rfl) (ev_t rfl) agg_37 rfl rfl (fun w hw => (ocs_cons (ln_one ((fun w hw => ((rii_tab 1 rfl) w hw).1) w hw).ln) ocs_nil)) ?_
    refine TL.op (yq (y_assign (ev_t rfl))) rfl rfl rfl ?_
    refine TL.nil ?_
    refine TN.seq ?_
    refine TC.seq ?_
    refine TC.seq ?_
    refine TC.region ?_
    refine TL.op (yq (y_ldagg (cs := [r5_1.1]) 0 (ev_t rfl) agg_37 rfl)) rfl rfl rfl ?_
    refine TL.op (yq (y_ldagg (cs := [r3_2.1]) 3 (ev_t rfl) agg_37 rfl)) rfl rfl rfl ?_
    refine TL.op (y_call (vs := [(.agg #[r5_1.1]), (.agg #[r3_2.1])]) (v := (.bool (F_laws_eqMetric ((F_impl_StarMetric (F_laws_toIntS a)).1) ((F_spec_StarMetric (F_laws_toIntS a)).1)))) en_30 ⟨(ev_t rfl), (ev_t rfl), trivial⟩ (fun w hw => laws_eqMetric_ok w r5_1.1 r5_1.2 ((F_impl_StarMetric (F_laws_toIntS a)).1) ((rii_tab 1 rfl) w hw) r3_2.1 r3_2.2 ((F_spec_StarMetric (F_laws_toIntS a)).1) ((rii_tab 4 rfl) w hw))) rfl rfl rfl ?_
    refine TL.op (yq (y_not (ev_t rfl))) rfl rfl rfl ?_
    refine TL.op (yq (y_move (ev_t rfl))) rfl rfl rfl ?_
    refine TL.opw (w_f rfl rfl rfl) (fun hg => yq (y_move (ev_t rfl))) rfl rfl ?_
    refine TL.opw (w_f rfl rfl rfl) (fun hg => yq (y_move (ev_t rfl))) rfl rfl ?_
    refine TL.opw (w_f rfl rfl rfl) (fun hg => yq (y_bneq (ev_g rfl hg) (ev_g rfl hg) Try.underlying4)) rfl rfl ?_
    refine TL.op (yq (y_or (ev_t rfl) (fun hq => (ev_g rfl hq)))) rfl rfl rfl ?_
    refine TL.nil ?_
    refine TN.seq ?_
    refine TC.cond (b := ((!(F_laws_eqMetric ((F_impl_StarMetric (F_laws_toIntS a)).1) ((F_spec_StarMetric (F_laws_toIntS a)).1))) || (((F_impl_StarMetric (F_laws_toIntS a)).2) != ((F_spec_StarMetric (F_laws_toIntS a)).2)))) (ev_t rfl) (fun h21 => ?_) (fun h21 => ?_)
    · rw [bif_pos h21] at hF
      have q22 := ((or_t h21).imp (fun h => (not_t h)) (fun h => h))
      refine TC.seq ?_
      refine TC.region ?_
      refine TL.op (yq (y_assign ev_c)) rfl rfl rfl ?_
      refine TL.nil ?_
      refine TN.seq ?_
      refine TC.ret ?_
      refine TN.thenR ?_
      subst hF
      exact TN.ret1 rfl (ev_t rfl) (fun w' hw => ⟨rfl, Hp.sublist hw (List.nil_sublist _)⟩)
    · rw [bif_neg h21] at hF
      have q22 := (and_imp (or_f h21) (fun h => (not_f h)) (fun h => h))
      refine TC.skip ?_
      refine TN.seq ?_
      refine TC.seq ?_
      refine TC.seq ?_
      refine TC.region ?_
      refine TL.op (yq (y_move (ev_t rfl))) rfl rfl rfl ?_
      refine TL.op (yq (y_move (ev_t rfl))) rfl rfl rfl ?_
      refine TL.callr (ι := Value) (vs := [va]) (fun i => i) (fun i => [rowI 3 i (F_laws_toIntS a)]) en_21 ⟨(ev_t rfl), trivial⟩ rfl (fun w hw => laws_toIntS_ok w va a ((ri_arg ha) w hw) (by first | assumption | omega | grind)) (fun r8_2 => ?_)
      refine TL.op (y_call (vs := [r4_1, r8_2]) (v := (.bool (F_laws_eqIntS (F_laws_toIntS a) (F_laws_toIntS a)))) en_23 ⟨(ev_t rfl), (ev_t rfl), trivial⟩ (fun w hw => laws_eqIntS_ok w r4_1 (F_laws_toIntS a) ((ri_row 3 rfl) w hw) r8_2 (F_laws_toIntS a) ((ri_row 0 rfl) w hw))) rfl rfl rfl ?_
      refine TL.op (yq (y_not (ev_t rfl))) rfl rfl rfl ?_
      refine TL.nil ?_
      refine TN.seq ?_
      refine TC.cond (b := !(F_laws_eqIntS (F_laws_toIntS a) (F_laws_toIntS a))) (ev_t rfl) (fun h23 => ?_) (fun h23 => ?_)
      · rw [bif_pos h23] at hF
        have q24 := (not_t h23)
        refine TC.seq ?_
        refine TC.region ?_
        refine TL.op (yq (y_assign ev_c)) rfl rfl rfl ?_
        refine TL.nil ?_
        refine TN.seq ?_
        refine TC.ret ?_
        refine TN.thenR ?_
        subst hF
        exact TN.ret1 rfl (ev_t rfl) (fun w' hw => ⟨rfl, Hp.sublist hw (List.nil_sublist _)⟩)
      · rw [bif_neg h23] at hF
        have q24 := (not_f h23)
        refine TC.skip ?_
        refine TN.seq ?_
        refine TC.seq ?_
        refine TC.region ?_
        refine TL.op (yq (y_assign ev_c)) rfl rfl rfl ?_
        refine TL.nil ?_
        refine TN.seq ?_
        refine TC.seq ?_
        refine TC.region ?_
        refine TL.op (yq (y_move (ev_t rfl))) rfl rfl rfl ?_
        refine TL.op (yq (y_move (ev_t rfl))) rfl rfl rfl ?_
        refine TL.callm (ι := Unit) 3 (vs := [r4_1, (.int .i64 1)]) (fun _ => (.int .i64 ((F_laws_markIntS (F_laws_toIntS a) 1).1))) (fun _ => rowI 3 r4_1 ((F_laws_markIntS (F_laws_toIntS a) 1).2)) en_46 ⟨(ev_t rfl), (ev_t rfl), trivial⟩ rfl rfl (fun w1 fr1 hw => laws_markIntS_ok w w1 fr1 r4_1 (F_laws_toIntS a) hw 1 (by first | assumption | omega | grind) (by first | assumption | omega | grind)) (fun _ => ?_)
        refine TL.op (yq (y_assign (ev_t rfl))) rfl rfl rfl ?_
        refine TL.nil ?_
        refine TN.seq ?_
        refine TC.seq ?_
        refine TC.seq ?_
        refine TC.region ?_
        refine TL.op (yq (y_move (ev_t rfl))) rfl rfl rfl ?_
        refine TL.op (yq (y_lss (ev_t rfl) ev_c)) rfl rfl rfl ?_
        refine TL.op (yq (y_move (ev_t rfl))) rfl rfl rfl ?_
        refine TL.opw (w_f rfl rfl rfl) (fun hg => yq (y_ldagg (cs := [r5_1.1]) 1 (ev_t rfl) agg_37 rfl)) rfl rfl ?_
        refine TL.opw (w_f rfl rfl rfl) (fun hg => yq (y_ldagg (cs := [r3_2.1]) 4 (ev_t rfl) agg_37 rfl)) rfl rfl ?_
        refine TL.opw (w_f rfl rfl rfl) (fun hg => y_call (vs := [(.agg #[r5_1.1]), (.agg #[r3_2.1])]) (v := (.bool (F_laws_eqMetric ((F_impl_StarMetric (F_laws_toIntS a)).1) ((F_spec_StarMetric (F_laws_toIntS a)).1)))) en_30 ⟨(ev_g rfl hg), (ev_g rfl hg), trivial⟩ (fun w hw => laws_eqMetric_ok w r5_1.1 r5_1.2 ((F_impl_StarMetric (F_laws_toIntS a)).1) ((rii_tab 2 rfl) w hw) r3_2.1 r3_2.2 ((F_spec_StarMetric (F_laws_toIntS a)).1) ((rii_tab 5 rfl) w hw))) rfl rfl ?_
        refine TL.opw (w_f rfl rfl rfl) (fun hg => yq (y_not (ev_g rfl hg))) rfl rfl ?_
        refine TL.op (yq (y_or (ev_t rfl) (fun hq => (ev_g rfl hq)))) rfl rfl rfl ?_
        refine TL.op (yq (y_move (ev_t rfl))) rfl rfl rfl ?_
        refine TL.opw (w_f rfl rfl rfl) (fun hg => yq (y_move (ev_t rfl))) rfl rfl ?_
        refine TL.opw (w_f rfl rfl rfl) (fun hg => yq (y_move (ev_t rfl))) rfl rfl ?_
        refine TL.opw (w_f rfl rfl rfl) (fun hg => yq (y_bneq (ev_g rfl hg) (ev_g rfl hg) Try.underlying4)) rfl rfl ?_
        refine TL.op (yq (y_or (ev_t rfl) (fun hq => (ev_g rfl hq)))) rfl rfl rfl ?_
        refine TL.nil ?_
        refine TN.seq ?_
        refine TC.cond (b := (((decide ((F_laws_markIntS (F_laws_toIntS a) 1).1 < 0)) || (!(F_laws_eqMetric ((F_impl_StarMetric (F_laws_toIntS a)).1) ((F_spec_StarMetric (F_laws_toIntS a)).1)))) || (((F_impl_StarMetric (F_laws_toIntS a)).2) != ((F_spec_StarMetric (F_laws_toIntS a)).2)))) (ev_t rfl) (fun h25 => ?_) (fun h25 => ?_)
        · rw [bif_pos h25] at hF
          have q26 := ((or_t h25).imp (fun h => ((or_t h).imp (fun h => (of_decide_eq_true h)) (fun h => (not_t h)))) (fun h => h))
          refine TC.seq ?_
          refine TC.region ?_
          refine TL.op (yq (y_assign ev_c)) rfl rfl rfl ?_
          refine TL.nil ?_
          refine TN.seq ?_
          refine TC.ret ?_
          refine TN.thenR ?_
          subst hF
          exact TN.ret1 rfl (ev_t rfl) (fun w' hw => ⟨rfl, Hp.sublist hw (List.nil_sublist _)⟩)
        · rw [bif_neg h25] at hF
          have q26 := (and_imp (or_f h25) (fun h => (and_imp (or_f h) (fun h => (of_decide_eq_false h)) (fun h => (not_f h)))) (fun h => h))
          refine TC.skip ?_
          refine TN.seq ?_
          refine TC.seq ?_
          refine TC.region ?_
          refine TL.op (yq (y_assign ev_c)) rfl rfl rfl ?_
          refine TL.nil ?_
          refine TN.seq ?_
          refine TC.seq ?_
          refine TC.region ?_
          refine TL.op (yq (y_ldagg (cs := [r5_1.1]) 1 (ev_t rfl) agg_37 rfl)) rfl rfl rfl ?_
          refine TL.op (yq (y_move (ev_t rfl))) rfl rfl rfl ?_
          refine TL.callm (ι := Unit) 2 (vs := [(.agg #[r5_1.1]), (.int .i64 1)]) (fun _ => (.int .i64 ((F_laws_markMetric ((F_impl_StarMetric (F_laws_toIntS a)).1) 1).1))) (fun _ => tabI 28 3 r5_1.1 r5_1.2 ((F_laws_markMetric ((F_impl_StarMetric (F_laws_toIntS a)).1) 1).2)) en_33 ⟨(ev_t rfl), (ev_t rfl), trivial⟩ rfl rfl (fun w1 fr1 hw => laws_markMetric_ok w w1 fr1 r5_1.1 r5_1.2 ((F_impl_StarMetric (F_laws_toIntS a)).1) hw 1 (by first | assumption | omega | grind) (by first | assumption | omega | grind)) (fun _ => ?_)
          refine TL.op (yq (y_assign (ev_t rfl))) rfl rfl rfl ?_
          refine TL.nil ?_
          refine TN.seq ?_
          refine TC.seq ?_
          refine TC.region ?_
          refine TL.op (yq (y_assign ev_c)) rfl rfl rfl ?_
          refine TL.nil ?_
          refine TN.seq ?_
          refine TC.seq ?_
          refine TC.region ?_
          refine TL.op (yq (y_ldagg (cs := [r5_1.1]) 1 (ev_t rfl) agg_37 rfl)) rfl rfl rfl ?_
          refine TL.op (yq (y_move (ev_t rfl))) rfl rfl rfl ?_
          refine TL.op (y_call (vs := [(.agg #[r5_1.1]), (.int .i64 1)]) (v := (.int .i64 (F_laws_heldMetric ((F_laws_markMetric ((F_impl_StarMetric (F_laws_toIntS a)).1) 1).2) 1))) en_34 ⟨(ev_t rfl), (ev_t rfl), trivial⟩ (fun w hw => laws_heldMetric_ok w r5_1.1 r5_1.2 ((F_laws_markMetric ((F_impl_StarMetric (F_laws_toIntS a)).1) 1).2) ((rii_tab 2 rfl) w hw) 1 (by first | assumption | omega | grind) (by first | assumption | omega | grind))) rfl rfl rfl ?_
          refine TL.op (yq (y_assign (ev_t rfl))) rfl rfl rfl ?_
          refine TL.nil ?_
          refine TN.seq ?_
          refine TC.seq ?_
          refine TC.seq ?_
          refine TC.region ?_
          refine TL.op (yq (y_move (ev_t rfl))) rfl rfl rfl ?_
          refine TL.op (yq (y_lss (ev_t rfl) ev_c)) rfl rfl rfl ?_
          refine TL.nil ?_
          refine TN.seq ?_
          refine TC.cond (b := decide ((F_laws_heldMetric ((F_laws_markMetric ((F_impl_StarMetric (F_laws_toIntS a)).1) 1).2) 1) < 0)) (ev_t rfl) (fun h27 => ?_) (fun h27 => ?_)
          · rw [bif_pos h27] at hF
            have q28 := (of_decide_eq_true h27)
            refine TC.seq ?_
            refine TC.region ?_
            refine TL.op (yq (y_assign ev_c)) rfl rfl rfl ?_
            refine TL.nil ?_
            refine TN.seq ?_
            refine TC.ret ?_
            refine TN.thenR ?_
            subst hF
            exact TN.ret1 rfl (ev_t rfl) (fun w' hw => ⟨rfl, Hp.sublist hw (List.nil_sublist _)⟩)
          · rw [bif_neg h27] at hF
            have q28 := (of_decide_eq_false h27)
            refine TC.skip ?_
            refine TN.seq ?_
            refine TC.seq ?_
            refine TC.seq ?_
            refine TC.region ?_
            refine TL.op (yq (y_move (ev_t rfl))) rfl rfl rfl ?_
            refine TL.op (yq (y_move (ev_t rfl))) rfl rfl rfl ?_
            refine TL.op (yq (y_neq (ev_t rfl) (ev_t rfl))) rfl rfl rfl ?_
            refine TL.nil ?_
            refine TN.seq ?_
            refine TC.cond (b := !decide ((F_laws_heldMetric ((F_laws_markMetric ((F_impl_StarMetric (F_laws_toIntS a)).1) 1).2) 1) = (F_laws_markMetric ((F_impl_StarMetric (F_laws_toIntS a)).1) 1).1)) (ev_t rfl) (fun h29 => ?_) (fun h29 => ?_)
            · rw [bif_pos h29] at hF
              have q30 := (of_decide_eq_false (not_t h29))
              refine TC.seq ?_
              refine TC.region ?_
              refine TL.op (yq (y_assign ev_c)) rfl rfl rfl ?_
              refine TL.nil ?_
              refine TN.seq ?_
              refine TC.ret ?_
              refine TN.thenR ?_
              subst hF
              exact TN.ret1 rfl (ev_t rfl) (fun w' hw => ⟨rfl, Hp.sublist hw (List.nil_sublist _)⟩)
            · rw [bif_neg h29] at hF
              have q30 := (of_decide_eq_true (not_f h29))
              refine TC.skip ?_
              refine TN.seq ?_
              refine TC.seq ?_
              refine TC.region ?_
              refine TL.op (yq (y_move (ev_t rfl))) rfl rfl rfl ?_
              refine TL.callr (ι := Value) (vs := [va]) (fun i => i) (fun i => [rowI 3 i (F_laws_toIntS a)]) en_21 ⟨(ev_t rfl), trivial⟩ rfl (fun w hw => laws_toIntS_ok w va a ((ri_arg ha) w hw) (by first | assumption | omega | grind)) (fun r22_1 => ?_)
              refine TL.callr (ι := Value × List Value) (vs := [r22_1]) (fun i => (.tuple #[(.agg #[i.1]), (.bool ((F_impl_StarMetric (F_laws_toIntS a)).2))])) (fun i => [tabI 28 3 i.1 i.2 ((F_impl_StarMetric (F_laws_toIntS a)).1)]) en_51 ⟨(ev_t rfl), trivial⟩ rfl (fun w hw => impl_StarMetric_ok w r22_1 (F_laws_toIntS a) ((ri_row 0 rfl) w hw)) (fun r22_2 => ?_)
              refine TL.op (yq (y_move (ev_t rfl))) rfl rfl rfl ?_
              refine TL.op (yq (y_extract (ev_t rfl) rfl)) rfl rfl rfl ?_
              refine TL.op (yq (y_extract (ev_t rfl) rfl)) rfl rfl rfl ?_
              refine TL.alloc (u := (.agg #[(.slice none 0 0)])) (by kernel_rfl) rfl (fun g22_6 => ?_)
              refine TL.storeAgg (cs := [(.slice none 0 0)]) (us := [r22_2.1]) 0 (ev_t rfl) (ev_t rfl) agg_37 rfl rfl (fun w hw => (ocs_cons (ln_one ((fun w hw => ((rii_tab 1 rfl) w hw).1) w hw).ln) ocs_nil)) ?_
              refine TL.op (yq (y_assign (ev_t rfl))) rfl rfl rfl ?_
              refine TL.nil ?_
              refine TN.seq ?_
              refine TC.seq ?_
              refine TC.seq ?_
              refine TC.region ?_
              refine TL.op (yq (y_ldagg (cs := [r22_2.1]) 0 (ev_t rfl) agg_37 rfl)) rfl rfl rfl ?_
              refine TL.op (yq (y_ldagg (cs := [r3_2.1]) 7 (ev_t rfl) agg_37 rfl)) rfl rfl rfl ?_
              refine TL.op (y_call (vs := [(.agg #[r22_2.1]), (.agg #[r3_2.1])]) (v := (.bool (F_laws_eqMetric ((F_impl_StarMetric (F_laws_toIntS a)).1) ((F_spec_StarMetric (F_laws_toIntS a)).1)))) en_30 ⟨(ev_t rfl), (ev_t rfl), trivial⟩ (fun w hw => laws_eqMetric_ok w r22_2.1 r22_2.2 ((F_impl_StarMetric (F_laws_toIntS a)).1) ((rii_tab 1 rfl) w hw) r3_2.1 r3_2.2 ((F_spec_StarMetric (F_laws_toIntS a)).1) ((rii_tab 8 rfl) w hw))) rfl rfl rfl ?_
              refine TL.op (yq (y_not (ev_t rfl))) rfl rfl rfl ?_
              refine TL.op (yq (y_move (ev_t rfl))) rfl rfl rfl ?_
              refine TL.opw (w_f rfl rfl rfl) (fun hg => yq (y_move (ev_t rfl))) rfl rfl ?_
              refine TL.opw (w_f rfl rfl rfl) (fun hg => yq (y_move (ev_t rfl))) rfl rfl ?_
              refine TL.opw (w_f rfl rfl rfl) (fun hg => yq (y_bneq (ev_g rfl hg) (ev_g rfl hg) Try.underlying4)) rfl rfl ?_
              refine TL.op (yq (y_or (ev_t rfl) (fun hq => (ev_g rfl hq)))) rfl rfl rfl ?_
              refine TL.nil ?_
              refine TN.seq ?_
              refine TC.condF (ev_t rfl) h21 ?_
              refine TC.skip ?_
              refine TN.seq ?_
              refine TC.seq ?_
              refine TC.region ?_
              refine TL.op (yq (y_assign ev_c)) rfl rfl rfl ?_
              refine TL.nil ?_
              refine TN.seq ?_
              refine TC.seq ?_
              refine TC.region ?_
              refine TL.op (yq (y_ldagg (cs := [r5_1.1]) 4 (ev_t rfl) agg_37 rfl)) rfl rfl rfl ?_
              refine TL.op (yq (y_move (ev_t rfl))) rfl rfl rfl ?_
              refine TL.op (y_call (vs := [(.agg #[r5_1.1]), (.int .i64 1)]) (v := (.int .i64 (F_laws_heldMetric ((F_laws_markMetric ((F_impl_StarMetric (F_laws_toIntS a)).1) 1).2) 1))) en_34 ⟨(ev_t rfl), (ev_t rfl), trivial⟩ (fun w hw => laws_heldMetric_ok w r5_1.1 r5_1.2 ((F_laws_markMetric ((F_impl_StarMetric (F_laws_toIntS a)).1) 1).2) ((rii_tab 5 rfl) w hw) 1 (by first | assumption | omega | grind) (by first | assumption | omega | grind))) rfl rfl rfl ?_
              refine TL.op (yq (y_assign (ev_t rfl))) rfl rfl rfl ?_
              refine TL.nil ?_
              refine TN.seq ?_
              refine TC.seq ?_
              refine TC.seq ?_
              refine TC.region ?_
              refine TL.op (yq (y_move (ev_t rfl))) rfl rfl rfl ?_
              refine TL.op (yq (y_lss (ev_t rfl) ev_c)) rfl rfl rfl ?_
              refine TL.nil ?_
              refine TN.seq ?_
              refine TC.condF (ev_t rfl) h27 ?_
              refine TC.skip ?_
              refine TN.seq ?_
              refine TC.seq ?_
              refine TC.seq ?_
              refine TC.region ?_
              refine TL.op (yq (y_move (ev_t rfl))) rfl rfl rfl ?_
              refine TL.op (yq (y_move (ev_t rfl))) rfl rfl rfl ?_
              refine TL.op (yq (y_neq (ev_t rfl) (ev_t rfl))) rfl rfl rfl ?_
              refine TL.nil ?_
              refine TN.seq ?_
              refine TC.condF (ev_t rfl) h29 ?_
              refine TC.skip ?_
              refine TN.seq ?_
              refine TC.seq ?_
              refine TC.region ?_
              refine TL.op (yq (y_assign ev_c)) rfl rfl rfl ?_
              refine TL.nil ?_
              refine TN.seq ?_
              refine TC.ret ?_
              subst hF
              exact TN.ret1 rfl (ev_t rfl) (fun w' hw => ⟨rfl, Hp.sublist hw (List.nil_sublist _)⟩)

set_option maxRecDepth 4000 in
set_option maxHeartbeats 1000000 in
theorem laws_FnExactLineMetric_ok (w : World) (va : Value) (a : List Int) (ha : RI w va a)  :
    Calls Try.prog 13 ([va] : List Value).toArray w (Ret (.bool (F_laws_FnExactLineMetric a)) (Hp w [])) := by
  obtain ⟨rz, hF⟩ : ∃ rz, (F_laws_FnExactLineMetric a) = rz := ⟨_, rfl⟩
  rw [hF]
  unfold F_laws_FnExactLineMetric at hF
  have hta := toIntS_eq a
  have hut := line_total (F_laws_toIntS a)
  have hmt := markMetric_total (F_impl_LineMetric (F_laws_toIntS a)).1 1
  have hlen_a := arg_len ha
  refine calls_tc Try.func13 rfl rfl rfl ?_
  change TC _ _ _ _ (Hp w []) [(0, va)]
  refine TC.seq ?_
  refine TC.region ?_
  refine TL.op (yq (y_assign ev_c)) rfl rfl rfl ?_
  refine TL.nil ?_
  refine TN.seq ?_
  refine TC.seq ?_
  refine TC.seq ?_
  refine TC.region ?_
  refine TL.op (yq (y_move (ev_t rfl))) rfl rfl rfl ?_
  refine TL.op (yq (y_len (ev_t rfl) Try.underlying28 (fun w hw => ((ri_arg ha) w hw).ln))) rfl rfl rfl ?_
  refine TL.op (yq (y_gtr (ev_t rfl) ev_c)) rfl rfl rfl ?_
  refine TL.nil ?_
  refine TN.seq ?_
  refine TC.cond (b := decide (1048576 < (a.length : Int))) (ev_t rfl) (fun h19 => ?_) (fun h19 => ?_)
  · rw [bif_pos h19] at hF
    have q20 := (of_decide_eq_true h19)
    refine TC.seq ?_
    refine TC.region ?_
    refine TL.op (yq (y_assign ev_c)) rfl rfl rfl ?_
    refine TL.nil ?_
    refine TN.seq ?_
    refine TC.ret ?_
    refine TN.thenR ?_
    subst hF
    exact TN.ret1 rfl (ev_t rfl) (fun w' hw => ⟨rfl, hw⟩)
  · rw [bif_neg h19] at hF
    have q20 := (of_decide_eq_false h19)
    refine TC.skip ?_
    refine TN.seq ?_
    refine TC.seq ?_
    refine TC.region ?_
    refine TL.op (yq (y_move (ev_t rfl))) rfl rfl rfl ?_
    refine TL.callr (ι := Value) (vs := [va]) (fun i => i) (fun i => [rowI 3 i (F_laws_toIntS a)]) en_21 ⟨(ev_t rfl), trivial⟩ rfl (fun w hw => laws_toIntS_ok w va a ((ri_arg ha) w hw) (by first | assumption | omega | grind)) (fun r3_1 => ?_)
    refine TL.callr (ι := Value × List Value) (vs := [r3_1]) (fun i => (.tuple #[(.agg #[i.1]), (.bool ((F_spec_LineMetric (F_laws_toIntS a)).2))])) (fun i => [tabI 28 3 i.1 i.2 ((F_spec_LineMetric (F_laws_toIntS a)).1)]) en_54 ⟨(ev_t rfl), trivial⟩ rfl (fun w hw => spec_LineMetric_ok w r3_1 (F_laws_toIntS a) ((ri_row 0 rfl) w hw)) (fun r3_2 => ?_)
    refine TL.op (yq (y_move (ev_t rfl))) rfl rfl rfl ?_
    refine TL.op (yq (y_extract (ev_t rfl) rfl)) rfl rfl rfl ?_
    refine TL.op (yq (y_extract (ev_t rfl) rfl)) rfl rfl rfl ?_
    refine TL.alloc (u := (.agg #[(.slice none 0 0)])) (by kernel_rfl) rfl (fun g3_6 => ?_)
    refine TL.storeAgg (cs := [(.slice none 0 0)]) (us := [r3_2.1]) 0 (ev_t rfl) (ev_t rfl) agg_37 rfl rfl (fun w hw => (ocs_cons (ln_one ((fun w hw => ((rii_tab 1 rfl) w hw).1) w hw).ln) ocs_nil)) ?_
    refine TL.op (yq (y_assign (ev_t rfl))) rfl rfl rfl ?_
    refine TL.nil ?_
    refine TN.seq ?_
    refine TC.seq ?_
    refine TC.region ?_
    refine TL.op (yq (y_move (ev_t rfl))) rfl rfl rfl ?_
    refine TL.callr (ι := Value) (vs := [va]) (fun i => i) (fun i => [rowI 3 i (F_laws_toIntS a)]) en_21 ⟨(ev_t rfl), trivial⟩ rfl (fun w hw => laws_toIntS_ok w va a ((ri_arg ha) w hw) (by first | assumption | omega | grind)) (fun r4_1 => ?_)
    refine TL.op (yq (y_assign (ev_t rfl))) rfl rfl rfl ?_
    refine TL.nil ?_
    refine TN.seq ?_
    refine TC.seq ?_
    refine TC.region ?_
    refine TL.op (yq (y_move (ev_t rfl))) rfl rfl rfl ?_
    refine TL.callr (ι := Value × List Value) (vs := [r4_1]) (fun i => (.tuple #[(.agg #[i.1]), (.bool ((F_impl_LineMetric (F_laws_toIntS a)).2))])) (fun i => [tabI 28 3 i.1 i.2 ((F_impl_LineMetric (F_laws_toIntS a)).1)]) en_55 ⟨(ev_t rfl), trivial⟩ rfl (fun w hw => impl_LineMetric_ok w r4_1 (F_laws_toIntS a) ((ri_row 0 rfl) w hw)) (fun r5_1 => ?_)
    refine TL.op (yq (y_move (ev_t rfl))) rfl rfl rfl ?_
    refine TL.op (yq (y_extract (ev_t rfl) rfl)) rfl rfl rfl ?_
    refine TL.op (yq (y_extract (ev_t rfl) rfl)) rfl rfl rfl ?_
    refine TL.alloc (u := (.agg #[(.slice none 0 0)])) (by kernel_rfl) rfl (fun g5_5 => ?_)
    refine TL.storeAgg (cs := [(.slice none 0 0)]) (us := [r5_1.1]) 0 (ev_t rfl) (ev_t rfl) agg_37 rfl rfl (fun w hw => (ocs_cons (ln_one ((fun w hw => ((rii_tab 1 rfl) w hw).1) w hw).ln) ocs_nil)) ?_
    refine TL.op (yq (y_assign (ev_t rfl))) rfl rfl rfl ?_
    refine TL.nil ?_
    refine TN.seq ?_
    refine TC.seq ?_
    refine TC.seq ?_
    refine TC.region ?_
    refine TL.op (yq (y_ldagg (cs := [r5_1.1]) 0 (ev_t rfl) agg_37 rfl)) rfl rfl rfl ?_
    refine TL.op (yq (y_ldagg (cs := [r3_2.1]) 3 (ev_t rfl) agg_37 rfl)) rfl rfl rfl ?_
    refine TL.op (y_call (vs := [(.agg #[r5_1.1]), (.agg #[r3_2.1])]) (v := (.bool (F_laws_eqMetric ((F_impl_LineMetric (F_laws_toIntS a)).1) ((F_spec_LineMetric (F_laws_toIntS a)).1)))) en_30 ⟨(ev_t rfl), (ev_t rfl), trivial⟩ (fun w hw => laws_eqMetric_ok w r5_1.1 r5_1.2 ((F_impl_LineMetric (F_laws_toIntS a)).1) ((rii_tab 1 rfl) w hw) r3_2.1 r3_2.2 ((F_spec_LineMetric (F_laws_toIntS a)).1) ((rii_tab 4 rfl) w hw))) rfl rfl rfl ?_
    refine TL.op (yq (y_not (ev_t rfl))) rfl rfl rfl ?_
    refine TL.op (yq (y_move (ev_t rfl))) rfl rfl rfl ?_
    refine TL.opw (w_f rfl rfl rfl) (fun hg => yq (y_move (ev_t rfl))) rfl rfl ?_
    refine TL.opw (w_f rfl rfl rfl) (fun hg => yq (y_move (ev_t rfl))) rfl rfl ?_
    refine TL.opw (w_f rfl rfl rfl) (fun hg => yq (y_bneq (ev_g rfl hg) (ev_g rfl hg) Try.underlying4)) rfl rfl ?_
    refine TL.op (yq (y_or (ev_t rfl) (fun hq => (ev_g rfl hq)))) rfl rfl rfl ?_
    refine TL.nil ?_
    refine TN.seq ?_
    refine TC.cond (b := ((!(F_laws_eqMetric ((F_impl_LineMetric (F_laws_toIntS a)).1) ((F_spec_LineMetric (F_laws_toIntS a)).1))) || (((F_impl_LineMetric (F_laws_toIntS a)).2) != ((F_spec_LineMetric (F_laws_toIntS a)).2)))) (ev_t rfl) (fun h21 => ?_) (fun h21 => ?_)
    · rw [bif_pos h21] at hF
      have q22 := ((or_t h21).imp (fun h => (not_t h)) (fun h => h))
      refine TC.seq ?_
      refine TC.region ?_
      refine TL.op (yq (y_assign ev_c)) rfl rfl rfl ?_
      refine TL.nil ?_
      refine TN.seq ?_
      refine TC.ret ?_
      refine TN.thenR ?_
      subst hF
      exact TN.ret1 rfl (ev_t rfl) (fun w' hw => ⟨rfl, Hp.sublist hw (List.nil_sublist _)⟩)
    · rw [bif_neg h21] at hF
      have q22 := (and_imp (or_f h21) (fun h => (not_f h)) (fun h => h))
      refine TC.skip ?_
      refine TN.seq ?_
      refine TC.seq ?_
      refine TC.seq ?_
      refine TC.region ?_
      refine TL.op (yq (y_move (ev_t rfl))) rfl rfl rfl ?_
      refine TL.op (yq (y_move (ev_t rfl))) rfl rfl rfl ?_
      refine TL.callr (ι := Value) (vs := [va]) (fun i => i) (fun i => [rowI 3 i (F_laws_toIntS a)]) en_21 ⟨(ev_t rfl), trivial⟩ rfl (fun w hw => laws_toIntS_ok w va a ((ri_arg ha) w hw) (by first | assumption | omega | grind)) (fun r8_2 => ?_)
      refine TL.op (y_call (vs := [r4_1, r8_2]) (v := (.bool (F_laws_eqIntS (F_laws_toIntS a) (F_laws_toIntS a)))) en_23 ⟨(ev_t rfl), (ev_t rfl), trivial⟩ (fun w hw => laws_eqIntS_ok w r4_1 (F_laws_toIntS a) ((ri_row 3 rfl) w hw) r8_2 (F_laws_toIntS a) ((ri_row 0 rfl) w hw))) rfl rfl rfl ?_
      refine TL.op (yq (y_not (ev_t rfl))) rfl rfl rfl ?_
      refine TL.nil ?_
      refine TN.seq ?_
      refine TC.cond (b := !(F_laws_eqIntS (F_laws_toIntS a) (F_laws_toIntS a))) (ev_t rfl) (fun h23 => ?_) (fun h23 => ?_)
      · rw [bif_pos h23] at hF
        have q24 := (not_t h23)
        refine TC.seq ?_
        refine TC.region ?_
        refine TL.op (yq (y_assign ev_c)) rfl rfl rfl ?_
        refine TL.nil ?_
        refine TN.seq ?_
        refine TC.ret ?_
        refine TN.thenR ?_
        subst hF
        exact TN.ret1 rfl (ev_t rfl) (fun w' hw => ⟨rfl, Hp.sublist hw (List.nil_sublist _)⟩)
      · rw [bif_neg h23] at hF
        have q24 := (not_f h23)
        refine TC.skip ?_
        refine TN.seq ?_
        refine TC.seq ?_
        refine TC.region ?_
        refine TL.op (yq (y_assign ev_c)) rfl rfl rfl ?_
        refine TL.nil ?_
        refine TN.seq ?_
        refine TC.seq ?_
        refine TC.region ?_
        refine TL.op (yq (y_move (ev_t rfl))) rfl rfl rfl ?_
        refine TL.op (yq (y_move (ev_t rfl))) rfl rfl rfl ?_
        refine TL.callm (ι := Unit) 3 (vs := [r4_1, (.int .i64 1)]) (fun _ => (.int .i64 ((F_laws_markIntS (F_laws_toIntS a) 1).1))) (fun _ => rowI 3 r4_1 ((F_laws_markIntS (F_laws_toIntS a) 1).2)) en_46 ⟨(ev_t rfl), (ev_t rfl), trivial⟩ rfl rfl (fun w1 fr1 hw => laws_markIntS_ok w w1 fr1 r4_1 (F_laws_toIntS a) hw 1 (by first | assumption | omega | grind) (by first | assumption | omega | grind)) (fun _ => ?_)
        refine TL.op (yq (y_assign (ev_t rfl))) rfl rfl rfl ?_
        refine TL.nil ?_
        refine TN.seq ?_
        refine TC.seq ?_
        refine TC.seq ?_
        refine TC.region ?_
        refine TL.op (yq (y_move (ev_t rfl))) rfl rfl rfl ?_
        refine TL.op (yq (y_lss (ev_t rfl) ev_c)) rfl rfl rfl ?_
        refine TL.op (yq (y_move (ev_t rfl))) rfl rfl rfl ?_
        refine TL.opw (w_f rfl rfl rfl) (fun hg => yq (y_ldagg (cs := [r5_1.1]) 1 (ev_t rfl) agg_37 rfl)) rfl rfl ?_
        refine TL.opw (w_f rfl rfl rfl) (fun hg => yq (y_ldagg (cs := [r3_2.1]) 4 (ev_t rfl) agg_37 rfl)) rfl rfl ?_
        refine TL.opw (w_f rfl rfl rfl) (fun hg => y_call (vs := [(.agg #[r5_1.1]), (.agg #[r3_2.1])]) (v := (.bool (F_laws_eqMetric ((F_impl_LineMetric (F_laws_toIntS a)).1) ((F_spec_LineMetric (F_laws_toIntS a)).1)))) en_30 ⟨(ev_g rfl hg), (ev_g rfl hg), trivial⟩ (fun w hw => laws_eqMetric_ok w r5_1.1 r5_1.2 ((F_impl_LineMetric (F_laws_toIntS a)).1) ((rii_tab 2 rfl) w hw) r3_2.1 r3_2.2 ((F_spec_LineMetric (F_laws_toIntS a)).1) ((rii_tab 5 rfl) w hw))) rfl rfl ?_
        refine TL.opw (w_f rfl rfl rfl) (fun hg => yq (y_not (ev_g rfl hg))) rfl rfl ?_
        refine TL.op (yq (y_or (ev_t rfl) (fun hq => (ev_g rfl hq)))) rfl rfl rfl ?_
        refine TL.op (yq (y_move (ev_t rfl))) rfl rfl rfl ?_
        refine TL.opw (w_f rfl rfl rfl) (fun hg => yq (y_move (ev_t rfl))) rfl rfl ?_
        refine TL.opw (w_f rfl rfl rfl) (fun hg => yq (y_move (ev_t rfl))) rfl rfl ?_
        refine TL.opw (w_f rfl rfl rfl) (fun hg => yq (y_bneq (ev_g rfl hg) (ev_g rfl hg) Try.underlying4)) rfl rfl ?_
        refine TL.op (yq (y_or (ev_t rfl) (fun hq => (ev_g rfl hq)))) rfl rfl rfl ?_
        refine TL.nil ?_
        refine TN.seq ?_
        refine TC.cond (b := (((decide ((F_laws_markIntS (F_laws_toIntS a) 1).1 < 0)) || (!(F_laws_eqMetric ((F_impl_LineMetric (F_laws_toIntS a)).1) ((F_spec_LineMetric (F_laws_toIntS a)).1)))) || (((F_impl_LineMetric (F_laws_toIntS a)).2) != ((F_spec_LineMetric (F_laws_toIntS a)).2)))) (ev_t rfl) (fun h25 => ?_) (fun h25 => ?_)
        · rw [bif_pos h25] at hF
          have q26 := ((or_t h25).imp (fun h => ((or_t h).imp (fun h => (of_decide_eq_true h)) (fun h => (not_t h)))) (fun h => h))
          refine TC.seq ?_
          refine TC.region ?_
          refine TL.op (yq (y_assign ev_c)) rfl rfl rfl ?_
          refine TL.nil ?_
          refine TN.seq ?_
          refine TC.ret ?_
          refine TN.thenR ?_
          subst hF
          exact TN.ret1 rfl (ev_t rfl) (fun w' hw => ⟨rfl, Hp.sublist hw (List.nil_sublist _)⟩)
        · rw [bif_neg h25] at hF
          have q26 := (and_imp (or_f h25) (fun h => (and_imp (or_f h) (fun h => (of_decide_eq_false h)) (fun h => (not_f h)))) (fun h => h))
          refine TC.skip ?_
          refine TN.seq ?_
          refine TC.seq ?_
          refine TC.region ?_
          refine TL.op (yq (y_assign ev_c)) rfl rfl rfl ?_
          refine TL.nil ?_
          refine TN.seq ?_
          refine TC.seq ?_
          refine TC.region ?_
          refine TL.op (yq (y_ldagg (cs := [r5_1.1]) 1 (ev_t rfl) agg_37 rfl)) rfl rfl rfl ?_
          refine TL.op (yq (y_move (ev_t rfl))) rfl rfl rfl ?_
          refine TL.callm (ι := Unit) 2 (vs := [(.agg #[r5_1.1]), (.int .i64 1)]) (fun _ => (.int .i64 ((F_laws_markMetric ((F_impl_LineMetric (F_laws_toIntS a)).1) 1).1))) (fun _ => tabI 28 3 r5_1.1 r5_1.2 ((F_laws_markMetric ((F_impl_LineMetric (F_laws_toIntS a)).1) 1).2)) en_33 ⟨(ev_t rfl), (ev_t rfl), trivial⟩ rfl rfl (fun w1 fr1 hw => laws_markMetric_ok w w1 fr1 r5_1.1 r5_1.2 ((F_impl_LineMetric (F_laws_toIntS a)).1) hw 1 (by first | assumption | omega | grind) (by first | assumption | omega | grind)) (fun _ => ?_)
          refine TL.op (yq (y_assign (ev_t rfl))) rfl rfl rfl ?_
          refine TL.nil ?_
          refine TN.seq ?_
          refine TC.seq ?_
          refine TC.region ?_
          refine TL.op (yq (y_assign ev_c)) rfl rfl rfl ?_
          refine TL.nil ?_
          refine TN.seq ?_
          refine TC.seq ?_
          refine TC.region ?_
          refine TL.op (yq (y_ldagg (cs := [r5_1.1]) 1 (ev_t rfl) agg_37 rfl)) rfl rfl rfl ?_
          refine TL.op (yq (y_move (ev_t rfl))) rfl rfl rfl ?_
          refine TL.op (y_call (vs := [(.agg #[r5_1.1]), (.int .i64 1)]) (v := (.int .i64 (F_laws_heldMetric ((F_laws_markMetric ((F_impl_LineMetric (F_laws_toIntS a)).1) 1).2) 1))) en_34 ⟨(ev_t rfl), (ev_t rfl), trivial⟩ (fun w hw => laws_heldMetric_ok w r5_1.1 r5_1.2 ((F_laws_markMetric ((F_impl_LineMetric (F_laws_toIntS a)).1) 1).2) ((rii_tab 2 rfl) w hw) 1 (by first | assumption | omega | grind) (by first | assumption | omega | grind))) rfl rfl rfl ?_
          refine TL.op (yq (y_assign (ev_t rfl))) rfl rfl rfl ?_
          refine TL.nil ?_
          refine TN.seq ?_
          refine TC.seq ?_
          refine TC.seq ?_
          refine TC.region ?_
          refine TL.op (yq (y_move (ev_t rfl))) rfl rfl rfl ?_
          refine TL.op (yq (y_lss (ev_t rfl) ev_c)) rfl rfl rfl ?_
          refine TL.nil ?_
          refine TN.seq ?_
          refine TC.cond (b := decide ((F_laws_heldMetric ((F_laws_markMetric ((F_impl_LineMetric (F_laws_toIntS a)).1) 1).2) 1) < 0)) (ev_t rfl) (fun h27 => ?_) (fun h27 => ?_)
          · rw [bif_pos h27] at hF
            have q28 := (of_decide_eq_true h27)
            refine TC.seq ?_
            refine TC.region ?_
            refine TL.op (yq (y_assign ev_c)) rfl rfl rfl ?_
            refine TL.nil ?_
            refine TN.seq ?_
            refine TC.ret ?_
            refine TN.thenR ?_
            subst hF
            exact TN.ret1 rfl (ev_t rfl) (fun w' hw => ⟨rfl, Hp.sublist hw (List.nil_sublist _)⟩)
          · rw [bif_neg h27] at hF
            have q28 := (of_decide_eq_false h27)
            refine TC.skip ?_
            refine TN.seq ?_
            refine TC.seq ?_
            refine TC.seq ?_
            refine TC.region ?_
            refine TL.op (yq (y_move (ev_t rfl))) rfl rfl rfl ?_
            refine TL.op (yq (y_move (ev_t rfl))) rfl rfl rfl ?_
            refine TL.op (yq (y_neq (ev_t rfl) (ev_t rfl))) rfl rfl rfl ?_
            refine TL.nil ?_
            refine TN.seq ?_
            refine TC.cond (b := !decide ((F_laws_heldMetric ((F_laws_markMetric ((F_impl_LineMetric (F_laws_toIntS a)).1) 1).2) 1) = (F_laws_markMetric ((F_impl_LineMetric (F_laws_toIntS a)).1) 1).1)) (ev_t rfl) (fun h29 => ?_) (fun h29 => ?_)
            · rw [bif_pos h29] at hF
              have q30 := (of_decide_eq_false (not_t h29))
              refine TC.seq ?_
              refine TC.region ?_
              refine TL.op (yq (y_assign ev_c)) rfl rfl rfl ?_
              refine TL.nil ?_
              refine TN.seq ?_
              refine TC.ret ?_
              refine TN.thenR ?_
              subst hF
              exact TN.ret1 rfl (ev_t rfl) (fun w' hw => ⟨rfl, Hp.sublist hw (List.nil_sublist _)⟩)
            · rw [bif_neg h29] at hF
              have q30 := (of_decide_eq_true (not_f h29))
              refine TC.skip ?_
              refine TN.seq ?_
              refine TC.seq ?_
              refine TC.region ?_
              refine TL.op (yq (y_move (ev_t rfl))) rfl rfl rfl ?_
              refine TL.callr (ι := Value) (vs := [va]) (fun i => i) (fun i => [rowI 3 i (F_laws_toIntS a)]) en_21 ⟨(ev_t rfl), trivial⟩ rfl (fun w hw => laws_toIntS_ok w va a ((ri_arg ha) w hw) (by first | assumption | omega | grind)) (fun r22_1 => ?_)
              refine TL.callr (ι := Value × List Value) (vs := [r22_1]) (fun i => (.tuple #[(.agg #[i.1]), (.bool ((F_impl_LineMetric (F_laws_toIntS a)).2))])) (fun i => [tabI 28 3 i.1 i.2 ((F_impl_LineMetric (F_laws_toIntS a)).1)]) en_55 ⟨(ev_t rfl), trivial⟩ rfl (fun w hw => impl_LineMetric_ok w r22_1 (F_laws_toIntS a) ((ri_row 0 rfl) w hw)) (fun r22_2 => ?_)
              refine TL.op (yq (y_move (ev_t rfl))) rfl rfl rfl ?_
              refine TL.op (yq (y_extract (ev_t rfl) rfl)) rfl rfl rfl ?_
              refine TL.op (yq (y_extract (ev_t rfl) rfl)) rfl rfl rfl ?_
              refine TL.alloc (u := (.agg #[(.slice none 0 0)])) (by kernel_rfl) rfl (fun g22_6 => ?_)
              refine TL.storeAgg (cs := [(.slice none 0 0)]) (us := [r22_2.1]) 0 (ev_t rfl) (ev_t rfl) agg_37 rfl rfl (fun w hw => (ocs_cons (ln_one ((fun w hw => ((rii_tab 1 rfl) w hw).1) w hw).ln) ocs_nil)) ?_
              refine TL.op (yq (y_assign (ev_t rfl))) rfl rfl rfl ?_
              refine TL.nil ?_
              refine TN.seq ?_
              refine TC.seq ?_
              refine TC.seq ?_
              refine TC.region ?_
              refine TL.op (yq (y_ldagg (cs := [r22_2.1]) 0 (ev_t rfl) agg_37 rfl)) rfl rfl rfl ?_
              refine TL.op (yq (y_ldagg (cs := [r3_2.1]) 7 (ev_t rfl) agg_37 rfl)) rfl rfl rfl ?_
              refine TL.op (y_call (vs := [(.agg #[r22_2.1]), (.agg #[r3_2.1])]) (v := (.bool (F_laws_eqMetric ((F_impl_LineMetric (F_laws_toIntS a)).1) ((F_spec_LineMetric (F_laws_toIntS a)).1)))) en_30 ⟨(ev_t rfl), (ev_t rfl), trivial⟩ (fun w hw => laws_eqMetric_ok w r22_2.1 r22_2.2 ((F_impl_LineMetric (F_laws_toIntS a)).1) ((rii_tab 1 rfl) w hw) r3_2.1 r3_2.2 ((F_spec_LineMetric (F_laws_toIntS a)).1) ((rii_tab 8 rfl) w hw))) rfl rfl rfl ?_
              refine TL.op (yq (y_not (ev_t rfl))) rfl rfl rfl ?_
              refine TL.op (yq (y_move (ev_t rfl))) rfl rfl rfl ?_
              refine TL.opw (w_f rfl rfl rfl) (fun hg => yq (y_move (ev_t rfl))) rfl rfl ?_
              refine TL.opw (w_f rfl rfl rfl) (fun hg => yq (y_move (ev_t rfl))) rfl rfl ?_
              refine TL.opw (w_f rfl rfl rfl) (fun hg => yq (y_bneq (ev_g rfl hg) (ev_g rfl hg) Try.underlying4)) rfl rfl ?_
              refine TL.op (yq (y_or (ev_t rfl) (fun hq => (ev_g rfl hq)))) rfl rfl rfl ?_
              refine TL.nil ?_
              refine TN.seq ?_
              refine TC.condF (ev_t rfl) h21 ?_
              refine TC.skip ?_
              refine TN.seq ?_
              refine TC.seq ?_
              refine TC.region ?_
              refine TL.op (yq (y_assign ev_c)) rfl rfl rfl ?_
              refine TL.nil ?_
              refine TN.seq ?_
              refine TC.seq ?_
              refine TC.region ?_
              refine TL.op (yq (y_ldagg (cs := [r5_1.1]) 4 (ev_t rfl) agg_37 rfl)) rfl rfl rfl ?_
              refine TL.op (yq (y_move (ev_t rfl))) rfl rfl rfl ?_
              refine TL.op (y_call (vs := [(.agg #[r5_1.1]), (.int .i64 1)]) (v := (.int .i64 (F_laws_heldMetric ((F_laws_markMetric ((F_impl_LineMetric (F_laws_toIntS a)).1) 1).2) 1))) en_34 ⟨(ev_t rfl), (ev_t rfl), trivial⟩ (fun w hw => laws_heldMetric_ok w r5_1.1 r5_1.2 ((F_laws_markMetric ((F_impl_LineMetric (F_laws_toIntS a)).1) 1).2) ((rii_tab 5 rfl) w hw) 1 (by first | assumption | omega | grind) (by first | assumption | omega | grind))) rfl rfl rfl ?_
              refine TL.op (yq (y_assign (ev_t rfl))) rfl rfl rfl ?_
              refine TL.nil ?_
              refine TN.seq ?_
              refine TC.seq ?_
              refine TC.seq ?_
              refine TC.region ?_
              refine TL.op (yq (y_move (ev_t rfl))) rfl rfl rfl ?_
              refine TL.op (yq (y_lss (ev_t rfl) ev_c)) rfl rfl rfl ?_
              refine TL.nil ?_
              refine TN.seq ?_
              refine TC.condF (ev_t rfl) h27 ?_
              refine TC.skip ?_
              refine TN.seq ?_
              refine TC.seq ?_
              refine TC.seq ?_
              refine TC.region ?_
              refine TL.op (yq (y_move (ev_t rfl))) rfl rfl rfl ?_
              refine TL.op (yq (y_move (ev_t rfl))) rfl rfl rfl ?_
              refine TL.op (yq (y_neq (ev_t rfl) (ev_t rfl))) rfl rfl rfl ?_
              refine TL.nil ?_
              refine TN.seq ?_
              refine TC.condF (ev_t rfl) h29 ?_
              refine TC.skip ?_
              refine TN.seq ?_
              refine TC.seq ?_
              refine TC.region ?_
              refine TL.op (yq (y_assign ev_c)) rfl rfl rfl ?_
              refine TL.nil ?_
              refine TN.seq ?_
              refine TC.ret ?_
              subst hF
              exact TN.ret1 rfl (ev_t rfl) (fun w' hw => ⟨rfl, Hp.sublist hw (List.nil_sublist _)⟩)

set_option maxRecDepth 4000 in
set_option maxHeartbeats 1000000 in
theorem impl_DiameterOf_ok (w : World) (vm : Value) (um : List Value) (m : List (List Int)) (hm : RII w vm um m)  :
    Calls Try.prog 53 ([(.agg #[vm])] : List Value).toArray w (Ret (.tuple #[(.int .i64 ((F_impl_DiameterOf m).1)), (.bool ((F_impl_DiameterOf m).2))]) (Hp w [])) := by
  obtain ⟨rz, hF⟩ : ∃ rz, (F_impl_DiameterOf m) = rz := ⟨_, rfl⟩
  rw [hF]
  unfold F_impl_DiameterOf at hF
  have hlen_m := argT_len hm
  refine calls_tc Try.func53 rfl rfl rfl ?_
  change TC _ _ _ _ (Hp w []) [(0, (.agg #[vm]))]
  refine TC.seq ?_
  refine TC.region ?_
  refine TL.box (ev_t rfl) rfl (fun g0_0 => ?_)
  refine TL.op (yq (y_assign ev_c)) rfl rfl rfl ?_
  refine TL.op (yq (y_assign ev_c)) rfl rfl rfl ?_
  refine TL.nil ?_
  refine TN.seq ?_
  refine TC.seq ?_
  refine TC.seq ?_
  refine TC.region ?_
  refine TL.op (yq (y_ldagg (cs := [vm]) 0 (ev_t rfl) agg_37 rfl)) rfl rfl rfl ?_
  refine TL.op (y_call (vs := [(.agg #[vm])]) (v := (.bool (F_impl_IsMetric m))) en_29 ⟨(ev_t rfl), trivial⟩ (fun w hw => impl_IsMetric_ok w vm um m ((rii_arg hm) w hw))) rfl rfl rfl ?_
  refine TL.op (yq (y_not (ev_t rfl))) rfl rfl rfl ?_
  refine TL.nil ?_
  refine TN.seq ?_
  refine TC.cond (b := !(F_impl_IsMetric m)) (ev_t rfl) (fun h15 => ?_) (fun h15 => ?_)
  · rw [bif_pos h15] at hF
    have q16 := (not_t h15)
    refine TC.seq ?_
    refine TC.region ?_
    refine TL.op (yq (y_assign ev_c)) rfl rfl rfl ?_
    refine TL.op (yq (y_assign ev_c)) rfl rfl rfl ?_
    refine TL.nil ?_
    refine TN.seq ?_
    refine TC.ret ?_
    refine TN.thenR ?_
    subst hF
    exact TN.ret2 rfl (ev_t rfl) (ev_t rfl) (fun w' hw => ⟨rfl, Hp.sublist hw (List.nil_sublist _)⟩)
  · rw [bif_neg h15] at hF
    have q16 := (isMetric_t (not_f h15))
    have hT := q16
    have hn1 := hT.n1
    refine TC.skip ?_
    refine TN.seq ?_
    refine TC.seq ?_
    refine TC.region ?_
    refine TL.op (yq (y_assign ev_c)) rfl rfl rfl ?_
    refine TL.nil ?_
    refine TN.seq ?_
    refine TC.seq ?_
    refine TC.seq ?_
    refine TC.region ?_
    refine TL.op (yq (y_fa (fa_37_0 g0_0) (ev_t rfl))) rfl rfl rfl ?_
    refine TL.op (yq (y_ldb 0 (ev_t rfl) one_22 rfl rfl)) rfl rfl rfl ?_
    refine TL.op (yq (y_len (ev_t rfl) Try.underlying22 (fun w hw => ((fun w hw => ((rii_arg hm) w hw).1) w hw).ln))) rfl rfl rfl ?_
    refine TL.op (yq (y_move ev_c)) rfl rfl rfl ?_
    refine TL.nil ?_
    refine TN.seq ?_
    refine TC.block ?_
    obtain ⟨c17, hc18⟩ : ∃ c, F_impl_DiameterOf_L1 m ((m.length - 0) + 1) (0, 0) = c := ⟨_, rfl⟩
    rw [hc18] at hF
    refine TC.loop (ι := Nat × Int × Nat) (fun (fu1, most1, k13_1) => [(4, (.int .i64 most1)), (11, vm), (12, (.int .i64 (m.length : Int))), (13, (.int .i64 (k13_1 : Int)))]) (fun (fu1, most1, k13_1) => Hp w []) (fun (fu1, most1, k13_1) => (k13_1 ≤ m.length) ∧ m.length - k13_1 < fu1 ∧ F_impl_DiameterOf_L1 m fu1 (most1, k13_1) = c17) (fun (fu1, most1, k13_1) => fu1) ((m.length - 0) + 1, 0, 0) ⟨(by first | omega | (simp [-List.getD_eq_getElem?_getD] <;> omega)), (by omega), hc18⟩ ⟨rfl, rfl, rfl, rfl, trivial⟩ (fun w hw => Hp.sublist hw (List.nil_sublist _)) ?_
    rintro ⟨fu1, most1, k13_1⟩ hJ1
    obtain ⟨hi1_0, hmu1, hL1⟩ : (k13_1 ≤ m.length) ∧ m.length - k13_1 < fu1 ∧ F_impl_DiameterOf_L1 m fu1 (most1, k13_1) = c17 := hJ1
    change TC _ _ _ _ (Hp w []) [(4, (.int .i64 most1)), (11, vm), (12, (.int .i64 (m.length : Int))), (13, (.int .i64 (k13_1 : Int)))]
    obtain ⟨mf1, rfl⟩ : ∃ m, fu1 = m + 1 := ⟨fu1 - 1, by omega⟩
    rw [F_impl_DiameterOf_L1_s] at hL1
    have hrw := hT.rows k13_1
    refine TC.seq ?_
    refine TC.region ?_
    refine TL.op (yq (y_lss (ev_t rfl) (ev_t rfl))) rfl rfl rfl ?_
    refine TL.nil ?_
    refine TN.seq ?_
    refine TC.seq ?_
    refine TC.cond (b := decide ((k13_1 : Int) < (m.length : Int))) (ev_t rfl) (fun h19 => ?_) (fun h19 => ?_)
    · rw [bif_pos h19] at hL1
      have q20 := (of_decide_eq_true h19)
      refine TC.skip ?_
      refine TN.seq ?_
      refine TC.seq ?_
      refine TC.block ?_
      refine TC.seq ?_
      refine TC.region ?_
      have hb21 : k13_1 < m.length := (by first | omega | (simp only [List.length_set, List.length_append, List.length_cons, List.length_nil, List.length_replicate]; omega))
      refine TL.op (yq (y_idx (k := k13_1) (ev_t rfl) (ev_t rfl) (by omega) slT_22 (fun w hw => ((rii_arg hm) w hw).1) hb21)) rfl rfl rfl ?_
      have ha22 := hm.row (i := k13_1) hb21
      refine TL.op (yq (y_ldA (ev_t rfl) one_28 (rii_arg hm) hb21)) rfl rfl rfl ?_
      refine TL.op (yq (y_assign (ev_t rfl))) rfl rfl rfl ?_
      refine TL.nil ?_
      refine TN.seq ?_
      refine TC.region ?_
      refine TL.op (yq (y_move (ev_t rfl))) rfl rfl rfl ?_
      refine TL.op (yq (y_move (ev_t rfl))) rfl rfl rfl ?_
      refine TL.op (y_call (vs := [(um.getD k13_1 undef)]) (v := (.int .i64 (F_slices_Max_Sint_int (m.getD k13_1 [])))) en_93 ⟨(ev_t rfl), trivial⟩ (fun w hw => slices_Max_Sint_int_ok w (um.getD k13_1 undef) (m.getD k13_1 []) ((ri_arg ha22) w hw) (by first | assumption | omega | grind))) rfl rfl rfl ?_
      refine TL.op (yq (y_max (ev_t rfl) (ev_t rfl))) rfl rfl rfl ?_
      refine TL.op (yq (y_assign (ev_t rfl))) rfl rfl rfl ?_
      refine TL.nil ?_
      refine TN.blockN ?_
      refine TN.seq ?_
      refine TC.region ?_
      refine TL.op (yq (y_add (ev_t rfl) ev_c (by unfold In64; omega))) rfl rfl rfl ?_
      refine TL.op (yq (y_move (ev_t rfl))) rfl rfl rfl ?_
      refine TL.nil ?_
      exact TN.hand (mf1, max most1 (F_slices_Max_Sint_int (m.getD k13_1 [])), (k13_1 + 1)) ⟨(by first | omega | (simp [-List.getD_eq_getElem?_getD] <;> omega)), (by omega), hL1⟩ (Nat.lt_succ_self _) ⟨rfl, rfl, rfl, rfl, trivial⟩ (fun w hw => hw)
    · rw [bif_neg h19] at hL1
      have q20 := (of_decide_eq_false h19)
      refine TC.exit ?_
      refine TN.thenE ?_
      refine TN.thenE ?_
      rw [← hL1, elim_next] at hF
      try dsimp only at hF
      refine TN.blockH ?_
      refine TN.seq ?_
      refine TC.seq ?_
      refine TC.region ?_
      refine TL.op (yq (y_move (ev_t rfl))) rfl rfl rfl ?_
      refine TL.op (yq (y_assign (ev_t rfl))) rfl rfl rfl ?_
      refine TL.op (yq (y_assign ev_c)) rfl rfl rfl ?_
      refine TL.nil ?_
      refine TN.seq ?_
      refine TC.ret ?_
      subst hF
      exact TN.ret2 rfl (ev_t rfl) (ev_t rfl) (fun w' hw => ⟨rfl, hw⟩)

set_option maxRecDepth 4000 in
set_option maxHeartbeats 1000000 in
theorem spec_DiameterOf_ok (w : World) (vm : Value) (um : List Value) (m : List (List Int)) (hm : RII w vm um m)  :
    Calls Try.prog 52 ([(.agg #[vm])] : List Value).toArray w (Ret (.tuple #[(.int .i64 ((F_spec_DiameterOf m).1)), (.bool ((F_spec_DiameterOf m).2))]) (Hp w [])) := by
  obtain ⟨rz, hF⟩ : ∃ rz, (F_spec_DiameterOf m) = rz := ⟨_, rfl⟩
  rw [hF]
  unfold F_spec_DiameterOf at hF
  have hlen_m := argT_len hm
  refine calls_tc Try.func52 rfl rfl rfl ?_
  change TC _ _ _ _ (Hp w []) [(0, (.agg #[vm]))]
  refine TC.seq ?_
  refine TC.region ?_
  refine TL.box (ev_t rfl) rfl (fun g0_0 => ?_)
  refine TL.op (yq (y_assign ev_c)) rfl rfl rfl ?_
  refine TL.op (yq (y_assign ev_c)) rfl rfl rfl ?_
  refine TL.nil ?_
  refine TN.seq ?_
  refine TC.seq ?_
  refine TC.seq ?_
  refine TC.region ?_
  refine TL.op (yq (y_ldagg (cs := [vm]) 0 (ev_t rfl) agg_37 rfl)) rfl rfl rfl ?_
  refine TL.op (y_call (vs := [(.agg #[vm])]) (v := (.bool (F_spec_l6Good m))) en_69 ⟨(ev_t rfl), trivial⟩ (fun w hw => spec_l6Good_ok w vm um m ((rii_arg hm) w hw))) rfl rfl rfl ?_
  refine TL.op (yq (y_not (ev_t rfl))) rfl rfl rfl ?_
  refine TL.nil ?_
  refine TN.seq ?_
  refine TC.cond (b := !(F_spec_l6Good m)) (ev_t rfl) (fun h34 => ?_) (fun h34 => ?_)
  · rw [bif_pos h34] at hF
    have q35 := (not_t h34)
    refine TC.seq ?_
    refine TC.region ?_
    refine TL.op (yq (y_assign ev_c)) rfl rfl rfl ?_
    refine TL.op (yq (y_assign ev_c)) rfl rfl rfl ?_
    refine TL.nil ?_
    refine TN.seq ?_
    refine TC.ret ?_
    refine TN.thenR ?_
    subst hF
    exact TN.ret2 rfl (ev_t rfl) (ev_t rfl) (fun w' hw => ⟨rfl, Hp.sublist hw (List.nil_sublist _)⟩)
  · rw [bif_neg h34] at hF
    have q35 := (l6Good_t (not_f h34))
    have hT := q35
    refine TC.skip ?_
    refine TN.seq ?_
    refine TC.seq ?_
    refine TC.region ?_
    refine TL.op (yq (y_assign ev_c)) rfl rfl rfl ?_
    refine TL.nil ?_
    refine TN.seq ?_
    refine TC.seq ?_
    refine TC.seq ?_
    refine TC.region ?_
    refine TL.op (yq (y_assign ev_c)) rfl rfl rfl ?_
    refine TL.nil ?_
    refine TN.seq ?_
    refine TC.block ?_
    obtain ⟨c36, hc37⟩ : ∃ c, F_spec_DiameterOf_L1 m ((m.length - 0) + 1) (0, 0) = c := ⟨_, rfl⟩
    rw [hc37] at hF
    refine TC.loop (ι := Nat × Int × Nat) (fun (fu1, most1, x1) => [(1, (.pointer (some ⟨g0_0, 0, none⟩))), (4, (.int .i64 most1)), (5, (.int .i64 (x1 : Int)))]) (fun (fu1, most1, x1) => Hp w [.blk g0_0 37 [vm]]) (fun (fu1, most1, x1) => (x1 ≤ m.length) ∧ m.length - x1 < fu1 ∧ F_spec_DiameterOf_L1 m fu1 (most1, x1) = c36) (fun (fu1, most1, x1) => fu1) ((m.length - 0) + 1, 0, 0) ⟨(by first | omega | (simp [-List.getD_eq_getElem?_getD] <;> omega)), (by omega), hc37⟩ ⟨rfl, rfl, rfl, trivial⟩ (fun w hw => hw) ?_
    rintro ⟨fu1, most1, x1⟩ hJ1
    obtain ⟨hi1_0, hmu1, hL1⟩ : (x1 ≤ m.length) ∧ m.length - x1 < fu1 ∧ F_spec_DiameterOf_L1 m fu1 (most1, x1) = c36 := hJ1
    change TC _ _ _ _ (Hp w [.blk g0_0 37 [vm]]) [(1, (.pointer (some ⟨g0_0, 0, none⟩))), (4, (.int .i64 most1)), (5, (.int .i64 (x1 : Int)))]
    obtain ⟨mf1, rfl⟩ : ∃ m, fu1 = m + 1 := ⟨fu1 - 1, by omega⟩
    rw [F_spec_DiameterOf_L1_s] at hL1
    have hrw := hT.rows x1
    refine TC.seq ?_
    refine TC.seq ?_
    refine TC.region ?_
    refine TL.op (yq (y_move (ev_t rfl))) rfl rfl rfl ?_
    refine TL.op (yq (y_fa (fa_37_0 g0_0) (ev_t rfl))) rfl rfl rfl ?_
    refine TL.op (yq (y_ldb 0 (ev_t rfl) one_22 rfl rfl)) rfl rfl rfl ?_
    refine TL.op (yq (y_len (ev_t rfl) Try.underlying22 (fun w hw => ((fun w hw => ((rii_arg hm) w hw).1) w hw).ln))) rfl rfl rfl ?_
    refine TL.op (yq (y_lss (ev_t rfl) (ev_t rfl))) rfl rfl rfl ?_
    refine TL.nil ?_
    refine TN.seq ?_
    refine TC.cond (b := decide ((x1 : Int) < (m.length : Int))) (ev_t rfl) (fun h38 => ?_) (fun h38 => ?_)
    · rw [bif_pos h38] at hL1
      have q39 := (of_decide_eq_true h38)
      refine TC.skip ?_
      refine TN.seq ?_
      refine TC.seq ?_
      refine TC.block ?_
      refine TC.seq ?_
      refine TC.region ?_
      refine TL.op (yq (y_assign ev_c)) rfl rfl rfl ?_
      refine TL.nil ?_
      refine TN.seq ?_
      refine TC.block ?_
      obtain ⟨c40, hc41⟩ : ∃ c, F_spec_DiameterOf_L2 m x1 ((m.length - 0) + 1) (most1, 0) = c := ⟨_, rfl⟩
      rw [hc41] at hL1
      refine TC.loop (ι := Nat × Int × Nat) (fun (fu2, most2, y2) => [(1, (.pointer (some ⟨g0_0, 0, none⟩))), (4, (.int .i64 most2)), (5, (.int .i64 (x1 : Int))), (6, (.int .i64 (y2 : Int)))]) (fun (fu2, most2, y2) => Hp w [.blk g0_0 37 [vm]]) (fun (fu2, most2, y2) => (y2 ≤ m.length) ∧ m.length - y2 < fu2 ∧ F_spec_DiameterOf_L2 m x1 fu2 (most2, y2) = c40) (fun (fu2, most2, y2) => fu2) ((m.length - 0) + 1, most1, 0) ⟨(by first | omega | (simp [-List.getD_eq_getElem?_getD] <;> omega)), (by omega), hc41⟩ ⟨rfl, rfl, rfl, rfl, trivial⟩ (fun w hw => hw) ?_
      rintro ⟨fu2, most2, y2⟩ hJ2
      obtain ⟨hi2_0, hmu2, hL2⟩ : (y2 ≤ m.length) ∧ m.length - y2 < fu2 ∧ F_spec_DiameterOf_L2 m x1 fu2 (most2, y2) = c40 := hJ2
      change TC _ _ _ _ (Hp w [.blk g0_0 37 [vm]]) [(1, (.pointer (some ⟨g0_0, 0, none⟩))), (4, (.int .i64 most2)), (5, (.int .i64 (x1 : Int))), (6, (.int .i64 (y2 : Int)))]
      obtain ⟨mf2, rfl⟩ : ∃ m, fu2 = m + 1 := ⟨fu2 - 1, by omega⟩
      rw [F_spec_DiameterOf_L2_s] at hL2
      refine TC.seq ?_
      refine TC.seq ?_
      refine TC.region ?_
      refine TL.op (yq (y_move (ev_t rfl))) rfl rfl rfl ?_
      refine TL.op (yq (y_fa (fa_37_0 g0_0) (ev_t rfl))) rfl rfl rfl ?_
      refine TL.op (yq (y_ldb 0 (ev_t rfl) one_22 rfl rfl)) rfl rfl rfl ?_
      refine TL.op (yq (y_len (ev_t rfl) Try.underlying22 (fun w hw => ((fun w hw => ((rii_arg hm) w hw).1) w hw).ln))) rfl rfl rfl ?_
      refine TL.op (yq (y_lss (ev_t rfl) (ev_t rfl))) rfl rfl rfl ?_
      refine TL.nil ?_
      refine TN.seq ?_
      refine TC.cond (b := decide ((y2 : Int) < (m.length : Int))) (ev_t rfl) (fun h42 => ?_) (fun h42 => ?_)
      · rw [bif_pos h42] at hL2
        have q43 := (of_decide_eq_true h42)
        refine TC.skip ?_
        refine TN.seq ?_
        refine TC.seq ?_
        refine TC.block ?_
        refine TC.region ?_
        refine TL.op (yq (y_move (ev_t rfl))) rfl rfl rfl ?_
        refine TL.op (yq (y_fa (fa_37_0 g0_0) (ev_t rfl))) rfl rfl rfl ?_
        refine TL.op (yq (y_ldb 0 (ev_t rfl) one_22 rfl rfl)) rfl rfl rfl ?_
        refine TL.op (yq (y_move (ev_t rfl))) rfl rfl rfl ?_
        have hb44 : x1 < m.length := (by first | omega | (simp only [List.length_set, List.length_append, List.length_cons, List.length_nil, List.length_replicate]; omega))
        refine TL.op (yq (y_idx (k := x1) (ev_t rfl) (ev_t rfl) (by omega) slT_22 (fun w hw => ((rii_arg hm) w hw).1) hb44)) rfl rfl rfl ?_
        have ha45 := hm.row (i := x1) hb44
        refine TL.op (yq (y_ldA (ev_t rfl) one_28 (rii_arg hm) hb44)) rfl rfl rfl ?_
        refine TL.op (yq (y_move (ev_t rfl))) rfl rfl rfl ?_
        have hb46 : y2 < (m.getD x1 []).length := (by first | omega | (simp only [List.length_set, List.length_append, List.length_cons, List.length_nil, List.length_replicate]; omega))
        refine TL.op (yq (y_idx (k := y2) (ev_t rfl) (ev_t rfl) (by omega) slT_28 (ri_arg ha45) hb46)) rfl rfl rfl ?_
        refine TL.op (yq (y_ldi (ev_t rfl) one_3 (ri_arg ha45) hb46)) rfl rfl rfl ?_
        refine TL.op (y_call (vs := [(.int .i64 most2), (.int .i64 ((m.getD x1 []).getD y2 0))]) (v := (.int .i64 (F_spec_l1Most most2 ((m.getD x1 []).getD y2 0)))) en_92 ⟨(ev_t rfl), (ev_t rfl), trivial⟩ (fun w hw => spec_l1Most_ok w most2 ((m.getD x1 []).getD y2 0))) rfl rfl rfl ?_
        refine TL.op (yq (y_assign (ev_t rfl))) rfl rfl rfl ?_
        refine TL.nil ?_
        refine TN.blockN ?_
        refine TN.seq ?_
        refine TC.region ?_
        refine TL.op (yq (y_move (ev_t rfl))) rfl rfl rfl ?_
        refine TL.op (yq (y_add (ev_t rfl) ev_c (by unfold In64; omega))) rfl rfl rfl ?_
        refine TL.op (yq (y_assign (ev_t rfl))) rfl rfl rfl ?_
        refine TL.nil ?_
        exact TN.hand (mf2, (F_spec_l1Most most2 ((m.getD x1 []).getD y2 0)), (y2 + 1)) ⟨(by first | omega | (simp [-List.getD_eq_getElem?_getD] <;> omega)), (by omega), hL2⟩ (Nat.lt_succ_self _) ⟨rfl, rfl, rfl, rfl, trivial⟩ (fun w hw => hw)
      · rw [bif_neg h42] at hL2
        have q43 := (of_decide_eq_false h42)
        refine TC.exit ?_
        refine TN.thenE ?_
        refine TN.thenE ?_
        rw [← hL2, elim_next] at hL1
        try dsimp only at hL1
        refine TN.blockH ?_
        refine TN.blockN ?_
        refine TN.seq ?_
        refine TC.region ?_
        refine TL.op (yq (y_move (ev_t rfl))) rfl rfl rfl ?_
        refine TL.op (yq (y_add (ev_t rfl) ev_c (by unfold In64; omega))) rfl rfl rfl ?_
        refine TL.op (yq (y_assign (ev_t rfl))) rfl rfl rfl ?_
        refine TL.nil ?_
        exact TN.hand (mf1, most2, (x1 + 1)) ⟨(by first | omega | (simp [-List.getD_eq_getElem?_getD] <;> omega)), (by omega), hL1⟩ (Nat.lt_succ_self _) ⟨rfl, rfl, rfl, trivial⟩ (fun w hw => hw)
    · rw [bif_neg h38] at hL1
      have q39 := (of_decide_eq_false h38)
      refine TC.exit ?_
      refine TN.thenE ?_
      refine TN.thenE ?_
      rw [← hL1, elim_next] at hF
      try dsimp only at hF
      refine TN.blockH ?_
      refine TN.seq ?_
      refine TC.seq ?_
      refine TC.region ?_
      refine TL.op (yq (y_move (ev_t rfl))) rfl rfl rfl ?_
      refine TL.op (yq (y_assign (ev_t rfl))) rfl rfl rfl ?_
      refine TL.op (yq (y_assign ev_c)) rfl rfl rfl ?_
      refine TL.nil ?_
      refine TN.seq ?_
      refine TC.ret ?_
      subst hF
      exact TN.ret2 rfl (ev_t rfl) (ev_t rfl) (fun w' hw => ⟨rfl, Hp.sublist hw (List.nil_sublist _)⟩)

set_option maxRecDepth 4000 in
set_option maxHeartbeats 1000000 in
theorem laws_FnExactDiameterOf_ok (w : World) (vm : Value) (um : List Value) (m : List (List Int)) (hm : RII w vm um m)  :
    Calls Try.prog 12 ([(.agg #[vm])] : List Value).toArray w (Ret (.bool (F_laws_FnExactDiameterOf m)) (Hp w [])) := by
  obtain ⟨rz, hF⟩ : ∃ rz, (F_laws_FnExactDiameterOf m) = rz := ⟨_, rfl⟩
  rw [hF]
  unfold F_laws_FnExactDiameterOf at hF
  have hlen_m := argT_len hm
  refine calls_tc Try.func12 rfl rfl rfl ?_
  change TC _ _ _ _ (Hp w []) [(0, (.agg #[vm]))]
  refine TC.seq ?_
  refine TC.region ?_
  refine TL.box (ev_t rfl) rfl (fun g0_0 => ?_)
  refine TL.op (yq (y_assign ev_c)) rfl rfl rfl ?_
  refine TL.nil ?_
  refine TN.seq ?_
  refine TC.seq ?_
  refine TC.region ?_
  refine TL.op (yq (y_assign ev_c)) rfl rfl rfl ?_
  refine TL.nil ?_
  refine TN.seq ?_
  refine TC.seq ?_
  refine TC.region ?_
  refine TL.op (yq (y_ldagg (cs := [vm]) 0 (ev_t rfl) agg_34 rfl)) rfl rfl rfl ?_
  refine TL.op (yq (y_move (ev_t rfl))) rfl rfl rfl ?_
  refine TL.op (y_call (vs := [(.agg #[vm]), (.int .i64 1048576)]) (v := (.int .i64 (F_laws_szMetric m 1048576))) en_26 ⟨(ev_t rfl), (ev_t rfl), trivial⟩ (fun w hw => laws_szMetric_ok w vm um m ((rii_arg hm) w hw) 1048576 (by first | assumption | omega | grind) (by first | assumption | omega | grind))) rfl rfl rfl ?_
  refine TL.op (yq (y_assign (ev_t rfl))) rfl rfl rfl ?_
  refine TL.nil ?_
  refine TN.seq ?_
  refine TC.seq ?_
  refine TC.seq ?_
  refine TC.region ?_
  refine TL.op (yq (y_move (ev_t rfl))) rfl rfl rfl ?_
  refine TL.op (yq (y_lss (ev_t rfl) ev_c)) rfl rfl rfl ?_
  refine TL.nil ?_
  refine TN.seq ?_
  refine TC.cond (b := decide ((F_laws_szMetric m 1048576) < 0)) (ev_t rfl) (fun h7 => ?_) (fun h7 => ?_)
  · rw [bif_pos h7] at hF
    have q8 := (of_decide_eq_true h7)
    refine TC.seq ?_
    refine TC.region ?_
    refine TL.op (yq (y_assign ev_c)) rfl rfl rfl ?_
    refine TL.nil ?_
    refine TN.seq ?_
    refine TC.ret ?_
    refine TN.thenR ?_
    subst hF
    exact TN.ret1 rfl (ev_t rfl) (fun w' hw => ⟨rfl, Hp.sublist hw (List.nil_sublist _)⟩)
  · rw [bif_neg h7] at hF
    have q8 := (of_decide_eq_false h7)
    have hsz := szMetric_t (m := m) (left := 1048576) (by omega)
    have hsz1 : ∀ i, (m.getD i []).length ≤ 1048576 := fun i => by have := hsz.2 i; omega
    have hsz2 : m.length + total m ≤ 1048576 := by have := hsz.1; omega
    have htm := toMetric_eq m
    refine TC.skip ?_
    refine TN.seq ?_
    refine TC.seq ?_
    refine TC.region ?_
    refine TL.op (yq (y_ldagg (cs := [vm]) 0 (ev_t rfl) agg_34 rfl)) rfl rfl rfl ?_
    refine TL.callr (ι := Value × List Value) (vs := [(.agg #[vm])]) (fun i => (.agg #[i.1])) (fun i => [tabI 28 3 i.1 i.2 (F_laws_toMetric m)]) en_28 ⟨(ev_t rfl), trivial⟩ rfl (fun w hw => laws_toMetric_ok w vm um m ((rii_arg hm) w hw) (by first | assumption | omega | grind) (by first | assumption | omega | grind)) (fun r5_1 => ?_)
    refine TL.op (y_call (vs := [(.agg #[r5_1.1])]) (v := (.tuple #[(.int .i64 ((F_spec_DiameterOf (F_laws_toMetric m)).1)), (.bool ((F_spec_DiameterOf (F_laws_toMetric m)).2))])) en_52 ⟨(ev_t rfl), trivial⟩ (fun w hw => spec_DiameterOf_ok w r5_1.1 r5_1.2 (F_laws_toMetric m) ((rii_tab 0 rfl) w hw))) rfl rfl rfl ?_
    refine TL.op (yq (y_move (ev_t rfl))) rfl rfl rfl ?_
    refine TL.op (yq (y_extract (ev_t rfl) rfl)) rfl rfl rfl ?_
    refine TL.op (yq (y_extract (ev_t rfl) rfl)) rfl rfl rfl ?_
    refine TL.op (yq (y_assign (ev_t rfl))) rfl rfl rfl ?_
    refine TL.op (yq (y_assign (ev_t rfl))) rfl rfl rfl ?_
    refine TL.nil ?_
    refine TN.seq ?_
    refine TC.seq ?_
    refine TC.region ?_
    refine TL.op (yq (y_ldagg (cs := [vm]) 1 (ev_t rfl) agg_34 rfl)) rfl rfl rfl ?_
    refine TL.callr (ι := Value × List Value) (vs := [(.agg #[vm])]) (fun i => (.agg #[i.1])) (fun i => [tabI 28 3 i.1 i.2 (F_laws_toMetric m)]) en_28 ⟨(ev_t rfl), trivial⟩ rfl (fun w hw => laws_toMetric_ok w vm um m ((rii_arg hm) w hw) (by first | assumption | omega | grind) (by first | assumption | omega | grind)) (fun r6_1 => ?_)
    refine TL.alloc (u := (.agg #[(.slice none 0 0)])) (by kernel_rfl) rfl (fun g6_2 => ?_)
    refine TL.storeAgg (cs := [(.slice none 0 0)]) (us := [r6_1.1]) 0 (ev_t rfl) (ev_t rfl) agg_37 rfl rfl (fun w hw => (ocs_cons (ln_one ((fun w hw => ((rii_tab 1 rfl) w hw).1) w hw).ln) ocs_nil)) ?_
    refine TL.nil ?_
    refine TN.seq ?_
    refine TC.seq ?_
    refine TC.region ?_
    refine TL.op (yq (y_ldagg (cs := [r6_1.1]) 0 (ev_t rfl) agg_37 rfl)) rfl rfl rfl ?_
    refine TL.op (y_call (vs := [(.agg #[r6_1.1])]) (v := (.tuple #[(.int .i64 ((F_impl_DiameterOf (F_laws_toMetric m)).1)), (.bool ((F_impl_DiameterOf (F_laws_toMetric m)).2))])) en_53 ⟨(ev_t rfl), trivial⟩ (fun w hw => impl_DiameterOf_ok w r6_1.1 r6_1.2 (F_laws_toMetric m) ((rii_tab 1 rfl) w hw))) rfl rfl rfl ?_
    refine TL.op (yq (y_move (ev_t rfl))) rfl rfl rfl ?_
    refine TL.op (yq (y_extract (ev_t rfl) rfl)) rfl rfl rfl ?_
    refine TL.op (yq (y_extract (ev_t rfl) rfl)) rfl rfl rfl ?_
    refine TL.op (yq (y_assign (ev_t rfl))) rfl rfl rfl ?_
    refine TL.op (yq (y_assign (ev_t rfl))) rfl rfl rfl ?_
    refine TL.nil ?_
    refine TN.seq ?_
    refine TC.seq ?_
    refine TC.seq ?_
    refine TC.region ?_
    refine TL.op (yq (y_move (ev_t rfl))) rfl rfl rfl ?_
    refine TL.op (yq (y_move (ev_t rfl))) rfl rfl rfl ?_
    refine TL.op (yq (y_neq (ev_t rfl) (ev_t rfl))) rfl rfl rfl ?_
    refine TL.op (yq (y_move (ev_t rfl))) rfl rfl rfl ?_
    refine TL.opw (w_f rfl rfl rfl) (fun hg => yq (y_move (ev_t rfl))) rfl rfl ?_
    refine TL.opw (w_f rfl rfl rfl) (fun hg => yq (y_move (ev_t rfl))) rfl rfl ?_
    refine TL.opw (w_f rfl rfl rfl) (fun hg => yq (y_bneq (ev_g rfl hg) (ev_g rfl hg) Try.underlying4)) rfl rfl ?_
    refine TL.op (yq (y_or (ev_t rfl) (fun hq => (ev_g rfl hq)))) rfl rfl rfl ?_
    refine TL.nil ?_
    refine TN.seq ?_
    refine TC.cond (b := ((!decide ((F_impl_DiameterOf (F_laws_toMetric m)).1 = (F_spec_DiameterOf (F_laws_toMetric m)).1)) || (((F_impl_DiameterOf (F_laws_toMetric m)).2) != ((F_spec_DiameterOf (F_laws_toMetric m)).2)))) (ev_t rfl) (fun h9 => ?_) (fun h9 => ?_)
    · rw [bif_pos h9] at hF
      have q10 := ((or_t h9).imp (fun h => (of_decide_eq_false (not_t h))) (fun h => h))
      refine TC.seq ?_
      refine TC.region ?_
      refine TL.op (yq (y_assign ev_c)) rfl rfl rfl ?_
      refine TL.nil ?_
      refine TN.seq ?_
      refine TC.ret ?_
      refine TN.thenR ?_
      subst hF
      exact TN.ret1 rfl (ev_t rfl) (fun w' hw => ⟨rfl, Hp.sublist hw (List.nil_sublist _)⟩)
    · rw [bif_neg h9] at hF
      have q10 := (and_imp (or_f h9) (fun h => (of_decide_eq_true (not_f h))) (fun h => h))
      refine TC.skip ?_
      refine TN.seq ?_
      refine TC.seq ?_
      refine TC.seq ?_
      refine TC.regionH 5 (Hp w [.blk g6_2 37 [r6_1.1], tabI 28 3 r6_1.1 r6_1.2 (F_laws_toMetric m), tabI 28 3 r5_1.1 r5_1.2 (F_laws_toMetric m), .blk g0_0 34 [vm]]) rfl (by kernel_rfl) dr_hp (fun w hw => hw) ?_
      refine TH.take 0 rfl (by kernel_rfl) (y_ldagg (cs := [r6_1.1]) 0 (ev_t rfl) agg_37 rfl) rfl rfl rfl ?_
      refine TH.take 1 rfl (by kernel_rfl) (y_ldagg (cs := [vm]) 3 (ev_t rfl) agg_34 rfl) rfl rfl rfl ?_
      refine TH.loud 2 rfl (by kernel_rfl) ?_
      refine TL.callr (ι := Value × List Value) (vs := [(.agg #[vm])]) (fun i => (.agg #[i.1])) (fun i => [tabI 28 3 i.1 i.2 (F_laws_toMetric m)]) en_28 ⟨(ev_t rfl), trivial⟩ rfl (fun w hw => laws_toMetric_ok w vm um m ((rii_arg hm) w hw) (by first | assumption | omega | grind) (by first | assumption | omega | grind)) (fun r10_2 => ?_)
      refine TL.nil ?_
      refine TH.back (fun w hw => Hp.sublist hw (.cons _ (.cons_cons _ (.cons_cons _ (.cons_cons _ (.cons_cons _ .slnil)))))) ?_
      refine TH.loud 3 rfl (by kernel_rfl) ?_
      refine TL.op (y_call (vs := [(.agg #[r6_1.1]), (.agg #[r10_2.1])]) (v := (.bool (F_laws_eqMetric (F_laws_toMetric m) (F_laws_toMetric m)))) en_30 ⟨(ev_t rfl), (ev_t rfl), trivial⟩ (fun w hw => laws_eqMetric_ok w r6_1.1 r6_1.2 (F_laws_toMetric m) ((rii_tab 2 rfl) w hw) r10_2.1 r10_2.2 (F_laws_toMetric m) ((rii_tab 0 rfl) w hw))) rfl rfl rfl ?_
      refine TL.nil ?_
      refine TH.back (fun w hw => Hp.sublist hw (.cons _ (.cons_cons _ (.cons_cons _ (.cons_cons _ (.cons_cons _ .slnil)))))) ?_
      refine TH.take 4 rfl (by kernel_rfl) (y_not (ev_t rfl)) rfl rfl rfl ?_
      refine TH.done (by kernel_rfl) ?_
      refine TN.seq ?_
      refine TC.cond (b := !(F_laws_eqMetric (F_laws_toMetric m) (F_laws_toMetric m))) (ev_t rfl) (fun h11 => ?_) (fun h11 => ?_)
      · rw [bif_pos h11] at hF
        have q12 := (not_t h11)
        refine TC.seq ?_
        refine TC.region ?_
        refine TL.op (yq (y_assign ev_c)) rfl rfl rfl ?_
        refine TL.nil ?_
        refine TN.seq ?_
        refine TC.ret ?_
        refine TN.thenR ?_
        subst hF
        exact TN.ret1 rfl (ev_t rfl) (fun w' hw => ⟨rfl, Hp.sublist hw (List.nil_sublist _)⟩)
      · rw [bif_neg h11] at hF
        have q12 := (not_f h11)
        refine TC.skip ?_
        refine TN.seq ?_
        refine TC.seq ?_
        refine TC.region ?_
        refine TL.op (yq (y_assign ev_c)) rfl rfl rfl ?_
        refine TL.nil ?_
        refine TN.seq ?_
        refine TC.ret ?_
        subst hF
        exact TN.ret1 rfl (ev_t rfl) (fun w' hw => ⟨rfl, Hp.sublist hw (List.nil_sublist _)⟩)

set_option maxRecDepth 4000 in
set_option maxHeartbeats 1000000 in
theorem impl_BallOf_ok (w : World) (vm : Value) (um : List Value) (m : List (List Int)) (hm : RII w vm um m) (x : Int) (r : Int)  :
    Calls Try.prog 57 ([(.agg #[vm]), (.int .i64 x), (.int .i64 r)] : List Value).toArray w (fun e w' => ∃ i : Value, e = .returned (.tuple #[i, (.bool ((F_impl_BallOf m x r).2))]) ∧ Hp w [rowI 3 i ((F_impl_BallOf m x r).1)] w') := by
  obtain ⟨rz, hF⟩ : ∃ rz, (F_impl_BallOf m x r) = rz := ⟨_, rfl⟩
  rw [hF]
  unfold F_impl_BallOf at hF
  have hlen_m := argT_len hm
  refine calls_tc Try.func57 rfl rfl rfl ?_
  change TC _ _ _ _ (Hp w []) [(0, (.agg #[vm])), (1, (.int .i64 x)), (2, (.int .i64 r))]
  refine TC.seq ?_
  refine TC.region ?_
  refine TL.box (ev_t rfl) rfl (fun g0_0 => ?_)
  refine TL.op (yq (y_assign ev_c)) rfl rfl rfl ?_
  refine TL.op (yq (y_assign ev_c)) rfl rfl rfl ?_
  refine TL.nil ?_
  refine TN.seq ?_
  refine TC.seq ?_
  refine TC.seq ?_
  refine TC.region ?_
  refine TL.op (yq (y_ldagg (cs := [vm]) 0 (ev_t rfl) agg_37 rfl)) rfl rfl rfl ?_
  refine TL.op (y_call (vs := [(.agg #[vm])]) (v := (.bool (F_impl_IsMetric m))) en_29 ⟨(ev_t rfl), trivial⟩ (fun w hw => impl_IsMetric_ok w vm um m ((rii_arg hm) w hw))) rfl rfl rfl ?_
  refine TL.op (yq (y_not (ev_t rfl))) rfl rfl rfl ?_
  refine TL.op (yq (y_move (ev_t rfl))) rfl rfl rfl ?_
  refine TL.opw (w_f rfl rfl rfl) (fun hg => yq (y_ldagg (cs := [vm]) 0 (ev_t rfl) agg_37 rfl)) rfl rfl ?_
  refine TL.opw (w_f rfl rfl rfl) (fun hg => yq (y_move (ev_t rfl))) rfl rfl ?_
  refine TL.opw (w_f rfl rfl rfl) (fun hg => y_call (vs := [(.agg #[vm]), (.int .i64 x)]) (v := (.bool ((decide (0 ≤ x)) && (decide (x ≤ ((m.length : Int) - 1)))))) en_98 ⟨(ev_g rfl hg), (ev_g rfl hg), trivial⟩ (fun w hw => impl_Metric_isPoint_ok w vm um m ((rii_arg hm) w hw) x)) rfl rfl ?_
  refine TL.opw (w_f rfl rfl rfl) (fun hg => yq (y_not (ev_g rfl hg))) rfl rfl ?_
  refine TL.op (yq (y_or (ev_t rfl) (fun hq => (ev_g rfl hq)))) rfl rfl rfl ?_
  refine TL.nil ?_
  refine TN.seq ?_
  refine TC.cond (b := ((!(F_impl_IsMetric m)) || (!((decide (0 ≤ x)) && (decide (x ≤ ((m.length : Int) - 1))))))) (ev_t rfl) (fun h15 => ?_) (fun h15 => ?_)
  · rw [bif_pos h15] at hF
    have q16 := ((or_t h15).imp (fun h => (not_t h)) (fun h => ((and_f (not_t h)).imp (fun h => (of_decide_eq_false h)) (fun h => (of_decide_eq_false h)))))
    refine TC.seq ?_
    refine TC.region ?_
    refine TL.op (yq (y_assign ev_c)) rfl rfl rfl ?_
    refine TL.op (yq (y_assign ev_c)) rfl rfl rfl ?_
    refine TL.nil ?_
    refine TN.seq ?_
    refine TC.ret ?_
    refine TN.thenR ?_
    subst hF
    refine TN.cls (fun w hw => hw.nil 3 1) ?_
    exact TN.ret2 rfl (ev_t rfl) (ev_t rfl) (fun w' hw => ⟨(.slice none 0 0), rfl, Hp.sublist hw (.cons_cons _ (.cons _ .slnil))⟩)
  · rw [bif_neg h15] at hF
    have q16 := (and_imp (or_f h15) (fun h => (isMetric_t (not_f h))) (fun h => (and_imp (and_t (not_f h)) (fun h => (of_decide_eq_true h)) (fun h => (of_decide_eq_true h)))))
    have hT := q16.1
    have hrw := hT.rows x.toNat
    have hn6 := hT.n6
    refine TC.skip ?_
    refine TN.seq ?_
    refine TC.seq ?_
    refine TC.region ?_
    refine TL.buildI (zs := []) (qs := []) slT_28 rfl trivial rfl (by decide) rfl (fun v3_0 => ?_)
    refine TL.op (yq (y_assign (ev_t rfl))) rfl rfl rfl ?_
    refine TL.nil ?_
    refine TN.seq ?_
    refine TC.seq ?_
    refine TC.seq ?_
    refine TC.region ?_
    refine TL.op (yq (y_fa (fa_37_0 g0_0) (ev_t rfl))) rfl rfl rfl ?_
    refine TL.op (yq (y_ldb 1 (ev_t rfl) one_22 rfl rfl)) rfl rfl rfl ?_
    refine TL.op (yq (y_move (ev_t rfl))) rfl rfl rfl ?_
    have hb18 : (x).toNat < m.length := (by first | omega | (simp only [List.length_set, List.length_append, List.length_cons, List.length_nil, List.length_replicate]; omega))
    refine TL.op (yq (y_idx (k := (x).toNat) (ev_t rfl) (ev_t rfl) (by omega) slT_22 (fun w hw => ((rii_arg hm) w hw).1) hb18)) rfl rfl rfl ?_
    have ha19 := hm.row (i := (x).toNat) hb18
    refine TL.op (yq (y_ldA (ev_t rfl) one_28 (rii_arg hm) hb18)) rfl rfl rfl ?_
    refine TL.op (yq (y_len (ev_t rfl) Try.underlying28 (fun w hw => ((ri_arg ha19) w hw).ln))) rfl rfl rfl ?_
    refine TL.op (yq (y_move ev_c)) rfl rfl rfl ?_
    refine TL.nil ?_
    refine TN.seq ?_
    refine TC.block ?_
    obtain ⟨c20, hc21⟩ : ∃ c, F_impl_BallOf_L1 m x r ((((m.getD ((x).toNat) []).length) - 0) + 1) (([] : List Int), 0) = c := ⟨_, rfl⟩
    rw [hc21] at hF
    refine TC.loop (ι := Nat × List Int × Nat × Value) (fun (fu1, out1, k27_1, vout1) => [(2, (.int .i64 r)), (8, vout1), (25, (um.getD ((x).toNat) undef)), (26, (.int .i64 ((m.getD ((x).toNat) []).length : Int))), (27, (.int .i64 (k27_1 : Int)))]) (fun (fu1, out1, k27_1, vout1) => Hp w [rowI 3 vout1 out1]) (fun (fu1, out1, k27_1, vout1) => (k27_1 ≤ ((m.getD ((x).toNat) []).length)) ∧ (out1.length ≤ k27_1) ∧ ((m.getD ((x).toNat) []).length) - k27_1 < fu1 ∧ F_impl_BallOf_L1 m x r fu1 (out1, k27_1) = c20) (fun (fu1, out1, k27_1, vout1) => fu1) ((((m.getD ((x).toNat) []).length) - 0) + 1, ([] : List Int), 0, v3_0) ⟨(by first | omega | (simp [-List.getD_eq_getElem?_getD] <;> omega)), (by first | omega | (simp [-List.getD_eq_getElem?_getD] <;> omega)), (by omega), hc21⟩ ⟨rfl, rfl, rfl, rfl, rfl, trivial⟩ (fun w hw => Hp.sublist hw (.cons_cons _ (.cons _ .slnil))) ?_
    rintro ⟨fu1, out1, k27_1, vout1⟩ hJ1
    obtain ⟨hi1_0, hi1_1, hmu1, hL1⟩ : (k27_1 ≤ ((m.getD ((x).toNat) []).length)) ∧ (out1.length ≤ k27_1) ∧ ((m.getD ((x).toNat) []).length) - k27_1 < fu1 ∧ F_impl_BallOf_L1 m x r fu1 (out1, k27_1) = c20 := hJ1
    change TC _ _ _ _ (Hp w [rowI 3 vout1 out1]) [(2, (.int .i64 r)), (8, vout1), (25, (um.getD ((x).toNat) undef)), (26, (.int .i64 ((m.getD ((x).toNat) []).length : Int))), (27, (.int .i64 (k27_1 : Int)))]
    obtain ⟨mf1, rfl⟩ : ∃ m, fu1 = m + 1 := ⟨fu1 - 1, by omega⟩
    rw [F_impl_BallOf_L1_s] at hL1
    refine TC.seq ?_
    refine TC.region ?_
    refine TL.op (yq (y_lss (ev_t rfl) (ev_t rfl))) rfl rfl rfl ?_
    refine TL.nil ?_
    refine TN.seq ?_
    refine TC.seq ?_
    refine TC.cond (b := decide ((k27_1 : Int) < ((m.getD ((x).toNat) []).length : Int))) (ev_t rfl) (fun h22 => ?_) (fun h22 => ?_)
    · rw [bif_pos h22] at hL1
      have q23 := (of_decide_eq_true h22)
      refine TC.skip ?_
      refine TN.seq ?_
      refine TC.seq ?_
      refine TC.block ?_
      refine TC.seq ?_
      refine TC.region ?_
      refine TL.op (yq (y_move (ev_t rfl))) rfl rfl rfl ?_
      have hb24 : k27_1 < (m.getD ((x).toNat) []).length := (by first | omega | (simp only [List.length_set, List.length_append, List.length_cons, List.length_nil, List.length_replicate]; omega))
      refine TL.op (yq (y_idx (k := k27_1) (ev_t rfl) (ev_t rfl) (by omega) slT_28 (ri_arg ha19) hb24)) rfl rfl rfl ?_
      refine TL.op (yq (y_ldi (ev_t rfl) one_3 (ri_arg ha19) hb24)) rfl rfl rfl ?_
      refine TL.op (yq (y_assign (ev_t rfl))) rfl rfl rfl ?_
      refine TL.op (yq (y_assign (ev_t rfl))) rfl rfl rfl ?_
      refine TL.nil ?_
      refine TN.seq ?_
      refine TC.seq ?_
      refine TC.region ?_
      refine TL.op (yq (y_move (ev_t rfl))) rfl rfl rfl ?_
      refine TL.op (yq (y_move (ev_t rfl))) rfl rfl rfl ?_
      refine TL.op (yq (y_leq (ev_t rfl) (ev_t rfl))) rfl rfl rfl ?_
      refine TL.nil ?_
      refine TN.seq ?_
      refine TC.cond (b := decide (((m.getD ((x).toNat) []).getD k27_1 0) ≤ r)) (ev_t rfl) (fun h25 => ?_) (fun h25 => ?_)
      · rw [bif_pos h25] at hL1
        have q26 := (of_decide_eq_true h25)
        refine TC.region ?_
        refine TL.op (yq (y_move (ev_t rfl))) rfl rfl rfl ?_
        refine TL.op (yq (y_move (ev_t rfl))) rfl rfl rfl ?_
        refine TL.buildI (zs := [.tmp 36]) (qs := [(k27_1 : Int)]) slT_28 rfl ⟨(ev_t rfl), trivial⟩ rfl (by decide) rfl (fun v8_2 => ?_)
        refine TL.appendI 1 (ev_t rfl) (ev_t rfl) rfl slT_28 (ri_row 0 rfl) (by first | omega | (simp [-List.getD_eq_getElem?_getD] <;> omega)) rfl (fun v8_3 => ?_)
        refine TL.op (yq (y_assign (ev_t rfl))) rfl rfl rfl ?_
        refine TL.nil ?_
        refine TN.blockN ?_
        refine TN.seq ?_
        refine TC.region ?_
        refine TL.op (yq (y_add (ev_t rfl) ev_c (by unfold In64; omega))) rfl rfl rfl ?_
        refine TL.op (yq (y_move (ev_t rfl))) rfl rfl rfl ?_
        refine TL.nil ?_
        exact TN.hand (mf1, (out1 ++ ([(k27_1 : Int)])), (k27_1 + 1), v8_3) ⟨(by first | omega | (simp [-List.getD_eq_getElem?_getD] <;> omega)), (by first | omega | (simp [-List.getD_eq_getElem?_getD] <;> omega)), (by omega), hL1⟩ (Nat.lt_succ_self _) ⟨rfl, rfl, rfl, rfl, rfl, trivial⟩ (fun w hw => Hp.sublist hw (.cons _ (.cons_cons _ .slnil)))
      · rw [bif_neg h25] at hL1
        have q26 := (of_decide_eq_false h25)
        refine TC.skip ?_
        refine TN.blockN ?_
        refine TN.seq ?_
        refine TC.region ?_
        refine TL.op (yq (y_add (ev_t rfl) ev_c (by unfold In64; omega))) rfl rfl rfl ?_
        refine TL.op (yq (y_move (ev_t rfl))) rfl rfl rfl ?_
        refine TL.nil ?_
        exact TN.hand (mf1, out1, (k27_1 + 1), vout1) ⟨(by first | omega | (simp [-List.getD_eq_getElem?_getD] <;> omega)), (by first | omega | (simp [-List.getD_eq_getElem?_getD] <;> omega)), (by omega), hL1⟩ (Nat.lt_succ_self _) ⟨rfl, rfl, rfl, rfl, rfl, trivial⟩ (fun w hw => hw)
    · rw [bif_neg h22] at hL1
      have q23 := (of_decide_eq_false h22)
      refine TC.exit ?_
      refine TN.thenE ?_
      refine TN.thenE ?_
      rw [← hL1, elim_next] at hF
      try dsimp only at hF
      refine TN.blockH ?_
      refine TN.seq ?_
      refine TC.seq ?_
      refine TC.region ?_
      refine TL.op (yq (y_move (ev_t rfl))) rfl rfl rfl ?_
      refine TL.op (yq (y_assign (ev_t rfl))) rfl rfl rfl ?_
      refine TL.op (yq (y_assign ev_c)) rfl rfl rfl ?_
      refine TL.nil ?_
      refine TN.seq ?_
      refine TC.ret ?_
      subst hF
      exact TN.ret2 rfl (ev_t rfl) (ev_t rfl) (fun w' hw => ⟨vout1, rfl, hw⟩)

set_option maxRecDepth 4000 in
set_option maxHeartbeats 1000000 in
theorem spec_BallOf_ok (w : World) (vm : Value) (um : List Value) (m : List (List Int)) (hm : RII w vm um m) (x : Int) (r : Int)  :
    Calls Try.prog 56 ([(.agg #[vm]), (.int .i64 x), (.int .i64 r)] : List Value).toArray w (fun e w' => ∃ i : Value, e = .returned (.tuple #[i, (.bool ((F_spec_BallOf m x r).2))]) ∧ Hp w [rowI 3 i ((F_spec_BallOf m x r).1)] w') := by
  obtain ⟨rz, hF⟩ : ∃ rz, (F_spec_BallOf m x r) = rz := ⟨_, rfl⟩
  rw [hF]
  unfold F_spec_BallOf at hF
  have hlen_m := argT_len hm
  refine calls_tc Try.func56 rfl rfl rfl ?_
  change TC _ _ _ _ (Hp w []) [(0, (.agg #[vm])), (1, (.int .i64 x)), (2, (.int .i64 r))]
  refine TC.seq ?_
  refine TC.region ?_
  refine TL.box (ev_t rfl) rfl (fun g0_0 => ?_)
  refine TL.op (yq (y_assign ev_c)) rfl rfl rfl ?_
  refine TL.op (yq (y_assign ev_c)) rfl rfl rfl ?_
  refine TL.nil ?_
  refine TN.seq ?_
  refine TC.seq ?_
  refine TC.region ?_
  refine TL.buildI (zs := []) (qs := []) slT_28 rfl trivial rfl (by decide) rfl (fun v1_0 => ?_)
  refine TL.op (yq (y_assign (ev_t rfl))) rfl rfl rfl ?_
  refine TL.nil ?_
  refine TN.seq ?_
  refine TC.seq ?_
  refine TC.seq ?_
  refine TC.region ?_
  refine TL.op (yq (y_ldagg (cs := [vm]) 1 (ev_t rfl) agg_37 rfl)) rfl rfl rfl ?_
  refine TL.op (y_call (vs := [(.agg #[vm])]) (v := (.bool (F_spec_l6Good m))) en_69 ⟨(ev_t rfl), trivial⟩ (fun w hw => spec_l6Good_ok w vm um m ((rii_arg hm) w hw))) rfl rfl rfl ?_
  refine TL.op (yq (y_not (ev_t rfl))) rfl rfl rfl ?_
  refine TL.op (yq (y_move (ev_t rfl))) rfl rfl rfl ?_
  refine TL.opw (w_f rfl rfl rfl) (fun hg => yq (y_move (ev_t rfl))) rfl rfl ?_
  refine TL.opw (w_f rfl rfl rfl) (fun hg => yq (y_fa (fa_37_0 g0_0) (ev_t rfl))) rfl rfl ?_
  refine TL.opw (w_f rfl rfl rfl) (fun hg => yq (y_ldb 1 (ev_g rfl hg) one_22 rfl rfl)) rfl rfl ?_
  refine TL.opw (w_f rfl rfl rfl) (fun hg => yq (y_len (ev_g rfl hg) Try.underlying22 (fun w hw => ((fun w hw => ((rii_arg hm) w hw).1) w hw).ln))) rfl rfl ?_
  refine TL.opw (w_f rfl rfl rfl) (fun hg => yq (y_sub (ev_g rfl hg) ev_c (by unfold In64; omega))) rfl rfl ?_
  refine TL.opw (w_f rfl rfl rfl) (fun hg => y_call (vs := [(.int .i64 x), (.int .i64 0), (.int .i64 ((m.length : Int) - 1))]) (v := (.bool ((decide (0 ≤ x)) && (decide (x ≤ ((m.length : Int) - 1)))))) en_58 ⟨(ev_g rfl hg), ev_c, (ev_g rfl hg), trivial⟩ (fun w hw => spec_l1In_ok w x 0 ((m.length : Int) - 1))) rfl rfl ?_
  refine TL.opw (w_f rfl rfl rfl) (fun hg => yq (y_not (ev_g rfl hg))) rfl rfl ?_
  refine TL.op (yq (y_or (ev_t rfl) (fun hq => (ev_g rfl hq)))) rfl rfl rfl ?_
  refine TL.nil ?_
  refine TN.seq ?_
  refine TC.cond (b := ((!(F_spec_l6Good m)) || (!((decide (0 ≤ x)) && (decide (x ≤ ((m.length : Int) - 1))))))) (ev_t rfl) (fun h17 => ?_) (fun h17 => ?_)
  · rw [bif_pos h17] at hF
    have q18 := ((or_t h17).imp (fun h => (not_t h)) (fun h => ((and_f (not_t h)).imp (fun h => (of_decide_eq_false h)) (fun h => (of_decide_eq_false h)))))
    refine TC.seq ?_
    refine TC.region ?_
    refine TL.op (yq (y_move (ev_t rfl))) rfl rfl rfl ?_
    refine TL.op (yq (y_assign (ev_t rfl))) rfl rfl rfl ?_
    refine TL.op (yq (y_assign ev_c)) rfl rfl rfl ?_
    refine TL.nil ?_
    refine TN.seq ?_
    refine TC.ret ?_
    refine TN.thenR ?_
    subst hF
    exact TN.ret2 rfl (ev_t rfl) (ev_t rfl) (fun w' hw => ⟨v1_0, rfl, Hp.sublist hw (.cons_cons _ (.cons _ .slnil))⟩)
  · rw [bif_neg h17] at hF
    have q18 := (and_imp (or_f h17) (fun h => (l6Good_t (not_f h))) (fun h => (and_imp (and_t (not_f h)) (fun h => (of_decide_eq_true h)) (fun h => (of_decide_eq_true h)))))
    have hT := q18.1
    have hrw := hT.rows x.toNat
    have hn6 := hT.n6
    refine TC.skip ?_
    refine TN.seq ?_
    refine TC.seq ?_
    refine TC.seq ?_
    refine TC.region ?_
    refine TL.op (yq (y_assign ev_c)) rfl rfl rfl ?_
    refine TL.nil ?_
    refine TN.seq ?_
    refine TC.block ?_
    obtain ⟨c19, hc20⟩ : ∃ c, F_spec_BallOf_L1 m x r ((m.length - 0) + 1) (([] : List Int), 0) = c := ⟨_, rfl⟩
    rw [hc20] at hF
    refine TC.loop (ι := Nat × List Int × Nat × Value) (fun (fu1, out1, y1, vout1) => [(1, (.int .i64 x)), (2, (.int .i64 r)), (3, (.pointer (some ⟨g0_0, 0, none⟩))), (8, vout1), (9, (.int .i64 (y1 : Int)))]) (fun (fu1, out1, y1, vout1) => Hp w [rowI 3 vout1 out1, .blk g0_0 37 [vm]]) (fun (fu1, out1, y1, vout1) => (y1 ≤ m.length) ∧ (out1.length ≤ y1) ∧ m.length - y1 < fu1 ∧ F_spec_BallOf_L1 m x r fu1 (out1, y1) = c19) (fun (fu1, out1, y1, vout1) => fu1) ((m.length - 0) + 1, ([] : List Int), 0, v1_0) ⟨(by first | omega | (simp [-List.getD_eq_getElem?_getD] <;> omega)), (by first | omega | (simp [-List.getD_eq_getElem?_getD] <;> omega)), (by omega), hc20⟩ ⟨rfl, rfl, rfl, rfl, rfl, trivial⟩ (fun w hw => hw) ?_
    rintro ⟨fu1, out1, y1, vout1⟩ hJ1
    obtain ⟨hi1_0, hi1_1, hmu1, hL1⟩ : (y1 ≤ m.length) ∧ (out1.length ≤ y1) ∧ m.length - y1 < fu1 ∧ F_spec_BallOf_L1 m x r fu1 (out1, y1) = c19 := hJ1
    change TC _ _ _ _ (Hp w [rowI 3 vout1 out1, .blk g0_0 37 [vm]]) [(1, (.int .i64 x)), (2, (.int .i64 r)), (3, (.pointer (some ⟨g0_0, 0, none⟩))), (8, vout1), (9, (.int .i64 (y1 : Int)))]
    obtain ⟨mf1, rfl⟩ : ∃ m, fu1 = m + 1 := ⟨fu1 - 1, by omega⟩
    rw [F_spec_BallOf_L1_s] at hL1
    refine TC.seq ?_
    refine TC.seq ?_
    refine TC.region ?_
    refine TL.op (yq (y_move (ev_t rfl))) rfl rfl rfl ?_
    refine TL.op (yq (y_fa (fa_37_0 g0_0) (ev_t rfl))) rfl rfl rfl ?_
    refine TL.op (yq (y_ldb 1 (ev_t rfl) one_22 rfl rfl)) rfl rfl rfl ?_
    refine TL.op (yq (y_len (ev_t rfl) Try.underlying22 (fun w hw => ((fun w hw => ((rii_arg hm) w hw).1) w hw).ln))) rfl rfl rfl ?_
    refine TL.op (yq (y_lss (ev_t rfl) (ev_t rfl))) rfl rfl rfl ?_
    refine TL.nil ?_
    refine TN.seq ?_
    refine TC.cond (b := decide ((y1 : Int) < (m.length : Int))) (ev_t rfl) (fun h21 => ?_) (fun h21 => ?_)
    · rw [bif_pos h21] at hL1
      have q22 := (of_decide_eq_true h21)
      refine TC.skip ?_
      refine TN.seq ?_
      refine TC.seq ?_
      refine TC.block ?_
      refine TC.seq ?_
      refine TC.region ?_
      refine TL.op (yq (y_fa (fa_37_0 g0_0) (ev_t rfl))) rfl rfl rfl ?_
      refine TL.op (yq (y_ldb 1 (ev_t rfl) one_22 rfl rfl)) rfl rfl rfl ?_
      refine TL.op (yq (y_move (ev_t rfl))) rfl rfl rfl ?_
      have hb23 : (x).toNat < m.length := (by first | omega | (simp only [List.length_set, List.length_append, List.length_cons, List.length_nil, List.length_replicate]; omega))
      refine TL.op (yq (y_idx (k := (x).toNat) (ev_t rfl) (ev_t rfl) (by omega) slT_22 (fun w hw => ((rii_arg hm) w hw).1) hb23)) rfl rfl rfl ?_
      have ha24 := hm.row (i := (x).toNat) hb23
      refine TL.op (yq (y_ldA (ev_t rfl) one_28 (rii_arg hm) hb23)) rfl rfl rfl ?_
      refine TL.op (yq (y_move (ev_t rfl))) rfl rfl rfl ?_
      have hb25 : y1 < (m.getD ((x).toNat) []).length := (by first | omega | (simp only [List.length_set, List.length_append, List.length_cons, List.length_nil, List.length_replicate]; omega))
      refine TL.op (yq (y_idx (k := y1) (ev_t rfl) (ev_t rfl) (by omega) slT_28 (ri_arg ha24) hb25)) rfl rfl rfl ?_
      refine TL.op (yq (y_ldi (ev_t rfl) one_3 (ri_arg ha24) hb25)) rfl rfl rfl ?_
      refine TL.op (yq (y_move (ev_t rfl))) rfl rfl rfl ?_
      refine TL.op (yq (y_leq (ev_t rfl) (ev_t rfl))) rfl rfl rfl ?_
      refine TL.nil ?_
      refine TN.seq ?_
      refine TC.cond (b := decide (((m.getD ((x).toNat) []).getD y1 0) ≤ r)) (ev_t rfl) (fun h26 => ?_) (fun h26 => ?_)
      · rw [bif_pos h26] at hL1
        have q27 := (of_decide_eq_true h26)
        refine TC.region ?_
        refine TL.op (yq (y_move (ev_t rfl))) rfl rfl rfl ?_
        refine TL.op (yq (y_move (ev_t rfl))) rfl rfl rfl ?_
        refine TL.buildI (zs := [.tmp 42]) (qs := [(y1 : Int)]) slT_28 rfl ⟨(ev_t rfl), trivial⟩ rfl (by decide) rfl (fun v8_2 => ?_)
        refine TL.appendI 1 (ev_t rfl) (ev_t rfl) rfl slT_28 (ri_row 0 rfl) (by first | omega | (simp [-List.getD_eq_getElem?_getD] <;> omega)) rfl (fun v8_3 => ?_)
        refine TL.op (yq (y_assign (ev_t rfl))) rfl rfl rfl ?_
        refine TL.nil ?_
        refine TN.blockN ?_
        refine TN.seq ?_
        refine TC.region ?_
        refine TL.op (yq (y_move (ev_t rfl))) rfl rfl rfl ?_
        refine TL.op (yq (y_add (ev_t rfl) ev_c (by unfold In64; omega))) rfl rfl rfl ?_
        refine TL.op (yq (y_assign (ev_t rfl))) rfl rfl rfl ?_
        refine TL.nil ?_
        exact TN.hand (mf1, (out1 ++ ([(y1 : Int)])), (y1 + 1), v8_3) ⟨(by first | omega | (simp [-List.getD_eq_getElem?_getD] <;> omega)), (by first | omega | (simp [-List.getD_eq_getElem?_getD] <;> omega)), (by omega), hL1⟩ (Nat.lt_succ_self _) ⟨rfl, rfl, rfl, rfl, rfl, trivial⟩ (fun w hw => Hp.sublist hw (.cons _ (.cons_cons _ (.cons_cons _ .slnil))))
      · rw [bif_neg h26] at hL1
        have q27 := (of_decide_eq_false h26)
        refine TC.skip ?_
        refine TN.blockN ?_
        refine TN.seq ?_
        refine TC.region ?_
        refine TL.op (yq (y_move (ev_t rfl))) rfl rfl rfl ?_
        refine TL.op (yq (y_add (ev_t rfl) ev_c (by unfold In64; omega))) rfl rfl rfl ?_
        refine TL.op (yq (y_assign (ev_t rfl))) rfl rfl rfl ?_
        refine TL.nil ?_
        exact TN.hand (mf1, out1, (y1 + 1), vout1) ⟨(by first | omega | (simp [-List.getD_eq_getElem?_getD] <;> omega)), (by first | omega | (simp [-List.getD_eq_getElem?_getD] <;> omega)), (by omega), hL1⟩ (Nat.lt_succ_self _) ⟨rfl, rfl, rfl, rfl, rfl, trivial⟩ (fun w hw => hw)
    · rw [bif_neg h21] at hL1
      have q22 := (of_decide_eq_false h21)
      refine TC.exit ?_
      refine TN.thenE ?_
      refine TN.thenE ?_
      rw [← hL1, elim_next] at hF
      try dsimp only at hF
      refine TN.blockH ?_
      refine TN.seq ?_
      refine TC.seq ?_
      refine TC.region ?_
      refine TL.op (yq (y_move (ev_t rfl))) rfl rfl rfl ?_
      refine TL.op (yq (y_assign (ev_t rfl))) rfl rfl rfl ?_
      refine TL.op (yq (y_assign ev_c)) rfl rfl rfl ?_
      refine TL.nil ?_
      refine TN.seq ?_
      refine TC.ret ?_
      subst hF
      exact TN.ret2 rfl (ev_t rfl) (ev_t rfl) (fun w' hw => ⟨vout1, rfl, Hp.sublist hw (.cons_cons _ (.cons _ .slnil))⟩)

set_option maxRecDepth 4000 in
set_option maxHeartbeats 1000000 in
theorem laws_FnExactBallOf_ok (w : World) (vm : Value) (um : List Value) (m : List (List Int)) (hm : RII w vm um m) (x : Int) (r : Int)  :
    Calls Try.prog 14 ([(.agg #[vm]), (.int .i64 x), (.int .i64 r)] : List Value).toArray w (Ret (.bool (F_laws_FnExactBallOf m x r)) (Hp w [])) := by
  obtain ⟨rz, hF⟩ : ∃ rz, (F_laws_FnExactBallOf m x r) = rz := ⟨_, rfl⟩
  rw [hF]
  unfold F_laws_FnExactBallOf at hF
  have hbl := ball_len (F_laws_toMetric m) x r
  have hml := markIntS_len (F_impl_BallOf (F_laws_toMetric m) x r).1 1
  have hlen_m := argT_len hm
  refine calls_tc Try.func14 rfl rfl rfl ?_
  change TC _ _ _ _ (Hp w []) [(0, (.agg #[vm])), (1, (.int .i64 x)), (2, (.int .i64 r))]
  refine TC.seq ?_
  refine TC.region ?_
  refine TL.box (ev_t rfl) rfl (fun g0_0 => ?_)
  refine TL.op (yq (y_assign ev_c)) rfl rfl rfl ?_
  refine TL.nil ?_
  refine TN.seq ?_
  refine TC.seq ?_
  refine TC.region ?_
  refine TL.op (yq (y_assign ev_c)) rfl rfl rfl ?_
  refine TL.nil ?_
  refine TN.seq ?_
  refine TC.seq ?_
  refine TC.region ?_
  refine TL.op (yq (y_ldagg (cs := [vm]) 0 (ev_t rfl) agg_34 rfl)) rfl rfl rfl ?_
  refine TL.op (yq (y_move (ev_t rfl))) rfl rfl rfl ?_
  refine TL.op (y_call (vs := [(.agg #[vm]), (.int .i64 1048576)]) (v := (.int .i64 (F_laws_szMetric m 1048576))) en_26 ⟨(ev_t rfl), (ev_t rfl), trivial⟩ (fun w hw => laws_szMetric_ok w vm um m ((rii_arg hm) w hw) 1048576 (by first | assumption | omega | grind) (by first | assumption | omega | grind))) rfl rfl rfl ?_
  refine TL.op (yq (y_assign (ev_t rfl))) rfl rfl rfl ?_
  refine TL.nil ?_
  refine TN.seq ?_
  refine TC.seq ?_
  refine TC.seq ?_
  refine TC.region ?_
  refine TL.op (yq (y_move (ev_t rfl))) rfl rfl rfl ?_
  refine TL.op (yq (y_lss (ev_t rfl) ev_c)) rfl rfl rfl ?_
  refine TL.nil ?_
  refine TN.seq ?_
  refine TC.cond (b := decide ((F_laws_szMetric m 1048576) < 0)) (ev_t rfl) (fun h19 => ?_) (fun h19 => ?_)
  · rw [bif_pos h19] at hF
    have q20 := (of_decide_eq_true h19)
    refine TC.seq ?_
    refine TC.region ?_
    refine TL.op (yq (y_assign ev_c)) rfl rfl rfl ?_
    refine TL.nil ?_
    refine TN.seq ?_
    refine TC.ret ?_
    refine TN.thenR ?_
    subst hF
    exact TN.ret1 rfl (ev_t rfl) (fun w' hw => ⟨rfl, Hp.sublist hw (List.nil_sublist _)⟩)
  · rw [bif_neg h19] at hF
    have q20 := (of_decide_eq_false h19)
    have hsz := szMetric_t (m := m) (left := 1048576) (by omega)
    have hsz1 : ∀ i, (m.getD i []).length ≤ 1048576 := fun i => by have := hsz.2 i; omega
    have hsz2 : m.length + total m ≤ 1048576 := by have := hsz.1; omega
    have htm := toMetric_eq m
    refine TC.skip ?_
    refine TN.seq ?_
    refine TC.seq ?_
    refine TC.region ?_
    refine TL.op (yq (y_ldagg (cs := [vm]) 0 (ev_t rfl) agg_34 rfl)) rfl rfl rfl ?_
    refine TL.callr (ι := Value × List Value) (vs := [(.agg #[vm])]) (fun i => (.agg #[i.1])) (fun i => [tabI 28 3 i.1 i.2 (F_laws_toMetric m)]) en_28 ⟨(ev_t rfl), trivial⟩ rfl (fun w hw => laws_toMetric_ok w vm um m ((rii_arg hm) w hw) (by first | assumption | omega | grind) (by first | assumption | omega | grind)) (fun r5_1 => ?_)
    refine TL.op (yq (y_move (ev_t rfl))) rfl rfl rfl ?_
    refine TL.op (yq (y_move (ev_t rfl))) rfl rfl rfl ?_
    refine TL.callr (ι := Value) (vs := [(.agg #[r5_1.1]), (.int .i64 x), (.int .i64 r)]) (fun i => (.tuple #[i, (.bool ((F_spec_BallOf (F_laws_toMetric m) x r).2))])) (fun i => [rowI 3 i ((F_spec_BallOf (F_laws_toMetric m) x r).1)]) en_56 ⟨(ev_t rfl), (ev_t rfl), (ev_t rfl), trivial⟩ rfl (fun w hw => spec_BallOf_ok w r5_1.1 r5_1.2 (F_laws_toMetric m) ((rii_tab 0 rfl) w hw) x r) (fun r5_4 => ?_)
    refine TL.op (yq (y_move (ev_t rfl))) rfl rfl rfl ?_
    refine TL.op (yq (y_extract (ev_t rfl) rfl)) rfl rfl rfl ?_
    refine TL.op (yq (y_extract (ev_t rfl) rfl)) rfl rfl rfl ?_
    refine TL.op (yq (y_assign (ev_t rfl))) rfl rfl rfl ?_
    refine TL.op (yq (y_assign (ev_t rfl))) rfl rfl rfl ?_
    refine TL.nil ?_
    refine TN.seq ?_
    refine TC.seq ?_
    refine TC.region ?_
    refine TL.op (yq (y_ldagg (cs := [vm]) 2 (ev_t rfl) agg_34 rfl)) rfl rfl rfl ?_
    refine TL.callr (ι := Value × List Value) (vs := [(.agg #[vm])]) (fun i => (.agg #[i.1])) (fun i => [tabI 28 3 i.1 i.2 (F_laws_toMetric m)]) en_28 ⟨(ev_t rfl), trivial⟩ rfl (fun w hw => laws_toMetric_ok w vm um m ((rii_arg hm) w hw) (by first | assumption | omega | grind) (by first | assumption | omega | grind)) (fun r6_1 => ?_)
    refine TL.alloc (u := (.agg #[(.slice none 0 0)])) (by kernel_rfl) rfl (fun g6_2 => ?_)
    refine TL.storeAgg (cs := [(.slice none 0 0)]) (us := [r6_1.1]) 0 (ev_t rfl) (ev_t rfl) agg_37 rfl rfl (fun w hw => (ocs_cons (ln_one ((fun w hw => ((rii_tab 1 rfl) w hw).1) w hw).ln) ocs_nil)) ?_
    refine TL.nil ?_
    refine TN.seq ?_
    refine TC.seq ?_
    refine TC.region ?_
    refine TL.op (yq (y_ldagg (cs := [r6_1.1]) 0 (ev_t rfl) agg_37 rfl)) rfl rfl rfl ?_
    refine TL.op (yq (y_move (ev_t rfl))) rfl rfl rfl ?_
    refine TL.op (yq (y_move (ev_t rfl))) rfl rfl rfl ?_
    refine TL.callr (ι := Value) (vs := [(.agg #[r6_1.1]), (.int .i64 x), (.int .i64 r)]) (fun i => (.tuple #[i, (.bool ((F_impl_BallOf (F_laws_toMetric m) x r).2))])) (fun i => [rowI 3 i ((F_impl_BallOf (F_laws_toMetric m) x r).1)]) en_57 ⟨(ev_t rfl), (ev_t rfl), (ev_t rfl), trivial⟩ rfl (fun w hw => impl_BallOf_ok w r6_1.1 r6_1.2 (F_laws_toMetric m) ((rii_tab 1 rfl) w hw) x r) (fun r7_3 => ?_)
    refine TL.op (yq (y_move (ev_t rfl))) rfl rfl rfl ?_
    refine TL.op (yq (y_extract (ev_t rfl) rfl)) rfl rfl rfl ?_
    refine TL.op (yq (y_extract (ev_t rfl) rfl)) rfl rfl rfl ?_
    refine TL.op (yq (y_assign (ev_t rfl))) rfl rfl rfl ?_
    refine TL.op (yq (y_assign (ev_t rfl))) rfl rfl rfl ?_
    refine TL.nil ?_
    refine TN.seq ?_
    refine TC.seq ?_
    refine TC.seq ?_
    refine TC.region ?_
    refine TL.op (yq (y_move (ev_t rfl))) rfl rfl rfl ?_
    refine TL.op (yq (y_move (ev_t rfl))) rfl rfl rfl ?_
    refine TL.op (y_call (vs := [r7_3, r5_4]) (v := (.bool (F_laws_eqIntS ((F_impl_BallOf (F_laws_toMetric m) x r).1) ((F_spec_BallOf (F_laws_toMetric m) x r).1)))) en_23 ⟨(ev_t rfl), (ev_t rfl), trivial⟩ (fun w hw => laws_eqIntS_ok w r7_3 ((F_impl_BallOf (F_laws_toMetric m) x r).1) ((ri_row 0 rfl) w hw) r5_4 ((F_spec_BallOf (F_laws_toMetric m) x r).1) ((ri_row 3 rfl) w hw))) rfl rfl rfl ?_
    refine TL.op (yq (y_not (ev_t rfl))) rfl rfl rfl ?_
    refine TL.op (yq (y_move (ev_t rfl))) rfl rfl rfl ?_
    refine TL.opw (w_f rfl rfl rfl) (fun hg => yq (y_move (ev_t rfl))) rfl rfl ?_
    refine TL.opw (w_f rfl rfl rfl) (fun hg => yq (y_move (ev_t rfl))) rfl rfl ?_
    refine TL.opw (w_f rfl rfl rfl) (fun hg => yq (y_bneq (ev_g rfl hg) (ev_g rfl hg) Try.underlying4)) rfl rfl ?_
    refine TL.op (yq (y_or (ev_t rfl) (fun hq => (ev_g rfl hq)))) rfl rfl rfl ?_
    refine TL.nil ?_
    refine TN.seq ?_
    refine TC.cond (b := ((!(F_laws_eqIntS ((F_impl_BallOf (F_laws_toMetric m) x r).1) ((F_spec_BallOf (F_laws_toMetric m) x r).1))) || (((F_impl_BallOf (F_laws_toMetric m) x r).2) != ((F_spec_BallOf (F_laws_toMetric m) x r).2)))) (ev_t rfl) (fun h21 => ?_) (fun h21 => ?_)
    · rw [bif_pos h21] at hF
      have q22 := ((or_t h21).imp (fun h => (not_t h)) (fun h => h))
      refine TC.seq ?_
      refine TC.region ?_
      refine TL.op (yq (y_assign ev_c)) rfl rfl rfl ?_
      refine TL.nil ?_
      refine TN.seq ?_
      refine TC.ret ?_
      refine TN.thenR ?_
      subst hF
      exact TN.ret1 rfl (ev_t rfl) (fun w' hw => ⟨rfl, Hp.sublist hw (List.nil_sublist _)⟩)
    · rw [bif_neg h21] at hF
      have q22 := (and_imp (or_f h21) (fun h => (not_f h)) (fun h => h))
      refine TC.skip ?_
      refine TN.seq ?_
      refine TC.seq ?_
      refine TC.seq ?_
      refine TC.regionH 5 (Hp w [rowI 3 r7_3 ((F_impl_BallOf (F_laws_toMetric m) x r).1), .blk g6_2 37 [r6_1.1], tabI 28 3 r6_1.1 r6_1.2 (F_laws_toMetric m), rowI 3 r5_4 ((F_spec_BallOf (F_laws_toMetric m) x r).1), tabI 28 3 r5_1.1 r5_1.2 (F_laws_toMetric m), .blk g0_0 34 [vm]]) rfl (by kernel_rfl) dr_hp (fun w hw => hw) ?_
      refine TH.take 0 rfl (by kernel_rfl) (y_ldagg (cs := [r6_1.1]) 1 (ev_t rfl) agg_37 rfl) rfl rfl rfl ?_
      refine TH.take 1 rfl (by kernel_rfl) (y_ldagg (cs := [vm]) 5 (ev_t rfl) agg_34 rfl) rfl rfl rfl ?_
      refine TH.loud 2 rfl (by kernel_rfl) ?_
      refine TL.callr (ι := Value × List Value) (vs := [(.agg #[vm])]) (fun i => (.agg #[i.1])) (fun i => [tabI 28 3 i.1 i.2 (F_laws_toMetric m)]) en_28 ⟨(ev_t rfl), trivial⟩ rfl (fun w hw => laws_toMetric_ok w vm um m ((rii_arg hm) w hw) (by first | assumption | omega | grind) (by first | assumption | omega | grind)) (fun r10_2 => ?_)
      refine TL.nil ?_
      refine TH.back (fun w hw => Hp.sublist hw (.cons _ (.cons_cons _ (.cons_cons _ (.cons_cons _ (.cons_cons _ (.cons_cons _ (.cons_cons _ .slnil)))))))) ?_
      refine TH.loud 3 rfl (by kernel_rfl) ?_
      refine TL.op (y_call (vs := [(.agg #[r6_1.1]), (.agg #[r10_2.1])]) (v := (.bool (F_laws_eqMetric (F_laws_toMetric m) (F_laws_toMetric m)))) en_30 ⟨(ev_t rfl), (ev_t rfl), trivial⟩ (fun w hw => laws_eqMetric_ok w r6_1.1 r6_1.2 (F_laws_toMetric m) ((rii_tab 3 rfl) w hw) r10_2.1 r10_2.2 (F_laws_toMetric m) ((rii_tab 0 rfl) w hw))) rfl rfl rfl ?_
      refine TL.nil ?_
      refine TH.back (fun w hw => Hp.sublist hw (.cons _ (.cons_cons _ (.cons_cons _ (.cons_cons _ (.cons_cons _ (.cons_cons _ (.cons_cons _ .slnil)))))))) ?_
      refine TH.take 4 rfl (by kernel_rfl) (y_not (ev_t rfl)) rfl rfl rfl ?_
      refine TH.done (by kernel_rfl) ?_
      refine TN.seq ?_
      refine TC.cond (b := !(F_laws_eqMetric (F_laws_toMetric m) (F_laws_toMetric m))) (ev_t rfl) (fun h23 => ?_) (fun h23 => ?_)
      · rw [bif_pos h23] at hF
        have q24 := (not_t h23)
        refine TC.seq ?_
        refine TC.region ?_
        refine TL.op (yq (y_assign ev_c)) rfl rfl rfl ?_
        refine TL.nil ?_
        refine TN.seq ?_
        refine TC.ret ?_
        refine TN.thenR ?_
        subst hF
        exact TN.ret1 rfl (ev_t rfl) (fun w' hw => ⟨rfl, Hp.sublist hw (List.nil_sublist _)⟩)
      · rw [bif_neg h23] at hF
        have q24 := (not_f h23)
        refine TC.skip ?_
        refine TN.seq ?_
        refine TC.seq ?_
        refine TC.region ?_
        refine TL.op (yq (y_assign ev_c)) rfl rfl rfl ?_
        refine TL.nil ?_
        refine TN.seq ?_
        refine TC.seq ?_
        refine TC.region ?_
        refine TL.op (yq (y_ldagg (cs := [r6_1.1]) 2 (ev_t rfl) agg_37 rfl)) rfl rfl rfl ?_
        refine TL.op (yq (y_move (ev_t rfl))) rfl rfl rfl ?_
        refine TL.callm (ι := Unit) 3 (vs := [(.agg #[r6_1.1]), (.int .i64 1)]) (fun _ => (.int .i64 ((F_laws_markMetric (F_laws_toMetric m) 1).1))) (fun _ => tabI 28 3 r6_1.1 r6_1.2 ((F_laws_markMetric (F_laws_toMetric m) 1).2)) en_33 ⟨(ev_t rfl), (ev_t rfl), trivial⟩ rfl rfl (fun w1 fr1 hw => laws_markMetric_ok w w1 fr1 r6_1.1 r6_1.2 (F_laws_toMetric m) hw 1 (by first | assumption | omega | grind) (by first | assumption | omega | grind)) (fun _ => ?_)
        refine TL.op (yq (y_assign (ev_t rfl))) rfl rfl rfl ?_
        refine TL.nil ?_
        refine TN.seq ?_
        refine TC.seq ?_
        refine TC.seq ?_
        refine TC.region ?_
        refine TL.op (yq (y_move (ev_t rfl))) rfl rfl rfl ?_
        refine TL.op (yq (y_lss (ev_t rfl) ev_c)) rfl rfl rfl ?_
        refine TL.op (yq (y_move (ev_t rfl))) rfl rfl rfl ?_
        refine TL.opw (w_f rfl rfl rfl) (fun hg => yq (y_move (ev_t rfl))) rfl rfl ?_
        refine TL.opw (w_f rfl rfl rfl) (fun hg => yq (y_move (ev_t rfl))) rfl rfl ?_
        refine TL.opw (w_f rfl rfl rfl) (fun hg => y_call (vs := [r7_3, r5_4]) (v := (.bool (F_laws_eqIntS ((F_impl_BallOf (F_laws_toMetric m) x r).1) ((F_spec_BallOf (F_laws_toMetric m) x r).1)))) en_23 ⟨(ev_g rfl hg), (ev_g rfl hg), trivial⟩ (fun w hw => laws_eqIntS_ok w r7_3 ((F_impl_BallOf (F_laws_toMetric m) x r).1) ((ri_row 1 rfl) w hw) r5_4 ((F_spec_BallOf (F_laws_toMetric m) x r).1) ((ri_row 4 rfl) w hw))) rfl rfl ?_
        refine TL.opw (w_f rfl rfl rfl) (fun hg => yq (y_not (ev_g rfl hg))) rfl rfl ?_
        refine TL.op (yq (y_or (ev_t rfl) (fun hq => (ev_g rfl hq)))) rfl rfl rfl ?_
        refine TL.op (yq (y_move (ev_t rfl))) rfl rfl rfl ?_
        refine TL.opw (w_f rfl rfl rfl) (fun hg => yq (y_move (ev_t rfl))) rfl rfl ?_
        refine TL.opw (w_f rfl rfl rfl) (fun hg => yq (y_move (ev_t rfl))) rfl rfl ?_
        refine TL.opw (w_f rfl rfl rfl) (fun hg => yq (y_bneq (ev_g rfl hg) (ev_g rfl hg) Try.underlying4)) rfl rfl ?_
        refine TL.op (yq (y_or (ev_t rfl) (fun hq => (ev_g rfl hq)))) rfl rfl rfl ?_
        refine TL.nil ?_
        refine TN.seq ?_
        refine TC.cond (b := (((decide ((F_laws_markMetric (F_laws_toMetric m) 1).1 < 0)) || (!(F_laws_eqIntS ((F_impl_BallOf (F_laws_toMetric m) x r).1) ((F_spec_BallOf (F_laws_toMetric m) x r).1)))) || (((F_impl_BallOf (F_laws_toMetric m) x r).2) != ((F_spec_BallOf (F_laws_toMetric m) x r).2)))) (ev_t rfl) (fun h25 => ?_) (fun h25 => ?_)
        · rw [bif_pos h25] at hF
          have q26 := ((or_t h25).imp (fun h => ((or_t h).imp (fun h => (of_decide_eq_true h)) (fun h => (not_t h)))) (fun h => h))
          refine TC.seq ?_
          refine TC.region ?_
          refine TL.op (yq (y_assign ev_c)) rfl rfl rfl ?_
          refine TL.nil ?_
          refine TN.seq ?_
          refine TC.ret ?_
          refine TN.thenR ?_
          subst hF
          exact TN.ret1 rfl (ev_t rfl) (fun w' hw => ⟨rfl, Hp.sublist hw (List.nil_sublist _)⟩)
        · rw [bif_neg h25] at hF
          have q26 := (and_imp (or_f h25) (fun h => (and_imp (or_f h) (fun h => (of_decide_eq_false h)) (fun h => (not_f h)))) (fun h => h))
          refine TC.skip ?_
          refine TN.seq ?_
          refine TC.seq ?_
          refine TC.region ?_
          refine TL.op (yq (y_assign ev_c)) rfl rfl rfl ?_
          refine TL.nil ?_
          refine TN.seq ?_
          refine TC.seq ?_
          refine TC.region ?_
          refine TL.op (yq (y_move (ev_t rfl))) rfl rfl rfl ?_
          refine TL.op (yq (y_move (ev_t rfl))) rfl rfl rfl ?_
          refine TL.callm (ι := Unit) 1 (vs := [r7_3, (.int .i64 1)]) (fun _ => (.int .i64 ((F_laws_markIntS ((F_impl_BallOf (F_laws_toMetric m) x r).1) 1).1))) (fun _ => rowI 3 r7_3 ((F_laws_markIntS ((F_impl_BallOf (F_laws_toMetric m) x r).1) 1).2)) en_46 ⟨(ev_t rfl), (ev_t rfl), trivial⟩ rfl rfl (fun w1 fr1 hw => laws_markIntS_ok w w1 fr1 r7_3 ((F_impl_BallOf (F_laws_toMetric m) x r).1) hw 1 (by first | assumption | omega | grind) (by first | assumption | omega | grind)) (fun _ => ?_)
          refine TL.op (yq (y_assign (ev_t rfl))) rfl rfl rfl ?_
          refine TL.nil ?_
          refine TN.seq ?_
          refine TC.seq ?_
          refine TC.region ?_
          refine TL.op (yq (y_assign ev_c)) rfl rfl rfl ?_
          refine TL.nil ?_
          refine TN.seq ?_
          refine TC.seq ?_
          refine TC.region ?_
          refine TL.op (yq (y_move (ev_t rfl))) rfl rfl rfl ?_
          refine TL.op (yq (y_move (ev_t rfl))) rfl rfl rfl ?_
          refine TL.op (y_call (vs := [r7_3, (.int .i64 1)]) (v := (.int .i64 (F_laws_heldIntS ((F_laws_markIntS ((F_impl_BallOf (F_laws_toMetric m) x r).1) 1).2) 1))) en_47 ⟨(ev_t rfl), (ev_t rfl), trivial⟩ (fun w hw => laws_heldIntS_ok w r7_3 ((F_laws_markIntS ((F_impl_BallOf (F_laws_toMetric m) x r).1) 1).2) ((ri_row 1 rfl) w hw) 1 (by first | assumption | omega | grind) (by first | assumption | omega | grind))) rfl rfl rfl ?_
          refine TL.op (yq (y_assign (ev_t rfl))) rfl rfl rfl ?_
          refine TL.nil ?_
          refine TN.seq ?_
          refine TC.seq ?_
          refine TC.seq ?_
          refine TC.region ?_
          refine TL.op (yq (y_move (ev_t rfl))) rfl rfl rfl ?_
          refine TL.op (yq (y_lss (ev_t rfl) ev_c)) rfl rfl rfl ?_
          refine TL.nil ?_
          refine TN.seq ?_
          refine TC.cond (b := decide ((F_laws_heldIntS ((F_laws_markIntS ((F_impl_BallOf (F_laws_toMetric m) x r).1) 1).2) 1) < 0)) (ev_t rfl) (fun h27 => ?_) (fun h27 => ?_)
          · rw [bif_pos h27] at hF
            have q28 := (of_decide_eq_true h27)
            refine TC.seq ?_
            refine TC.region ?_
            refine TL.op (yq (y_assign ev_c)) rfl rfl rfl ?_
            refine TL.nil ?_
            refine TN.seq ?_
            refine TC.ret ?_
            refine TN.thenR ?_
            subst hF
            exact TN.ret1 rfl (ev_t rfl) (fun w' hw => ⟨rfl, Hp.sublist hw (List.nil_sublist _)⟩)
          · rw [bif_neg h27] at hF
            have q28 := (of_decide_eq_false h27)
            refine TC.skip ?_
            refine TN.seq ?_
            refine TC.seq ?_
            refine TC.seq ?_
            refine TC.region ?_
            refine TL.op (yq (y_move (ev_t rfl))) rfl rfl rfl ?_
            refine TL.op (yq (y_move (ev_t rfl))) rfl rfl rfl ?_
            refine TL.op (yq (y_neq (ev_t rfl) (ev_t rfl))) rfl rfl rfl ?_
            refine TL.nil ?_
            refine TN.seq ?_
            refine TC.cond (b := !decide ((F_laws_heldIntS ((F_laws_markIntS ((F_impl_BallOf (F_laws_toMetric m) x r).1) 1).2) 1) = (F_laws_markIntS ((F_impl_BallOf (F_laws_toMetric m) x r).1) 1).1)) (ev_t rfl) (fun h29 => ?_) (fun h29 => ?_)
            · rw [bif_pos h29] at hF
              have q30 := (of_decide_eq_false (not_t h29))
              refine TC.seq ?_
              refine TC.region ?_
              refine TL.op (yq (y_assign ev_c)) rfl rfl rfl ?_
              refine TL.nil ?_
              refine TN.seq ?_
              refine TC.ret ?_
              refine TN.thenR ?_
              subst hF
              exact TN.ret1 rfl (ev_t rfl) (fun w' hw => ⟨rfl, Hp.sublist hw (List.nil_sublist _)⟩)
            · rw [bif_neg h29] at hF
              have q30 := (of_decide_eq_true (not_f h29))
              refine TC.skip ?_
              refine TN.seq ?_
              refine TC.seq ?_
              refine TC.region ?_
              refine TL.op (yq (y_ldagg (cs := [vm]) 6 (ev_t rfl) agg_34 rfl)) rfl rfl rfl ?_
              refine TL.callr (ι := Value × List Value) (vs := [(.agg #[vm])]) (fun i => (.agg #[i.1])) (fun i => [tabI 28 3 i.1 i.2 (F_laws_toMetric m)]) en_28 ⟨(ev_t rfl), trivial⟩ rfl (fun w hw => laws_toMetric_ok w vm um m ((rii_arg hm) w hw) (by first | assumption | omega | grind) (by first | assumption | omega | grind)) (fun r24_1 => ?_)
              refine TL.op (yq (y_move (ev_t rfl))) rfl rfl rfl ?_
              refine TL.op (yq (y_move (ev_t rfl))) rfl rfl rfl ?_
              refine TL.callr (ι := Value) (vs := [(.agg #[r24_1.1]), (.int .i64 x), (.int .i64 r)]) (fun i => (.tuple #[i, (.bool ((F_impl_BallOf (F_laws_toMetric m) x r).2))])) (fun i => [rowI 3 i ((F_impl_BallOf (F_laws_toMetric m) x r).1)]) en_57 ⟨(ev_t rfl), (ev_t rfl), (ev_t rfl), trivial⟩ rfl (fun w hw => impl_BallOf_ok w r24_1.1 r24_1.2 (F_laws_toMetric m) ((rii_tab 0 rfl) w hw) x r) (fun r24_4 => ?_)
              refine TL.op (yq (y_move (ev_t rfl))) rfl rfl rfl ?_
              refine TL.op (yq (y_extract (ev_t rfl) rfl)) rfl rfl rfl ?_
              refine TL.op (yq (y_extract (ev_t rfl) rfl)) rfl rfl rfl ?_
              refine TL.op (yq (y_assign (ev_t rfl))) rfl rfl rfl ?_
              refine TL.op (yq (y_assign (ev_t rfl))) rfl rfl rfl ?_
              refine TL.nil ?_
              refine TN.seq ?_
              refine TC.seq ?_
              refine TC.seq ?_
              refine TC.region ?_
              refine TL.op (yq (y_move (ev_t rfl))) rfl rfl rfl ?_
              refine TL.op (yq (y_move (ev_t rfl))) rfl rfl rfl ?_
              refine TL.op (y_call (vs := [r24_4, r5_4]) (v := (.bool (F_laws_eqIntS ((F_impl_BallOf (F_laws_toMetric m) x r).1) ((F_spec_BallOf (F_laws_toMetric m) x r).1)))) en_23 ⟨(ev_t rfl), (ev_t rfl), trivial⟩ (fun w hw => laws_eqIntS_ok w r24_4 ((F_impl_BallOf (F_laws_toMetric m) x r).1) ((ri_row 0 rfl) w hw) r5_4 ((F_spec_BallOf (F_laws_toMetric m) x r).1) ((ri_row 6 rfl) w hw))) rfl rfl rfl ?_
              refine TL.op (yq (y_not (ev_t rfl))) rfl rfl rfl ?_
              refine TL.op (yq (y_move (ev_t rfl))) rfl rfl rfl ?_
              refine TL.opw (w_f rfl rfl rfl) (fun hg => yq (y_move (ev_t rfl))) rfl rfl ?_
              refine TL.opw (w_f rfl rfl rfl) (fun hg => yq (y_move (ev_t rfl))) rfl rfl ?_
              refine TL.opw (w_f rfl rfl rfl) (fun hg => yq (y_bneq (ev_g rfl hg) (ev_g rfl hg) Try.underlying4)) rfl rfl ?_
              refine TL.op (yq (y_or (ev_t rfl) (fun hq => (ev_g rfl hq)))) rfl rfl rfl ?_
              refine TL.nil ?_
              refine TN.seq ?_
              refine TC.condF (ev_t rfl) h21 ?_
              refine TC.skip ?_
              refine TN.seq ?_
              refine TC.seq ?_
              refine TC.region ?_
              refine TL.op (yq (y_assign ev_c)) rfl rfl rfl ?_
              refine TL.nil ?_
              refine TN.seq ?_
              refine TC.seq ?_
              refine TC.region ?_
              refine TL.op (yq (y_move (ev_t rfl))) rfl rfl rfl ?_
              refine TL.op (yq (y_move (ev_t rfl))) rfl rfl rfl ?_
              refine TL.op (y_call (vs := [r7_3, (.int .i64 1)]) (v := (.int .i64 (F_laws_heldIntS ((F_laws_markIntS ((F_impl_BallOf (F_laws_toMetric m) x r).1) 1).2) 1))) en_47 ⟨(ev_t rfl), (ev_t rfl), trivial⟩ (fun w hw => laws_heldIntS_ok w r7_3 ((F_laws_markIntS ((F_impl_BallOf (F_laws_toMetric m) x r).1) 1).2) ((ri_row 3 rfl) w hw) 1 (by first | assumption | omega | grind) (by first | assumption | omega | grind))) rfl rfl rfl ?_
              refine TL.op (yq (y_assign (ev_t rfl))) rfl rfl rfl ?_
              refine TL.nil ?_
              refine TN.seq ?_
              refine TC.seq ?_
              refine TC.seq ?_
              refine TC.region ?_
              refine TL.op (yq (y_move (ev_t rfl))) rfl rfl rfl ?_
              refine TL.op (yq (y_lss (ev_t rfl) ev_c)) rfl rfl rfl ?_
              refine TL.nil ?_
              refine TN.seq ?_
              refine TC.condF (ev_t rfl) h27 ?_
              refine TC.skip ?_
              refine TN.seq ?_
              refine TC.seq ?_
              refine TC.seq ?_
              refine TC.region ?_
              refine TL.op (yq (y_move (ev_t rfl))) rfl rfl rfl ?_
              refine TL.op (yq (y_move (ev_t rfl))) rfl rfl rfl ?_
              refine TL.op (yq (y_neq (ev_t rfl) (ev_t rfl))) rfl rfl rfl ?_
              refine TL.nil ?_
              refine TN.seq ?_
              refine TC.condF (ev_t rfl) h29 ?_
              refine TC.skip ?_
              refine TN.seq ?_
              refine TC.seq ?_
              refine TC.region ?_
              refine TL.op (yq (y_assign ev_c)) rfl rfl rfl ?_
              refine TL.nil ?_
              refine TN.seq ?_
              refine TC.ret ?_
              subst hF
              exact TN.ret1 rfl (ev_t rfl) (fun w' hw => ⟨rfl, Hp.sublist hw (List.nil_sublist _)⟩)


end Go.Proofs.Ytpfpbgkjgpgceaa
