/-
  Walks of functions of the program: each computes its plain function. No condition but the bounds that are typed.
-/
import Derived.Test.YtfhhfhiooehlcaaT3
namespace Go.Proofs.Ytfhhfhiooehlcaa
open Go Go.RowKit
set_option linter.unusedVariables false

set_option maxRecDepth 4000 in
set_option maxHeartbeats 1000000 in
theorem spec_DrawFirstDetour_ok (w : World) (vcode : Value) (code : List Int) (hcode : RB w vcode code)  :
    Calls Try.prog 32 ([vcode] : List Value).toArray w (fun e w' => ∃ i : Value × List Value, e = .returned (.agg #[i.1]) ∧ Hp w [tabI 34 3 i.1 i.2 (F_spec_DrawFirstDetour code)] w') := by
  obtain ⟨rz, hF⟩ : ∃ rz, (F_spec_DrawFirstDetour code) = rz := ⟨_, rfl⟩
  rw [hF]
  unfold F_spec_DrawFirstDetour at hF
  have hlen_code := argB_len hcode
  refine calls_tc Try.func32 rfl rfl rfl ?_
  change TC _ _ _ _ (Hp w []) [(0, vcode)]
  refine TC.seq ?_
  refine TC.region ?_
  refine TL.alloc (u := (.agg #[(.slice none 0 0)])) (by kernel_rfl) rfl (fun g0_0 => ?_)
  refine TL.nil ?_
  refine TN.seq ?_
  refine TC.seq ?_
  refine TC.region ?_
  refine TL.op (yq (y_move (ev_t rfl))) rfl rfl rfl ?_
  refine TL.op (yq (y_bldC (ev_t rfl) bd_61_c (fun w hw => ((rd_arg hcode.1) w hw).ln))) rfl rfl rfl ?_
  refine TL.boxCur (ev_t rfl) (fun w hw => ((rd_arg hcode.1) w hw).ln) rfl (fun g1_2 => ?_)
  refine TL.op (yq (y_assign (ev_t rfl))) rfl rfl rfl ?_
  refine TL.nil ?_
  refine TN.seq ?_
  refine TC.seq ?_
  refine TC.region ?_
  refine TL.op (yq (y_move (ev_t rfl))) rfl rfl rfl ?_
  refine TL.op (yq (y_move (ev_t rfl))) rfl rfl rfl ?_
  refine TL.callmX (ι := Unit) (p := True) 0 (vs := [(.pointer (some ⟨g1_2, 0, none⟩)), (.int .i64 6)]) (fun _ => (.bool ((F_spec_l1Cur_one code 0 0 6).1))) (fun _ => .blk g1_2 61 [vcode, (.int .i64 (((F_spec_l1Cur_one code 0 0 6).2).1)), (.int .u64 (((F_spec_l1Cur_one code 0 0 6).2).2))]) (fun _ => []) en_44 ⟨(ev_t rfl), ev_c, trivial⟩ rfl rfl (fun w1 _ hw => spec_l1Cur_one_ok w w1 _ g1_2 vcode code hcode 0 0 hw 6 (by first | assumption | omega | grind) (by first | assumption | omega | grind) (by first | assumption | omega | grind) (by first | assumption | omega | grind)) (fun hpo5 _ => ?_)
  replace hpo5 := one_post hcode.2 code 0 0 6 (by omega)
  obtain ⟨q2_2, hq6⟩ : ∃ q, (F_spec_l1Cur_one code 0 0 6) = q := ⟨_, rfl⟩
  rw [hq6] at hF hpo5 ⊢
  try dsimp only at hF
  refine TL.callmX (ι := Value × List Value) (p := ((q2_2.2).1 ≤ ((F_spec_l1Cur_table6 code ((q2_2.2).1) ((q2_2.2).2) q2_2.1).2).1 ∧ ((F_spec_l1Cur_table6 code ((q2_2.2).1) ((q2_2.2).2) q2_2.1).2).1 ≤ ((q2_2.2).1) + 300 ∧ 0 ≤ ((F_spec_l1Cur_table6 code ((q2_2.2).1) ((q2_2.2).2) q2_2.1).2).2 ∧ ((F_spec_l1Cur_table6 code ((q2_2.2).1) ((q2_2.2).2) q2_2.1).2).2 < 18446744073709551616 ∧ ((F_spec_l1Cur_table6 code ((q2_2.2).1) ((q2_2.2).2) q2_2.1)).1.length ≤ 7)) 0 (vs := [(.pointer (some ⟨g1_2, 0, none⟩)), (.bool q2_2.1)]) (fun i => (.agg #[i.1])) (fun _ => .blk g1_2 61 [vcode, (.int .i64 (((F_spec_l1Cur_table6 code ((q2_2.2).1) ((q2_2.2).2) q2_2.1).2).1)), (.int .u64 (((F_spec_l1Cur_table6 code ((q2_2.2).1) ((q2_2.2).2) q2_2.1).2).2))]) (fun i => [tabI 34 3 i.1 i.2 ((F_spec_l1Cur_table6 code ((q2_2.2).1) ((q2_2.2).2) q2_2.1).1)]) en_58 ⟨(ev_t rfl), (ev_t rfl), trivial⟩ rfl rfl (fun w1 _ hw => spec_l1Cur_table6_ok w w1 _ g1_2 vcode code hcode ((q2_2.2).1) ((q2_2.2).2) hw q2_2.1 (by first | assumption | omega | grind) (by first | assumption | omega | grind) (by first | assumption | omega | grind) (by first | assumption | omega | grind)) (fun hpo7 r2_3 => ?_)
  obtain ⟨q2_3, hq8⟩ : ∃ q, (F_spec_l1Cur_table6 code ((q2_2.2).1) ((q2_2.2).2) q2_2.1) = q := ⟨_, rfl⟩
  rw [hq8] at hF hpo7 ⊢
  try dsimp only at hF
  refine TL.storeAgg (cs := [(.slice none 0 0)]) (us := [r2_3.1]) 2 (ev_t rfl) (ev_t rfl) agg_45 rfl rfl (fun w hw => (ocs_cons (ln_one ((fun w hw => ((rii_tab 0 rfl) w hw).1) w hw).ln) ocs_nil)) ?_
  refine TL.nil ?_
  refine TN.seq ?_
  refine TC.ret ?_
  subst hF
  exact TN.retC (cs := [r2_3.1]) 2 (by simp) rfl (ev_t rfl) agg_45 rfl (fun w' hw => ⟨(r2_3.1, r2_3.2), rfl, Hp.sublist hw (.cons_cons _ (.cons _ (.cons _ .slnil)))⟩)

set_option maxRecDepth 4000 in
set_option maxHeartbeats 1000000 in
theorem spec_DrawShortestWay_ok (w : World) (vcode : Value) (code : List Int) (hcode : RB w vcode code)  :
    Calls Try.prog 25 ([vcode] : List Value).toArray w (fun e w' => ∃ i : Value × List Value, e = .returned (.tuple #[(.agg #[i.1]), (.int .i64 ((F_spec_DrawShortestWay code).2.1)), (.int .i64 ((F_spec_DrawShortestWay code).2.2))]) ∧ Hp w [tabI 34 3 i.1 i.2 ((F_spec_DrawShortestWay code).1)] w') := by
  obtain ⟨rz, hF⟩ : ∃ rz, (F_spec_DrawShortestWay code) = rz := ⟨_, rfl⟩
  rw [hF]
  unfold F_spec_DrawShortestWay at hF
  have hlen_code := argB_len hcode
  refine calls_tc Try.func25 rfl rfl rfl ?_
  change TC _ _ _ _ (Hp w []) [(0, vcode)]
  refine TC.seq ?_
  refine TC.region ?_
  refine TL.alloc (u := (.agg #[(.slice none 0 0)])) (by kernel_rfl) rfl (fun g0_0 => ?_)
  refine TL.op (yq (y_assign ev_c)) rfl rfl rfl ?_
  refine TL.op (yq (y_assign ev_c)) rfl rfl rfl ?_
  refine TL.nil ?_
  refine TN.seq ?_
  refine TC.seq ?_
  refine TC.region ?_
  refine TL.op (yq (y_move (ev_t rfl))) rfl rfl rfl ?_
  refine TL.op (yq (y_bldC (ev_t rfl) bd_61_c (fun w hw => ((rd_arg hcode.1) w hw).ln))) rfl rfl rfl ?_
  refine TL.boxCur (ev_t rfl) (fun w hw => ((rd_arg hcode.1) w hw).ln) rfl (fun g1_2 => ?_)
  refine TL.op (yq (y_assign (ev_t rfl))) rfl rfl rfl ?_
  refine TL.nil ?_
  refine TN.seq ?_
  refine TC.seq ?_
  refine TC.region ?_
  refine TL.op (yq (y_move (ev_t rfl))) rfl rfl rfl ?_
  refine TL.op (yq (y_move (ev_t rfl))) rfl rfl rfl ?_
  refine TL.callmX (ι := Unit) (p := True) 0 (vs := [(.pointer (some ⟨g1_2, 0, none⟩)), (.int .i64 2)]) (fun _ => (.bool ((F_spec_l1Cur_one code 0 0 2).1))) (fun _ => .blk g1_2 61 [vcode, (.int .i64 (((F_spec_l1Cur_one code 0 0 2).2).1)), (.int .u64 (((F_spec_l1Cur_one code 0 0 2).2).2))]) (fun _ => []) en_44 ⟨(ev_t rfl), ev_c, trivial⟩ rfl rfl (fun w1 _ hw => spec_l1Cur_one_ok w w1 _ g1_2 vcode code hcode 0 0 hw 2 (by first | assumption | omega | grind) (by first | assumption | omega | grind) (by first | assumption | omega | grind) (by first | assumption | omega | grind)) (fun hpo15 _ => ?_)
  replace hpo15 := one_post hcode.2 code 0 0 2 (by omega)
  obtain ⟨q2_2, hq16⟩ : ∃ q, (F_spec_l1Cur_one code 0 0 2) = q := ⟨_, rfl⟩
  rw [hq16] at hF hpo15 ⊢
  try dsimp only at hF
  refine TL.callmX (ι := Value × List Value) (p := ((q2_2.2).1 ≤ ((F_spec_l1Cur_table6 code ((q2_2.2).1) ((q2_2.2).2) q2_2.1).2).1 ∧ ((F_spec_l1Cur_table6 code ((q2_2.2).1) ((q2_2.2).2) q2_2.1).2).1 ≤ ((q2_2.2).1) + 300 ∧ 0 ≤ ((F_spec_l1Cur_table6 code ((q2_2.2).1) ((q2_2.2).2) q2_2.1).2).2 ∧ ((F_spec_l1Cur_table6 code ((q2_2.2).1) ((q2_2.2).2) q2_2.1).2).2 < 18446744073709551616 ∧ ((F_spec_l1Cur_table6 code ((q2_2.2).1) ((q2_2.2).2) q2_2.1)).1.length ≤ 7)) 0 (vs := [(.pointer (some ⟨g1_2, 0, none⟩)), (.bool q2_2.1)]) (fun i => (.agg #[i.1])) (fun _ => .blk g1_2 61 [vcode, (.int .i64 (((F_spec_l1Cur_table6 code ((q2_2.2).1) ((q2_2.2).2) q2_2.1).2).1)), (.int .u64 (((F_spec_l1Cur_table6 code ((q2_2.2).1) ((q2_2.2).2) q2_2.1).2).2))]) (fun i => [tabI 34 3 i.1 i.2 ((F_spec_l1Cur_table6 code ((q2_2.2).1) ((q2_2.2).2) q2_2.1).1)]) en_58 ⟨(ev_t rfl), (ev_t rfl), trivial⟩ rfl rfl (fun w1 _ hw => spec_l1Cur_table6_ok w w1 _ g1_2 vcode code hcode ((q2_2.2).1) ((q2_2.2).2) hw q2_2.1 (by first | assumption | omega | grind) (by first | assumption | omega | grind) (by first | assumption | omega | grind) (by first | assumption | omega | grind)) (fun hpo17 r2_3 => ?_)
  obtain ⟨q2_3, hq18⟩ : ∃ q, (F_spec_l1Cur_table6 code ((q2_2.2).1) ((q2_2.2).2) q2_2.1) = q := ⟨_, rfl⟩
  rw [hq18] at hF hpo17 ⊢
  try dsimp only at hF
  refine TL.alloc (u := (.agg #[(.slice none 0 0)])) (by kernel_rfl) rfl (fun g2_4 => ?_)
  refine TL.storeAgg (cs := [(.slice none 0 0)]) (us := [r2_3.1]) 0 (ev_t rfl) (ev_t rfl) agg_45 rfl rfl (fun w hw => (ocs_cons (ln_one ((fun w hw => ((rii_tab 1 rfl) w hw).1) w hw).ln) ocs_nil)) ?_
  refine TL.nil ?_
  refine TN.seq ?_
  refine TC.seq ?_
  refine TC.regionH 14 (Hp w [.blk g2_4 45 [r2_3.1], tabI 34 3 r2_3.1 r2_3.2 q2_3.1, .blk g0_0 45 [(.slice none 0 0)]]) rfl (by kernel_rfl) dr_hp (fun w hw => Hp.sublist hw (.cons_cons _ (.cons_cons _ (.cons _ (.cons_cons _ .slnil))))) ?_
  refine TH.take 0 rfl (by kernel_rfl) (y_move (ev_t rfl)) rfl rfl rfl ?_
  refine TH.take 1 rfl (by kernel_rfl) (y_fa (fa_45_0 g2_4) (ev_t rfl)) rfl rfl rfl ?_
  refine TH.take 2 rfl (by kernel_rfl) (y_ldb 0 (ev_t rfl) one_43 rfl rfl) rfl rfl rfl ?_
  refine TH.take 3 rfl (by kernel_rfl) (y_len (ev_t rfl) Try.underlying43 (fun w hw => ((fun w hw => ((rii_tab 1 rfl) w hw).1) w hw).ln)) rfl rfl rfl ?_
  refine TH.take 4 rfl (by kernel_rfl) (y_add (ev_t rfl) ev_c (by unfold In64; omega)) rfl rfl rfl ?_
  refine TH.take 6 rfl (by kernel_rfl) (y_move (ev_t rfl)) rfl rfl rfl ?_
  refine TH.take 7 rfl (by kernel_rfl) (y_fa (fa_45_0 g2_4) (ev_t rfl)) rfl rfl rfl ?_
  refine TH.take 8 rfl (by kernel_rfl) (y_ldb 0 (ev_t rfl) one_43 rfl rfl) rfl rfl rfl ?_
  refine TH.take 9 rfl (by kernel_rfl) (y_len (ev_t rfl) Try.underlying43 (fun w hw => ((fun w hw => ((rii_tab 1 rfl) w hw).1) w hw).ln)) rfl rfl rfl ?_
  refine TH.take 10 rfl (by kernel_rfl) (y_add (ev_t rfl) ev_c (by unfold In64; omega)) rfl rfl rfl ?_
  refine TH.loud 5 rfl (by kernel_rfl) ?_
  refine TL.callmX (ι := Unit) (p := True) 2 (vs := [(.pointer (some ⟨g1_2, 0, none⟩)), (.int .i64 ((q2_3.1.length : Int) + 1))]) (fun _ => (.int .i64 ((F_spec_l1Cur_pick code ((q2_3.2).1) ((q2_3.2).2) ((q2_3.1.length : Int) + 1)).1))) (fun _ => .blk g1_2 61 [vcode, (.int .i64 (((F_spec_l1Cur_pick code ((q2_3.2).1) ((q2_3.2).2) ((q2_3.1.length : Int) + 1)).2).1)), (.int .u64 (((F_spec_l1Cur_pick code ((q2_3.2).1) ((q2_3.2).2) ((q2_3.1.length : Int) + 1)).2).2))]) (fun _ => []) en_43 ⟨(ev_t rfl), (ev_t rfl), trivial⟩ rfl rfl (fun w1 _ hw => spec_l1Cur_pick_ok w w1 _ g1_2 vcode code hcode ((q2_3.2).1) ((q2_3.2).2) hw ((q2_3.1.length : Int) + 1) (by first | assumption | omega | grind) (by first | assumption | omega | grind) (by first | assumption | omega | grind) (by first | assumption | omega | grind)) (fun hpo21 _ => ?_)
  replace hpo21 := pick_post hcode.2 code ((q2_3.2).1) ((q2_3.2).2) ((q2_3.1.length : Int) + 1) (by omega)
  obtain ⟨q3_5, hq22⟩ : ∃ q, (F_spec_l1Cur_pick code ((q2_3.2).1) ((q2_3.2).2) ((q2_3.1.length : Int) + 1)) = q := ⟨_, rfl⟩
  rw [hq22] at hF hpo21 ⊢
  try dsimp only at hF
  refine TL.nil ?_
  refine TH.back (fun w hw => Hp.sublist hw (.cons_cons _ (.cons_cons _ (.cons _ (.cons_cons _ .slnil))))) ?_
  refine TH.loud 11 rfl (by kernel_rfl) ?_
  refine TL.callmX (ι := Unit) (p := True) 2 (vs := [(.pointer (some ⟨g1_2, 0, none⟩)), (.int .i64 ((q2_3.1.length : Int) + 1))]) (fun _ => (.int .i64 ((F_spec_l1Cur_pick code ((q3_5.2).1) ((q3_5.2).2) ((q2_3.1.length : Int) + 1)).1))) (fun _ => .blk g1_2 61 [vcode, (.int .i64 (((F_spec_l1Cur_pick code ((q3_5.2).1) ((q3_5.2).2) ((q2_3.1.length : Int) + 1)).2).1)), (.int .u64 (((F_spec_l1Cur_pick code ((q3_5.2).1) ((q3_5.2).2) ((q2_3.1.length : Int) + 1)).2).2))]) (fun _ => []) en_43 ⟨(ev_t rfl), (ev_t rfl), trivial⟩ rfl rfl (fun w1 _ hw => spec_l1Cur_pick_ok w w1 _ g1_2 vcode code hcode ((q3_5.2).1) ((q3_5.2).2) hw ((q2_3.1.length : Int) + 1) (by first | assumption | omega | grind) (by first | assumption | omega | grind) (by first | assumption | omega | grind) (by first | assumption | omega | grind)) (fun hpo23 _ => ?_)
  replace hpo23 := pick_post hcode.2 code ((q3_5.2).1) ((q3_5.2).2) ((q2_3.1.length : Int) + 1) (by omega)
  obtain ⟨q3_11, hq24⟩ : ∃ q, (F_spec_l1Cur_pick code ((q3_5.2).1) ((q3_5.2).2) ((q2_3.1.length : Int) + 1)) = q := ⟨_, rfl⟩
  rw [hq24] at hF hpo23 ⊢
  try dsimp only at hF
  refine TL.nil ?_
  refine TH.back (fun w hw => Hp.sublist hw (.cons_cons _ (.cons_cons _ (.cons _ (.cons_cons _ .slnil))))) ?_
  refine TH.take 12 rfl (by kernel_rfl) (y_assign (ev_t rfl)) rfl rfl rfl ?_
  refine TH.take 13 rfl (by kernel_rfl) (y_assign (ev_t rfl)) rfl rfl rfl ?_
  refine TH.done (by kernel_rfl) ?_
  refine TN.seq ?_
  refine TC.seq ?_
  refine TC.seq ?_
  refine TC.region ?_
  refine TL.op (yq (y_move (ev_t rfl))) rfl rfl rfl ?_
  refine TL.callmX (ι := Unit) (p := True) 2 (vs := [(.pointer (some ⟨g1_2, 0, none⟩)), (.int .i64 16)]) (fun _ => (.bool ((F_spec_l1Cur_one code ((q3_11.2).1) ((q3_11.2).2) 16).1))) (fun _ => .blk g1_2 61 [vcode, (.int .i64 (((F_spec_l1Cur_one code ((q3_11.2).1) ((q3_11.2).2) 16).2).1)), (.int .u64 (((F_spec_l1Cur_one code ((q3_11.2).1) ((q3_11.2).2) 16).2).2))]) (fun _ => []) en_44 ⟨(ev_t rfl), ev_c, trivial⟩ rfl rfl (fun w1 _ hw => spec_l1Cur_one_ok w w1 _ g1_2 vcode code hcode ((q3_11.2).1) ((q3_11.2).2) hw 16 (by first | assumption | omega | grind) (by first | assumption | omega | grind) (by first | assumption | omega | grind) (by first | assumption | omega | grind)) (fun hpo25 _ => ?_)
  replace hpo25 := one_post hcode.2 code ((q3_11.2).1) ((q3_11.2).2) 16 (by omega)
  obtain ⟨q4_1, hq26⟩ : ∃ q, (F_spec_l1Cur_one code ((q3_11.2).1) ((q3_11.2).2) 16) = q := ⟨_, rfl⟩
  rw [hq26] at hF hpo25 ⊢
  try dsimp only at hF
  refine TL.nil ?_
  refine TN.seq ?_
  refine TC.cond (b := q4_1.1) (ev_t rfl) (fun h27 => ?_) (fun h27 => ?_)
  · rw [bif_pos h27] at hF
    have q28 := h27
    refine TC.region ?_
    refine TL.op (yq (y_assign ev_c)) rfl rfl rfl ?_
    refine TL.nil ?_
    refine TN.seq ?_
    refine TC.seq ?_
    refine TC.region ?_
    refine TL.op (yq (y_ldagg (cs := [r2_3.1]) 0 (ev_t rfl) agg_45 rfl)) rfl rfl rfl ?_
    refine TL.op (yq (y_move (ev_t rfl))) rfl rfl rfl ?_
    refine TL.op (yq (y_move (ev_t rfl))) rfl rfl rfl ?_
    refine TL.storeAgg (cs := [(.slice none 0 0)]) (us := [r2_3.1]) 3 (ev_t rfl) (ev_t rfl) agg_45 rfl rfl (fun w hw => (ocs_cons (ln_one ((fun w hw => ((rii_tab 1 rfl) w hw).1) w hw).ln) ocs_nil)) ?_
    refine TL.op (yq (y_assign (ev_t rfl))) rfl rfl rfl ?_
    refine TL.op (yq (y_assign (ev_t rfl))) rfl rfl rfl ?_
    refine TL.nil ?_
    refine TN.seq ?_
    refine TC.ret ?_
    subst hF
    exact TN.retCTT (cs := [r2_3.1]) 3 (by simp) rfl (ev_t rfl) (ev_t rfl) (ev_t rfl) agg_45 rfl (fun w' hw => ⟨(r2_3.1, r2_3.2), rfl, Hp.sublist hw (.cons _ (.cons_cons _ (.cons _ (.cons _ .slnil))))⟩)
  · rw [bif_neg h27] at hF
    have q28 := h27
    refine TC.skip ?_
    refine TN.seq ?_
    refine TC.seq ?_
    refine TC.region ?_
    refine TL.op (yq (y_ldagg (cs := [r2_3.1]) 0 (ev_t rfl) agg_45 rfl)) rfl rfl rfl ?_
    refine TL.op (yq (y_move (ev_t rfl))) rfl rfl rfl ?_
    refine TL.op (yq (y_move (ev_t rfl))) rfl rfl rfl ?_
    refine TL.storeAgg (cs := [(.slice none 0 0)]) (us := [r2_3.1]) 3 (ev_t rfl) (ev_t rfl) agg_45 rfl rfl (fun w hw => (ocs_cons (ln_one ((fun w hw => ((rii_tab 1 rfl) w hw).1) w hw).ln) ocs_nil)) ?_
    refine TL.op (yq (y_assign (ev_t rfl))) rfl rfl rfl ?_
    refine TL.op (yq (y_assign (ev_t rfl))) rfl rfl rfl ?_
    refine TL.nil ?_
    refine TN.seq ?_
    refine TC.ret ?_
    subst hF
    exact TN.retCTT (cs := [r2_3.1]) 3 (by simp) rfl (ev_t rfl) (ev_t rfl) (ev_t rfl) agg_45 rfl (fun w' hw => ⟨(r2_3.1, r2_3.2), rfl, Hp.sublist hw (.cons _ (.cons_cons _ (.cons _ (.cons _ .slnil))))⟩)

end Go.Proofs.Ytfhhfhiooehlcaa
