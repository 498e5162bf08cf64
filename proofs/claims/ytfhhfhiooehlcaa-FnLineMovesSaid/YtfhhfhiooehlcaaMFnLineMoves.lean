/-
  Walks of functions of the program: each computes its plain function. No condition but the bounds that are typed.
-/
import Derived.Test.YtfhhfhiooehlcaaMU
import Derived.Test.YtfhhfhiooehlcaaM5
import Derived.Test.YtfhhfhiooehlcaaLawLin
namespace Go.Proofs.Ytfhhfhiooehlcaa
open Go Go.RowKit

set_option maxRecDepth 4000 in
set_option maxHeartbeats 1000000 in
theorem laws_FnLineMoves_ok (w : World) (vcode : Value) (code : List Int) (hcode : RB w vcode code)  :
    Calls Try.prog 6 ([vcode] : List Value).toArray w (Ret (.bool (F_laws_FnLineMoves code)) (Hp w [])) := by
  obtain ⟨rz, hF⟩ : ∃ rz, (F_laws_FnLineMoves code) = rz := ⟨_, rfl⟩
  rw [hF]
  unfold F_laws_FnLineMoves at hF
  have hlen_code := argB_len hcode
  refine calls_tc Try.func6 rfl rfl rfl ?_
  change TC _ _ _ _ (Hp w []) [(0, vcode)]
  refine TC.seq ?_
  refine TC.region ?_
  refine TL.op (yq (y_assign ev_c)) rfl rfl rfl ?_
  refine TL.nil ?_
  refine TN.seq ?_
  refine TC.seq ?_
  refine TC.seq ?_
  refine TC.region ?_
  refine TL.op (yq (y_move (ev_t rfl))) rfl rfl rfl ?_
  refine TL.op (y_call (vs := [vcode]) (v := (.bool (F_laws_rBig code))) en_16 ⟨(ev_t rfl), trivial⟩ (fun w hw => laws_rBig_ok w vcode code (rb_arg hcode hw))) rfl rfl rfl ?_
  refine TL.nil ?_
  refine TN.seq ?_
  refine TC.cond (b := (F_laws_rBig code)) (ev_t rfl) (fun h63 => ?_) (fun h63 => ?_)
  · rw [bif_pos h63] at hF
    have q64 := h63
    refine TC.seq ?_
    refine TC.region ?_
    refine TL.op (yq (y_assign ev_c)) rfl rfl rfl ?_
    refine TL.nil ?_
    refine TN.seq ?_
    refine TC.ret ?_
    refine TN.thenR ?_
    subst hF
    exact TN.ret1 rfl (ev_t rfl) (fun w' hw => ⟨rfl, hw⟩)
  · rw [bif_neg h63] at hF
    have q64 := h63
    refine TC.skip ?_
    refine TN.seq ?_
    refine TC.seq ?_
    refine TC.region ?_
    refine TL.op (yq (y_move (ev_t rfl))) rfl rfl rfl ?_
    refine TL.callr (ι := Value × Value) (vs := [vcode]) (fun i => (.tuple #[i.1, i.2])) (fun i => [rowI 3 i.1 ((F_spec_DrawRowDistance code).1), rowI 3 i.2 ((F_spec_DrawRowDistance code).2)]) en_35 ⟨(ev_t rfl), trivial⟩ rfl (fun w hw => spec_DrawRowDistance_ok w vcode code (rb_arg hcode hw)) (fun r3_1 => ?_)
    refine TL.op (yq (y_move (ev_t rfl))) rfl rfl rfl ?_
    refine TL.op (yq (y_extract (ev_t rfl) rfl)) rfl rfl rfl ?_
    refine TL.op (yq (y_extract (ev_t rfl) rfl)) rfl rfl rfl ?_
    refine TL.op (yq (y_assign (ev_t rfl))) rfl rfl rfl ?_
    refine TL.op (yq (y_assign (ev_t rfl))) rfl rfl rfl ?_
    refine TL.nil ?_
    refine TN.seq ?_
    refine TC.seq ?_
    refine TC.region ?_
    refine TL.op (yq (y_move (ev_t rfl))) rfl rfl rfl ?_
    refine TL.op (yq (y_move (ev_t rfl))) rfl rfl rfl ?_
    refine TL.op (y_call (vs := [r3_1.1, r3_1.2]) (v := (.tuple #[(.int .i64 ((F_impl_RowDistance ((F_spec_DrawRowDistance code).1) ((F_spec_DrawRowDistance code).2)).1)), (.bool ((F_impl_RowDistance ((F_spec_DrawRowDistance code).1) ((F_spec_DrawRowDistance code).2)).2))])) en_23 ⟨(ev_t rfl), (ev_t rfl), trivial⟩ (fun w hw => impl_RowDistance_ok w r3_1.1 ((F_spec_DrawRowDistance code).1) ((ri_row 0 rfl) w hw) r3_1.2 ((F_spec_DrawRowDistance code).2) ((ri_row 1 rfl) w hw))) rfl rfl rfl ?_
    refine TL.op (yq (y_move (ev_t rfl))) rfl rfl rfl ?_
    refine TL.op (yq (y_extract (ev_t rfl) rfl)) rfl rfl rfl ?_
    refine TL.op (yq (y_extract (ev_t rfl) rfl)) rfl rfl rfl ?_
    refine TL.op (yq (y_assign (ev_t rfl))) rfl rfl rfl ?_
    refine TL.op (yq (y_assign (ev_t rfl))) rfl rfl rfl ?_
    refine TL.nil ?_
    refine TN.seq ?_
    refine TC.seq ?_
    refine TC.seq ?_
    refine TC.region ?_
    refine TL.op (yq (y_move (ev_t rfl))) rfl rfl rfl ?_
    refine TL.op (yq (y_move (ev_t rfl))) rfl rfl rfl ?_
    refine TL.op (y_call (vs := [r3_1.1, r3_1.2]) (v := (.tuple #[(.int .i64 ((F_spec_RowDistance ((F_spec_DrawRowDistance code).1) ((F_spec_DrawRowDistance code).2)).1)), (.bool ((F_spec_RowDistance ((F_spec_DrawRowDistance code).1) ((F_spec_DrawRowDistance code).2)).2))])) en_36 ⟨(ev_t rfl), (ev_t rfl), trivial⟩ (fun w hw => spec_RowDistance_ok w r3_1.1 ((F_spec_DrawRowDistance code).1) ((ri_row 0 rfl) w hw) r3_1.2 ((F_spec_DrawRowDistance code).2) ((ri_row 1 rfl) w hw))) rfl rfl rfl ?_
    refine TL.op (yq (y_move (ev_t rfl))) rfl rfl rfl ?_
    refine TL.op (yq (y_extract (ev_t rfl) rfl)) rfl rfl rfl ?_
    refine TL.op (yq (y_extract (ev_t rfl) rfl)) rfl rfl rfl ?_
    refine TL.op (yq (y_assign (ev_t rfl))) rfl rfl rfl ?_
    refine TL.op (yq (y_assign (ev_t rfl))) rfl rfl rfl ?_
    refine TL.nil ?_
    refine TN.seq ?_
    refine TC.seq ?_
    refine TC.region ?_
    refine TL.op (yq (y_move (ev_t rfl))) rfl rfl rfl ?_
    refine TL.op (yq (y_move (ev_t rfl))) rfl rfl rfl ?_
    refine TL.op (yq (y_neq (ev_t rfl) (ev_t rfl))) rfl rfl rfl ?_
    refine TL.op (yq (y_move (ev_t rfl))) rfl rfl rfl ?_
    refine TL.opw (w_f rfl rfl rfl) (fun hg => yq (y_move (ev_t rfl))) rfl rfl ?_
    refine TL.opw (w_f rfl rfl rfl) (fun hg => yq (y_move (ev_t rfl))) rfl rfl ?_
    refine TL.opw (w_f rfl rfl rfl) (fun hg => yq (y_bneq (ev_g rfl hg) (ev_g rfl hg) Try.underlying4)) rfl rfl ?_
    refine TL.op (yq (y_or (ev_t rfl) (fun hq => (ev_g rfl hq)))) rfl rfl rfl ?_
    refine TL.nil ?_
    refine TN.seq ?_
    refine TC.cond (b := ((!decide ((F_impl_RowDistance ((F_spec_DrawRowDistance code).1) ((F_spec_DrawRowDistance code).2)).1 = (F_spec_RowDistance ((F_spec_DrawRowDistance code).1) ((F_spec_DrawRowDistance code).2)).1)) || (((F_impl_RowDistance ((F_spec_DrawRowDistance code).1) ((F_spec_DrawRowDistance code).2)).2) != ((F_spec_RowDistance ((F_spec_DrawRowDistance code).1) ((F_spec_DrawRowDistance code).2)).2)))) (ev_t rfl) (fun h65 => ?_) (fun h65 => ?_)
    · rw [bif_pos h65] at hF
      have q66 := ((or_t h65).imp (fun h => (of_decide_eq_false (not_t h))) (fun h => h))
      refine TC.seq ?_
      refine TC.region ?_
      refine TL.op (yq (y_assign ev_c)) rfl rfl rfl ?_
      refine TL.nil ?_
      refine TN.seq ?_
      refine TC.ret ?_
      refine TN.thenR ?_
      subst hF
      exact TN.ret1 rfl (ev_t rfl) (fun w' hw => ⟨rfl, Hp.sublist hw (List.nil_sublist _)⟩)
    · rw [bif_neg h65] at hF
      have q66 := (and_imp (or_f h65) (fun h => (of_decide_eq_true (not_f h))) (fun h => h))
      refine TC.skip ?_
      refine TN.seq ?_
      refine TC.seq ?_
      refine TC.seq ?_
      refine TC.region ?_
      refine TL.op (yq (y_move (ev_t rfl))) rfl rfl rfl ?_
      refine TL.op (yq (y_not (ev_t rfl))) rfl rfl rfl ?_
      refine TL.nil ?_
      refine TN.seq ?_
      refine TC.cond (b := !((F_impl_RowDistance ((F_spec_DrawRowDistance code).1) ((F_spec_DrawRowDistance code).2)).2)) (ev_t rfl) (fun h67 => ?_) (fun h67 => ?_)
      · rw [bif_pos h67] at hF
        have q68 := (not_t h67)
        refine TC.seq ?_
        refine TC.region ?_
        refine TL.op (yq (y_assign ev_c)) rfl rfl rfl ?_
        refine TL.nil ?_
        refine TN.seq ?_
        refine TC.ret ?_
        refine TN.thenR ?_
        subst hF
        exact TN.ret1 rfl (ev_t rfl) (fun w' hw => ⟨rfl, Hp.sublist hw (List.nil_sublist _)⟩)
      · rw [bif_neg h67] at hF
        have q68 := (not_f h67)
        have hdr := (dist_rows q68)
        have hr1 := hdr.1.1
        have hr2 := hdr.2.1.1
        have hr3 := hdr.2.2
        refine TC.skip ?_
        refine TN.seq ?_
        refine TC.seq ?_
        refine TC.region ?_
        refine TL.buildI (zs := []) (qs := []) slT_34 rfl trivial rfl (by decide) rfl (fun v10_0 => ?_)
        refine TL.op (yq (y_assign (ev_t rfl))) rfl rfl rfl ?_
        refine TL.nil ?_
        refine TN.seq ?_
        refine TC.seq ?_
        refine TC.seq ?_
        refine TC.region ?_
        refine TL.op (yq (y_assign ev_c)) rfl rfl rfl ?_
        refine TL.nil ?_
        refine TN.seq ?_
        refine TC.block ?_
        obtain ⟨c69, hc70⟩ : ∃ c, F_laws_FnLineMoves_L1 code ((100 - 0) + 1) (([] : List Int), 0) = c := ⟨_, rfl⟩
        rw [hc70] at hF
        refine TC.loop (ι := Nat × List Int × Nat × Value) (fun (fu1, k9_1, k10_1, vk9_1) => [(3, r3_1.1), (4, r3_1.2), (5, (.int .i64 ((F_impl_RowDistance ((F_spec_DrawRowDistance code).1) ((F_spec_DrawRowDistance code).2)).1))), (9, vk9_1), (10, (.int .i64 (k10_1 : Int)))]) (fun (fu1, k9_1, k10_1, vk9_1) => Hp w [rowI 3 vk9_1 k9_1, rowI 3 r3_1.1 ((F_spec_DrawRowDistance code).1), rowI 3 r3_1.2 ((F_spec_DrawRowDistance code).2)]) (fun (fu1, k9_1, k10_1, vk9_1) => (k9_1.length ≤ k10_1) ∧ (k10_1 ≤ 100) ∧ 100 - k10_1 < fu1 ∧ F_laws_FnLineMoves_L1 code fu1 (k9_1, k10_1) = c69) (fun (fu1, k9_1, k10_1, vk9_1) => fu1) ((100 - 0) + 1, ([] : List Int), 0, v10_0) ⟨(by first | omega | (simp [-List.getD_eq_getElem?_getD] <;> omega)), (by first | omega | (simp [-List.getD_eq_getElem?_getD] <;> omega)), (by omega), hc70⟩ ⟨rfl, rfl, rfl, rfl, rfl, trivial⟩ (fun w hw => hw) ?_
        rintro ⟨fu1, k9_1, k10_1, vk9_1⟩ hJ1
        obtain ⟨hi1_0, hi1_1, hmu1, hL1⟩ : (k9_1.length ≤ k10_1) ∧ (k10_1 ≤ 100) ∧ 100 - k10_1 < fu1 ∧ F_laws_FnLineMoves_L1 code fu1 (k9_1, k10_1) = c69 := hJ1
        change TC _ _ _ _ (Hp w [rowI 3 vk9_1 k9_1, rowI 3 r3_1.1 ((F_spec_DrawRowDistance code).1), rowI 3 r3_1.2 ((F_spec_DrawRowDistance code).2)]) [(3, r3_1.1), (4, r3_1.2), (5, (.int .i64 ((F_impl_RowDistance ((F_spec_DrawRowDistance code).1) ((F_spec_DrawRowDistance code).2)).1))), (9, vk9_1), (10, (.int .i64 (k10_1 : Int)))]
        obtain ⟨mf1, rfl⟩ : ∃ m, fu1 = m + 1 := ⟨fu1 - 1, by omega⟩
        rw [F_laws_FnLineMoves_L1_s] at hL1
        refine TC.seq ?_
        refine TC.seq ?_
        refine TC.region ?_
        refine TL.op (yq (y_move (ev_t rfl))) rfl rfl rfl ?_
        refine TL.op (yq (y_leq (ev_t rfl) ev_c)) rfl rfl rfl ?_
        refine TL.nil ?_
        refine TN.seq ?_
        refine TC.cond (b := decide ((k10_1 : Int) ≤ 99)) (ev_t rfl) (fun h71 => ?_) (fun h71 => ?_)
        · rw [bif_pos h71] at hL1
          have q72 := (of_decide_eq_true h71)
          refine TC.skip ?_
          refine TN.seq ?_
          refine TC.seq ?_
          refine TC.block ?_
          refine TC.seq ?_
          refine TC.region ?_
          refine TL.op (yq (y_move (ev_t rfl))) rfl rfl rfl ?_
          refine TL.op (yq (y_move (ev_t rfl))) rfl rfl rfl ?_
          refine TL.op (y_call (vs := [r3_1.1, (.int .i64 (k10_1 : Int))]) (v := (.bool (F_laws_rHas ((F_spec_DrawRowDistance code).1) (k10_1 : Int)))) en_24 ⟨(ev_t rfl), (ev_t rfl), trivial⟩ (fun w hw => laws_rHas_ok w r3_1.1 ((F_spec_DrawRowDistance code).1) ((ri_row 1 rfl) w hw) (k10_1 : Int))) rfl rfl rfl ?_
          refine TL.op (yq (y_move (ev_t rfl))) rfl rfl rfl ?_
          refine TL.opw (w_f rfl rfl rfl) (fun hg => yq (y_move (ev_t rfl))) rfl rfl ?_
          refine TL.opw (w_f rfl rfl rfl) (fun hg => yq (y_move (ev_t rfl))) rfl rfl ?_
          refine TL.opw (w_f rfl rfl rfl) (fun hg => y_call (vs := [r3_1.2, (.int .i64 (k10_1 : Int))]) (v := (.bool (F_laws_rHas ((F_spec_DrawRowDistance code).2) (k10_1 : Int)))) en_24 ⟨(ev_g rfl hg), (ev_g rfl hg), trivial⟩ (fun w hw => laws_rHas_ok w r3_1.2 ((F_spec_DrawRowDistance code).2) ((ri_row 2 rfl) w hw) (k10_1 : Int))) rfl rfl ?_
          refine TL.op (yq (y_or (ev_t rfl) (fun hq => (ev_g rfl hq)))) rfl rfl rfl ?_
          refine TL.nil ?_
          refine TN.seq ?_
          refine TC.cond (b := ((F_laws_rHas ((F_spec_DrawRowDistance code).1) (k10_1 : Int)) || (F_laws_rHas ((F_spec_DrawRowDistance code).2) (k10_1 : Int)))) (ev_t rfl) (fun h73 => ?_) (fun h73 => ?_)
          · rw [bif_pos h73] at hL1
            have q74 := ((or_t h73).imp (fun h => h) (fun h => h))
            refine TC.region ?_
            refine TL.op (yq (y_move (ev_t rfl))) rfl rfl rfl ?_
            refine TL.op (yq (y_move (ev_t rfl))) rfl rfl rfl ?_
            refine TL.buildI (zs := [.tmp 64]) (qs := [(k10_1 : Int)]) slT_34 rfl ⟨(ev_t rfl), trivial⟩ rfl (by decide) rfl (fun v15_2 => ?_)
            refine TL.appendI 1 (ev_t rfl) (ev_t rfl) rfl slT_34 (ri_row 0 rfl) (by first | omega | (simp [-List.getD_eq_getElem?_getD] <;> omega)) rfl (fun v15_3 => ?_)
            refine TL.op (yq (y_assign (ev_t rfl))) rfl rfl rfl ?_
            refine TL.nil ?_
            refine TN.blockN ?_
            refine TN.seq ?_
            refine TC.region ?_
            refine TL.op (yq (y_move (ev_t rfl))) rfl rfl rfl ?_
            refine TL.op (yq (y_add (ev_t rfl) ev_c (by unfold In64; omega))) rfl rfl rfl ?_
            refine TL.op (yq (y_assign (ev_t rfl))) rfl rfl rfl ?_
            refine TL.nil ?_
            exact TN.hand (mf1, (k9_1 ++ ([(k10_1 : Int)])), (k10_1 + 1), v15_3) ⟨(by first | omega | (simp [-List.getD_eq_getElem?_getD] <;> omega)), (by first | omega | (simp [-List.getD_eq_getElem?_getD] <;> omega)), (by omega), hL1⟩ (Nat.lt_succ_self _) ⟨rfl, rfl, rfl, rfl, rfl, trivial⟩ (fun w hw => Hp.sublist hw (.cons _ (.cons_cons _ (.cons_cons _ (.cons_cons _ .slnil)))))
          · rw [bif_neg h73] at hL1
            have q74 := (and_imp (or_f h73) (fun h => h) (fun h => h))
            refine TC.skip ?_
            refine TN.blockN ?_
            refine TN.seq ?_
            refine TC.region ?_
            refine TL.op (yq (y_move (ev_t rfl))) rfl rfl rfl ?_
            refine TL.op (yq (y_add (ev_t rfl) ev_c (by unfold In64; omega))) rfl rfl rfl ?_
            refine TL.op (yq (y_assign (ev_t rfl))) rfl rfl rfl ?_
            refine TL.nil ?_
            exact TN.hand (mf1, k9_1, (k10_1 + 1), vk9_1) ⟨(by first | omega | (simp [-List.getD_eq_getElem?_getD] <;> omega)), (by first | omega | (simp [-List.getD_eq_getElem?_getD] <;> omega)), (by omega), hL1⟩ (Nat.lt_succ_self _) ⟨rfl, rfl, rfl, rfl, rfl, trivial⟩ (fun w hw => hw)
        · rw [bif_neg h71] at hL1
          have q72 := (of_decide_eq_false h71)
          refine TC.exit ?_
          refine TN.thenE ?_
          refine TN.thenE ?_
          rw [← hL1, elim_next] at hF
          try dsimp only at hF
          refine TN.blockH ?_
          refine TN.seq ?_
          refine TC.seq ?_
          refine TC.region ?_
          refine TL.op (yq (y_move (ev_t rfl))) rfl rfl rfl ?_
          refine TL.callr (ι := Value × List Value) (vs := [vk9_1]) (fun i => (.tuple #[(.agg #[i.1]), (.bool ((F_impl_LineMetric k9_1).2))])) (fun i => [tabI 34 3 i.1 i.2 ((F_impl_LineMetric k9_1).1)]) en_37 ⟨(ev_t rfl), trivial⟩ rfl (fun w hw => impl_LineMetric_ok w vk9_1 k9_1 ((ri_row 0 rfl) w hw)) (fun r16_1 => ?_)
          refine TL.op (yq (y_move (ev_t rfl))) rfl rfl rfl ?_
          refine TL.op (yq (y_extract (ev_t rfl) rfl)) rfl rfl rfl ?_
          refine TL.op (yq (y_extract (ev_t rfl) rfl)) rfl rfl rfl ?_
          refine TL.alloc (u := (.agg #[(.slice none 0 0)])) (by kernel_rfl) rfl (fun g16_5 => ?_)
          refine TL.storeAgg (cs := [(.slice none 0 0)]) (us := [r16_1.1]) 0 (ev_t rfl) (ev_t rfl) agg_45 rfl rfl (fun w hw => (ocs_cons (ln_one ((fun w hw => ((rii_tab 1 rfl) w hw).1) w hw).ln) ocs_nil)) ?_
          refine TL.op (yq (y_assign (ev_t rfl))) rfl rfl rfl ?_
          refine TL.nil ?_
          refine TN.seq ?_
          refine TC.seq ?_
          refine TC.seq ?_
          refine TC.region ?_
          refine TL.op (yq (y_move (ev_t rfl))) rfl rfl rfl ?_
          refine TL.callr (ι := Value × List Value) (vs := [vk9_1]) (fun i => (.tuple #[(.agg #[i.1]), (.bool ((F_spec_LineMetric k9_1).2))])) (fun i => [tabI 34 3 i.1 i.2 ((F_spec_LineMetric k9_1).1)]) en_38 ⟨(ev_t rfl), trivial⟩ rfl (fun w hw => spec_LineMetric_ok w vk9_1 k9_1 ((ri_row 2 rfl) w hw)) (fun r17_1 => ?_)
          refine TL.op (yq (y_move (ev_t rfl))) rfl rfl rfl ?_
          refine TL.op (yq (y_extract (ev_t rfl) rfl)) rfl rfl rfl ?_
          refine TL.op (yq (y_extract (ev_t rfl) rfl)) rfl rfl rfl ?_
          refine TL.alloc (u := (.agg #[(.slice none 0 0)])) (by kernel_rfl) rfl (fun g17_5 => ?_)
          refine TL.storeAgg (cs := [(.slice none 0 0)]) (us := [r17_1.1]) 0 (ev_t rfl) (ev_t rfl) agg_45 rfl rfl (fun w hw => (ocs_cons (ln_one ((fun w hw => ((rii_tab 1 rfl) w hw).1) w hw).ln) ocs_nil)) ?_
          refine TL.op (yq (y_assign (ev_t rfl))) rfl rfl rfl ?_
          refine TL.nil ?_
          refine TN.seq ?_
          refine TC.seq ?_
          refine TC.region ?_
          refine TL.op (yq (y_move (ev_t rfl))) rfl rfl rfl ?_
          refine TL.op (yq (y_not (ev_t rfl))) rfl rfl rfl ?_
          refine TL.op (yq (y_move (ev_t rfl))) rfl rfl rfl ?_
          refine TL.opw (w_f rfl rfl rfl) (fun hg => yq (y_move (ev_t rfl))) rfl rfl ?_
          refine TL.opw (w_f rfl rfl rfl) (fun hg => yq (y_not (ev_g rfl hg))) rfl rfl ?_
          refine TL.op (yq (y_or (ev_t rfl) (fun hq => (ev_g rfl hq)))) rfl rfl rfl ?_
          refine TL.op (yq (y_move (ev_t rfl))) rfl rfl rfl ?_
          refine TL.opw (w_f rfl rfl rfl) (fun hg => yq (y_ldagg (cs := [r16_1.1]) 2 (ev_t rfl) agg_45 rfl)) rfl rfl ?_
          refine TL.opw (w_f rfl rfl rfl) (fun hg => yq (y_ldagg (cs := [r17_1.1]) 0 (ev_t rfl) agg_45 rfl)) rfl rfl ?_
          refine TL.opw (w_f rfl rfl rfl) (fun hg => y_call (vs := [(.agg #[r16_1.1]), (.agg #[r17_1.1])]) (v := (.bool (F_laws_rMetric ((F_impl_LineMetric k9_1).1) ((F_spec_LineMetric k9_1).1)))) en_28 ⟨(ev_g rfl hg), (ev_g rfl hg), trivial⟩ (fun w hw => laws_rMetric_ok w r16_1.1 r16_1.2 ((F_impl_LineMetric k9_1).1) ((rii_tab 3 rfl) w hw) r17_1.1 r17_1.2 ((F_spec_LineMetric k9_1).1) ((rii_tab 1 rfl) w hw))) rfl rfl ?_
          refine TL.opw (w_f rfl rfl rfl) (fun hg => yq (y_not (ev_g rfl hg))) rfl rfl ?_
          refine TL.op (yq (y_or (ev_t rfl) (fun hq => (ev_g rfl hq)))) rfl rfl rfl ?_
          refine TL.nil ?_
          refine TN.seq ?_
          refine TC.cond (b := (((!((F_impl_LineMetric k9_1).2)) || (!((F_spec_LineMetric k9_1).2))) || (!(F_laws_rMetric ((F_impl_LineMetric k9_1).1) ((F_spec_LineMetric k9_1).1))))) (ev_t rfl) (fun h75 => ?_) (fun h75 => ?_)
          · rw [bif_pos h75] at hF
            have q76 := ((or_t h75).imp (fun h => ((or_t h).imp (fun h => (not_t h)) (fun h => (not_t h)))) (fun h => (not_t h)))
            refine TC.seq ?_
            refine TC.region ?_
            refine TL.op (yq (y_assign ev_c)) rfl rfl rfl ?_
            refine TL.nil ?_
            refine TN.seq ?_
            refine TC.ret ?_
            refine TN.thenR ?_
            subst hF
            exact TN.ret1 rfl (ev_t rfl) (fun w' hw => ⟨rfl, Hp.sublist hw (List.nil_sublist _)⟩)
          · rw [bif_neg h75] at hF
            have q76 := (and_imp (or_f h75) (fun h => (and_imp (or_f h) (fun h => (not_f h)) (fun h => (not_f h)))) (fun h => (not_f h)))
            refine TC.skip ?_
            refine TN.seq ?_
            refine TC.seq ?_
            refine TC.region ?_
            refine TL.buildI (zs := []) (qs := []) slT_34 rfl trivial rfl (by decide) rfl (fun v20_0 => ?_)
            refine TL.buildI (zs := []) (qs := []) slT_34 rfl trivial rfl (by decide) rfl (fun v20_1 => ?_)
            refine TL.op (yq (y_assign (ev_t rfl))) rfl rfl rfl ?_
            refine TL.op (yq (y_assign (ev_t rfl))) rfl rfl rfl ?_
            refine TL.nil ?_
            refine TN.seq ?_
            refine TC.seq ?_
            refine TC.seq ?_
            refine TC.region ?_
            refine TL.op (yq (y_assign ev_c)) rfl rfl rfl ?_
            refine TL.nil ?_
            refine TN.seq ?_
            refine TC.block ?_
            obtain ⟨c77, hc78⟩ : ∃ c, F_laws_FnLineMoves_L2 code k9_1 ((((F_spec_DrawRowDistance code).1.length) - 0) + 1) (([] : List Int), ([] : List Int), 0) = c := ⟨_, rfl⟩
            rw [hc78] at hF
            refine TC.loop (ι := Nat × List Int × List Int × Nat × Value × Value) (fun (fu2, k15_2, k16_2, k17_2, vk15_2, vk16_2) => [(3, r3_1.1), (4, r3_1.2), (5, (.int .i64 ((F_impl_RowDistance ((F_spec_DrawRowDistance code).1) ((F_spec_DrawRowDistance code).2)).1))), (9, vk9_1), (11, (.pointer (some ⟨g16_5, 0, none⟩))), (15, vk15_2), (16, vk16_2), (17, (.int .i64 (k17_2 : Int)))]) (fun (fu2, k15_2, k16_2, k17_2, vk15_2, vk16_2) => Hp w [rowI 3 vk16_2 k16_2, rowI 3 vk15_2 k15_2, .blk g16_5 45 [r16_1.1], tabI 34 3 r16_1.1 r16_1.2 ((F_impl_LineMetric k9_1).1), rowI 3 vk9_1 k9_1, rowI 3 r3_1.1 ((F_spec_DrawRowDistance code).1), rowI 3 r3_1.2 ((F_spec_DrawRowDistance code).2)]) (fun (fu2, k15_2, k16_2, k17_2, vk15_2, vk16_2) => (k17_2 ≤ ((F_spec_DrawRowDistance code).1.length)) ∧ (k15_2.length ≤ 100 * k17_2) ∧ (k16_2.length ≤ 100 * k17_2) ∧ ((F_spec_DrawRowDistance code).1.length) - k17_2 < fu2 ∧ F_laws_FnLineMoves_L2 code k9_1 fu2 (k15_2, k16_2, k17_2) = c77) (fun (fu2, k15_2, k16_2, k17_2, vk15_2, vk16_2) => fu2) ((((F_spec_DrawRowDistance code).1.length) - 0) + 1, ([] : List Int), ([] : List Int), 0, v20_0, v20_1) ⟨(by first | omega | (simp [-List.getD_eq_getElem?_getD] <;> omega)), (by first | omega | (simp [-List.getD_eq_getElem?_getD] <;> omega)), (by first | omega | (simp [-List.getD_eq_getElem?_getD] <;> omega)), (by omega), hc78⟩ ⟨rfl, rfl, rfl, rfl, rfl, rfl, rfl, rfl, trivial⟩ (fun w hw => Hp.sublist hw (.cons_cons _ (.cons_cons _ (.cons _ (.cons _ (.cons_cons _ (.cons_cons _ (.cons_cons _ (.cons_cons _ (.cons_cons _ .slnil)))))))))) ?_
            rintro ⟨fu2, k15_2, k16_2, k17_2, vk15_2, vk16_2⟩ hJ2
            obtain ⟨hi2_0, hi2_1, hi2_2, hmu2, hL2⟩ : (k17_2 ≤ ((F_spec_DrawRowDistance code).1.length)) ∧ (k15_2.length ≤ 100 * k17_2) ∧ (k16_2.length ≤ 100 * k17_2) ∧ ((F_spec_DrawRowDistance code).1.length) - k17_2 < fu2 ∧ F_laws_FnLineMoves_L2 code k9_1 fu2 (k15_2, k16_2, k17_2) = c77 := hJ2
            change TC _ _ _ _ (Hp w [rowI 3 vk16_2 k16_2, rowI 3 vk15_2 k15_2, .blk g16_5 45 [r16_1.1], tabI 34 3 r16_1.1 r16_1.2 ((F_impl_LineMetric k9_1).1), rowI 3 vk9_1 k9_1, rowI 3 r3_1.1 ((F_spec_DrawRowDistance code).1), rowI 3 r3_1.2 ((F_spec_DrawRowDistance code).2)]) [(3, r3_1.1), (4, r3_1.2), (5, (.int .i64 ((F_impl_RowDistance ((F_spec_DrawRowDistance code).1) ((F_spec_DrawRowDistance code).2)).1))), (9, vk9_1), (11, (.pointer (some ⟨g16_5, 0, none⟩))), (15, vk15_2), (16, vk16_2), (17, (.int .i64 (k17_2 : Int)))]
            obtain ⟨mf2, rfl⟩ : ∃ m, fu2 = m + 1 := ⟨fu2 - 1, by omega⟩
            rw [F_laws_FnLineMoves_L2_s] at hL2
            refine TC.seq ?_
            refine TC.seq ?_
            refine TC.region ?_
            refine TL.op (yq (y_move (ev_t rfl))) rfl rfl rfl ?_
            refine TL.op (yq (y_move (ev_t rfl))) rfl rfl rfl ?_
            refine TL.op (yq (y_len (ev_t rfl) Try.underlying34 (fun w hw => ((ri_row 5 rfl) w hw).ln))) rfl rfl rfl ?_
            refine TL.op (yq (y_lss (ev_t rfl) (ev_t rfl))) rfl rfl rfl ?_
            refine TL.nil ?_
            refine TN.seq ?_
            refine TC.cond (b := decide ((k17_2 : Int) < ((F_spec_DrawRowDistance code).1.length : Int))) (ev_t rfl) (fun h79 => ?_) (fun h79 => ?_)
            · rw [bif_pos h79] at hL2
              have q80 := (of_decide_eq_true h79)
              refine TC.skip ?_
              refine TN.seq ?_
              refine TC.seq ?_
              refine TC.block ?_
              refine TC.seq ?_
              refine TC.region ?_
              refine TL.op (yq (y_assign ev_c)) rfl rfl rfl ?_
              refine TL.nil ?_
              refine TN.seq ?_
              refine TC.block ?_
              obtain ⟨c81, hc82⟩ : ∃ c, F_laws_FnLineMoves_L3 code k9_1 k17_2 ((k9_1.length - 0) + 1) (k15_2, k16_2, 0) = c := ⟨_, rfl⟩
              rw [hc82] at hL2
              refine TC.loop (ι := Nat × List Int × List Int × Nat × Value × Value) (fun (fu3, k15_3, k16_3, k18_3, vk15_3, vk16_3) => [(3, r3_1.1), (4, r3_1.2), (5, (.int .i64 ((F_impl_RowDistance ((F_spec_DrawRowDistance code).1) ((F_spec_DrawRowDistance code).2)).1))), (9, vk9_1), (11, (.pointer (some ⟨g16_5, 0, none⟩))), (15, vk15_3), (16, vk16_3), (17, (.int .i64 (k17_2 : Int))), (18, (.int .i64 (k18_3 : Int)))]) (fun (fu3, k15_3, k16_3, k18_3, vk15_3, vk16_3) => Hp w [rowI 3 vk16_3 k16_3, rowI 3 vk15_3 k15_3, .blk g16_5 45 [r16_1.1], tabI 34 3 r16_1.1 r16_1.2 ((F_impl_LineMetric k9_1).1), rowI 3 vk9_1 k9_1, rowI 3 r3_1.1 ((F_spec_DrawRowDistance code).1), rowI 3 r3_1.2 ((F_spec_DrawRowDistance code).2)]) (fun (fu3, k15_3, k16_3, k18_3, vk15_3, vk16_3) => (k18_3 ≤ k9_1.length) ∧ (k15_3.length ≤ 100 * k17_2 + k18_3) ∧ (k16_3.length ≤ 100 * k17_2 + k18_3) ∧ k9_1.length - k18_3 < fu3 ∧ F_laws_FnLineMoves_L3 code k9_1 k17_2 fu3 (k15_3, k16_3, k18_3) = c81) (fun (fu3, k15_3, k16_3, k18_3, vk15_3, vk16_3) => fu3) ((k9_1.length - 0) + 1, k15_2, k16_2, 0, vk15_2, vk16_2) ⟨(by first | omega | (simp [-List.getD_eq_getElem?_getD] <;> omega)), (by first | omega | (simp [-List.getD_eq_getElem?_getD] <;> omega)), (by first | omega | (simp [-List.getD_eq_getElem?_getD] <;> omega)), (by omega), hc82⟩ ⟨rfl, rfl, rfl, rfl, rfl, rfl, rfl, rfl, rfl, trivial⟩ (fun w hw => hw) ?_
              rintro ⟨fu3, k15_3, k16_3, k18_3, vk15_3, vk16_3⟩ hJ3
              obtain ⟨hi3_0, hi3_1, hi3_2, hmu3, hL3⟩ : (k18_3 ≤ k9_1.length) ∧ (k15_3.length ≤ 100 * k17_2 + k18_3) ∧ (k16_3.length ≤ 100 * k17_2 + k18_3) ∧ k9_1.length - k18_3 < fu3 ∧ F_laws_FnLineMoves_L3 code k9_1 k17_2 fu3 (k15_3, k16_3, k18_3) = c81 := hJ3
              change TC _ _ _ _ (Hp w [rowI 3 vk16_3 k16_3, rowI 3 vk15_3 k15_3, .blk g16_5 45 [r16_1.1], tabI 34 3 r16_1.1 r16_1.2 ((F_impl_LineMetric k9_1).1), rowI 3 vk9_1 k9_1, rowI 3 r3_1.1 ((F_spec_DrawRowDistance code).1), rowI 3 r3_1.2 ((F_spec_DrawRowDistance code).2)]) [(3, r3_1.1), (4, r3_1.2), (5, (.int .i64 ((F_impl_RowDistance ((F_spec_DrawRowDistance code).1) ((F_spec_DrawRowDistance code).2)).1))), (9, vk9_1), (11, (.pointer (some ⟨g16_5, 0, none⟩))), (15, vk15_3), (16, vk16_3), (17, (.int .i64 (k17_2 : Int))), (18, (.int .i64 (k18_3 : Int)))]
              obtain ⟨mf3, rfl⟩ : ∃ m, fu3 = m + 1 := ⟨fu3 - 1, by omega⟩
              rw [F_laws_FnLineMoves_L3_s] at hL3
              refine TC.seq ?_
              refine TC.seq ?_
              refine TC.region ?_
              refine TL.op (yq (y_move (ev_t rfl))) rfl rfl rfl ?_
              refine TL.op (yq (y_move (ev_t rfl))) rfl rfl rfl ?_
              refine TL.op (yq (y_len (ev_t rfl) Try.underlying34 (fun w hw => ((ri_row 4 rfl) w hw).ln))) rfl rfl rfl ?_
              refine TL.op (yq (y_lss (ev_t rfl) (ev_t rfl))) rfl rfl rfl ?_
              refine TL.nil ?_
              refine TN.seq ?_
              refine TC.cond (b := decide ((k18_3 : Int) < (k9_1.length : Int))) (ev_t rfl) (fun h83 => ?_) (fun h83 => ?_)
              · rw [bif_pos h83] at hL3
                have q84 := (of_decide_eq_true h83)
                refine TC.skip ?_
                refine TN.seq ?_
                refine TC.seq ?_
                refine TC.block ?_
                refine TC.seq ?_
                refine TC.seq ?_
                refine TC.regionQ (by kernel_rfl) (by kernel_rfl) dr_hp ?_
                refine TQ.op (yq (y_move (ev_t rfl))) rfl rfl rfl ?_
                refine TQ.op (yq (y_move (ev_t rfl))) rfl rfl rfl ?_
                have hb85 : k18_3 < k9_1.length := (by first | omega | (simp only [List.length_set, List.length_append, List.length_cons, List.length_nil, List.length_replicate]; omega) | (rw [sortI_length]; simp only [List.length_cons, List.length_nil]; omega))
                refine TQ.op (yq (y_idx (k := k18_3) (ev_t rfl) (ev_t rfl) (by first | omega | simp) slT_34 (ri_row 4 rfl) hb85)) rfl rfl rfl ?_
                refine TQ.op (yq (y_ldi (ev_t rfl) one_3 (ri_row 4 rfl) hb85)) rfl rfl rfl ?_
                refine TQ.op (yq (y_move (ev_t rfl))) rfl rfl rfl ?_
                refine TQ.op (yq (y_move (ev_t rfl))) rfl rfl rfl ?_
                have hb86 : k17_2 < (F_spec_DrawRowDistance code).1.length := (by first | omega | (simp only [List.length_set, List.length_append, List.length_cons, List.length_nil, List.length_replicate]; omega) | (rw [sortI_length]; simp only [List.length_cons, List.length_nil]; omega))
                refine TQ.op (yq (y_idx (k := k17_2) (ev_t rfl) (ev_t rfl) (by first | omega | simp) slT_34 (ri_row 5 rfl) hb86)) rfl rfl rfl ?_
                refine TQ.op (yq (y_ldi (ev_t rfl) one_3 (ri_row 5 rfl) hb86)) rfl rfl rfl ?_
                refine TQ.op (yq (y_eql (ev_t rfl) (ev_t rfl))) rfl rfl rfl ?_
                refine TQ.nil ?_
                refine TN.seq ?_
                refine TC.cond (b := decide ((k9_1.getD k18_3 0) = ((F_spec_DrawRowDistance code).1.getD k17_2 0))) (ev_t rfl) (fun h87 => ?_) (fun h87 => ?_)
                · rw [bif_pos h87] at hL3
                  have q88 := (of_decide_eq_true h87)
                  refine TC.region ?_
                  refine TL.op (yq (y_move (ev_t rfl))) rfl rfl rfl ?_
                  refine TL.op (yq (y_move (ev_t rfl))) rfl rfl rfl ?_
                  refine TL.buildI (zs := [.tmp 113]) (qs := [(k18_3 : Int)]) slT_34 rfl ⟨(ev_t rfl), trivial⟩ rfl (by decide) rfl (fun v28_2 => ?_)
                  refine TL.appendI 2 (ev_t rfl) (ev_t rfl) rfl slT_34 (ri_row 0 rfl) (by first | omega | (simp [-List.getD_eq_getElem?_getD] <;> omega)) rfl (fun v28_3 => ?_)
                  refine TL.op (yq (y_assign (ev_t rfl))) rfl rfl rfl ?_
                  refine TL.nil ?_
                  refine TN.seq ?_
                  refine TC.seq ?_
                  refine TC.regionQ (by kernel_rfl) (by kernel_rfl) dr_hp ?_
                  refine TQ.op (yq (y_move (ev_t rfl))) rfl rfl rfl ?_
                  refine TQ.op (yq (y_move (ev_t rfl))) rfl rfl rfl ?_
                  have hb89 : k18_3 < k9_1.length := (by first | omega | (simp only [List.length_set, List.length_append, List.length_cons, List.length_nil, List.length_replicate]; omega) | (rw [sortI_length]; simp only [List.length_cons, List.length_nil]; omega))
                  refine TQ.op (yq (y_idx (k := k18_3) (ev_t rfl) (ev_t rfl) (by first | omega | simp) slT_34 (ri_row 5 rfl) hb89)) rfl rfl rfl ?_
                  refine TQ.op (yq (y_ldi (ev_t rfl) one_3 (ri_row 5 rfl) hb89)) rfl rfl rfl ?_
                  refine TQ.op (yq (y_move (ev_t rfl))) rfl rfl rfl ?_
                  refine TQ.op (yq (y_move (ev_t rfl))) rfl rfl rfl ?_
                  have hb90 : k17_2 < (F_spec_DrawRowDistance code).2.length := (by first | omega | (simp only [List.length_set, List.length_append, List.length_cons, List.length_nil, List.length_replicate]; omega) | (rw [sortI_length]; simp only [List.length_cons, List.length_nil]; omega))
                  refine TQ.op (yq (y_idx (k := k17_2) (ev_t rfl) (ev_t rfl) (by first | omega | simp) slT_34 (ri_row 7 rfl) hb90)) rfl rfl rfl ?_
                  refine TQ.op (yq (y_ldi (ev_t rfl) one_3 (ri_row 7 rfl) hb90)) rfl rfl rfl ?_
                  refine TQ.op (yq (y_eql (ev_t rfl) (ev_t rfl))) rfl rfl rfl ?_
                  refine TQ.nil ?_
                  refine TN.seq ?_
                  refine TC.cond (b := decide ((k9_1.getD k18_3 0) = ((F_spec_DrawRowDistance code).2.getD k17_2 0))) (ev_t rfl) (fun h91 => ?_) (fun h91 => ?_)
                  · rw [bif_pos h91] at hL3
                    have q92 := (of_decide_eq_true h91)
                    refine TC.region ?_
                    refine TL.op (yq (y_move (ev_t rfl))) rfl rfl rfl ?_
                    refine TL.op (yq (y_move (ev_t rfl))) rfl rfl rfl ?_
                    refine TL.buildI (zs := [.tmp 126]) (qs := [(k18_3 : Int)]) slT_34 rfl ⟨(ev_t rfl), trivial⟩ rfl (by decide) rfl (fun v30_2 => ?_)
                    refine TL.appendI 2 (ev_t rfl) (ev_t rfl) rfl slT_34 (ri_row 0 rfl) (by first | omega | (simp [-List.getD_eq_getElem?_getD] <;> omega)) rfl (fun v30_3 => ?_)
                    refine TL.op (yq (y_assign (ev_t rfl))) rfl rfl rfl ?_
                    refine TL.nil ?_
                    refine TN.blockN ?_
                    refine TN.seq ?_
                    refine TC.region ?_
                    refine TL.op (yq (y_move (ev_t rfl))) rfl rfl rfl ?_
                    refine TL.op (yq (y_add (ev_t rfl) ev_c (by unfold In64; omega))) rfl rfl rfl ?_
                    refine TL.op (yq (y_assign (ev_t rfl))) rfl rfl rfl ?_
                    refine TL.nil ?_
                    exact TN.hand (mf3, (k15_3 ++ ([(k18_3 : Int)])), (k16_3 ++ ([(k18_3 : Int)])), (k18_3 + 1), v28_3, v30_3) ⟨(by first | omega | (simp [-List.getD_eq_getElem?_getD] <;> omega)), (by first | omega | (simp [-List.getD_eq_getElem?_getD] <;> omega)), (by first | omega | (simp [-List.getD_eq_getElem?_getD] <;> omega)), (by omega), hL3⟩ (Nat.lt_succ_self _) ⟨rfl, rfl, rfl, rfl, rfl, rfl, rfl, rfl, rfl, trivial⟩ (fun w hw => Hp.sublist hw (.cons _ (.cons _ (.cons_cons _ (.cons_cons _ (.cons_cons _ (.cons_cons _ (.cons_cons _ (.cons_cons _ (.cons_cons _ .slnil))))))))))
                  · rw [bif_neg h91] at hL3
                    have q92 := (of_decide_eq_false h91)
                    refine TC.skip ?_
                    refine TN.blockN ?_
                    refine TN.seq ?_
                    refine TC.region ?_
                    refine TL.op (yq (y_move (ev_t rfl))) rfl rfl rfl ?_
                    refine TL.op (yq (y_add (ev_t rfl) ev_c (by unfold In64; omega))) rfl rfl rfl ?_
                    refine TL.op (yq (y_assign (ev_t rfl))) rfl rfl rfl ?_
                    refine TL.nil ?_
                    exact TN.hand (mf3, (k15_3 ++ ([(k18_3 : Int)])), k16_3, (k18_3 + 1), v28_3, vk16_3) ⟨(by first | omega | (simp [-List.getD_eq_getElem?_getD] <;> omega)), (by first | omega | (simp [-List.getD_eq_getElem?_getD] <;> omega)), (by first | omega | (simp [-List.getD_eq_getElem?_getD] <;> omega)), (by omega), hL3⟩ (Nat.lt_succ_self _) ⟨rfl, rfl, rfl, rfl, rfl, rfl, rfl, rfl, rfl, trivial⟩ (fun w hw => Hp.sublist hw (.cons _ (.cons_cons _ (.cons_cons _ (.cons_cons _ (.cons_cons _ (.cons_cons _ (.cons_cons _ (.cons_cons _ .slnil)))))))))
                · rw [bif_neg h87] at hL3
                  have q88 := (of_decide_eq_false h87)
                  refine TC.skip ?_
                  refine TN.seq ?_
                  refine TC.seq ?_
                  refine TC.regionQ (by kernel_rfl) (by kernel_rfl) dr_hp ?_
                  refine TQ.op (yq (y_move (ev_t rfl))) rfl rfl rfl ?_
                  refine TQ.op (yq (y_move (ev_t rfl))) rfl rfl rfl ?_
                  have hb93 : k18_3 < k9_1.length := (by first | omega | (simp only [List.length_set, List.length_append, List.length_cons, List.length_nil, List.length_replicate]; omega) | (rw [sortI_length]; simp only [List.length_cons, List.length_nil]; omega))
                  refine TQ.op (yq (y_idx (k := k18_3) (ev_t rfl) (ev_t rfl) (by first | omega | simp) slT_34 (ri_row 4 rfl) hb93)) rfl rfl rfl ?_
                  refine TQ.op (yq (y_ldi (ev_t rfl) one_3 (ri_row 4 rfl) hb93)) rfl rfl rfl ?_
                  refine TQ.op (yq (y_move (ev_t rfl))) rfl rfl rfl ?_
                  refine TQ.op (yq (y_move (ev_t rfl))) rfl rfl rfl ?_
                  have hb94 : k17_2 < (F_spec_DrawRowDistance code).2.length := (by first | omega | (simp only [List.length_set, List.length_append, List.length_cons, List.length_nil, List.length_replicate]; omega) | (rw [sortI_length]; simp only [List.length_cons, List.length_nil]; omega))
                  refine TQ.op (yq (y_idx (k := k17_2) (ev_t rfl) (ev_t rfl) (by first | omega | simp) slT_34 (ri_row 6 rfl) hb94)) rfl rfl rfl ?_
                  refine TQ.op (yq (y_ldi (ev_t rfl) one_3 (ri_row 6 rfl) hb94)) rfl rfl rfl ?_
                  refine TQ.op (yq (y_eql (ev_t rfl) (ev_t rfl))) rfl rfl rfl ?_
                  refine TQ.nil ?_
                  refine TN.seq ?_
                  refine TC.cond (b := decide ((k9_1.getD k18_3 0) = ((F_spec_DrawRowDistance code).2.getD k17_2 0))) (ev_t rfl) (fun h95 => ?_) (fun h95 => ?_)
                  · rw [bif_pos h95] at hL3
                    have q96 := (of_decide_eq_true h95)
                    refine TC.region ?_
                    refine TL.op (yq (y_move (ev_t rfl))) rfl rfl rfl ?_
                    refine TL.op (yq (y_move (ev_t rfl))) rfl rfl rfl ?_
                    refine TL.buildI (zs := [.tmp 126]) (qs := [(k18_3 : Int)]) slT_34 rfl ⟨(ev_t rfl), trivial⟩ rfl (by decide) rfl (fun v30_2 => ?_)
                    refine TL.appendI 1 (ev_t rfl) (ev_t rfl) rfl slT_34 (ri_row 0 rfl) (by first | omega | (simp [-List.getD_eq_getElem?_getD] <;> omega)) rfl (fun v30_3 => ?_)
                    refine TL.op (yq (y_assign (ev_t rfl))) rfl rfl rfl ?_
                    refine TL.nil ?_
                    refine TN.blockN ?_
                    refine TN.seq ?_
                    refine TC.region ?_
                    refine TL.op (yq (y_move (ev_t rfl))) rfl rfl rfl ?_
                    refine TL.op (yq (y_add (ev_t rfl) ev_c (by unfold In64; omega))) rfl rfl rfl ?_
                    refine TL.op (yq (y_assign (ev_t rfl))) rfl rfl rfl ?_
                    refine TL.nil ?_
                    exact TN.hand (mf3, k15_3, (k16_3 ++ ([(k18_3 : Int)])), (k18_3 + 1), vk15_3, v30_3) ⟨(by first | omega | (simp [-List.getD_eq_getElem?_getD] <;> omega)), (by first | omega | (simp [-List.getD_eq_getElem?_getD] <;> omega)), (by first | omega | (simp [-List.getD_eq_getElem?_getD] <;> omega)), (by omega), hL3⟩ (Nat.lt_succ_self _) ⟨rfl, rfl, rfl, rfl, rfl, rfl, rfl, rfl, rfl, trivial⟩ (fun w hw => Hp.sublist hw (.cons _ (.cons_cons _ (.cons_cons _ (.cons_cons _ (.cons_cons _ (.cons_cons _ (.cons_cons _ (.cons_cons _ .slnil)))))))))
                  · rw [bif_neg h95] at hL3
                    have q96 := (of_decide_eq_false h95)
                    refine TC.skip ?_
                    refine TN.blockN ?_
                    refine TN.seq ?_
                    refine TC.region ?_
                    refine TL.op (yq (y_move (ev_t rfl))) rfl rfl rfl ?_
                    refine TL.op (yq (y_add (ev_t rfl) ev_c (by unfold In64; omega))) rfl rfl rfl ?_
                    refine TL.op (yq (y_assign (ev_t rfl))) rfl rfl rfl ?_
                    refine TL.nil ?_
                    exact TN.hand (mf3, k15_3, k16_3, (k18_3 + 1), vk15_3, vk16_3) ⟨(by first | omega | (simp [-List.getD_eq_getElem?_getD] <;> omega)), (by first | omega | (simp [-List.getD_eq_getElem?_getD] <;> omega)), (by first | omega | (simp [-List.getD_eq_getElem?_getD] <;> omega)), (by omega), hL3⟩ (Nat.lt_succ_self _) ⟨rfl, rfl, rfl, rfl, rfl, rfl, rfl, rfl, rfl, trivial⟩ (fun w hw => hw)
              · rw [bif_neg h83] at hL3
                have q84 := (of_decide_eq_false h83)
                refine TC.exit ?_
                refine TN.thenE ?_
                refine TN.thenE ?_
                rw [← hL3, elim_next] at hL2
                try dsimp only at hL2
                refine TN.blockH ?_
                refine TN.blockN ?_
                refine TN.seq ?_
                refine TC.region ?_
                refine TL.op (yq (y_move (ev_t rfl))) rfl rfl rfl ?_
                refine TL.op (yq (y_add (ev_t rfl) ev_c (by unfold In64; omega))) rfl rfl rfl ?_
                refine TL.op (yq (y_assign (ev_t rfl))) rfl rfl rfl ?_
                refine TL.nil ?_
                exact TN.hand (mf2, k15_3, k16_3, (k17_2 + 1), vk15_3, vk16_3) ⟨(by first | omega | (simp [-List.getD_eq_getElem?_getD] <;> omega)), (by first | omega | (simp [-List.getD_eq_getElem?_getD] <;> omega)), (by first | omega | (simp [-List.getD_eq_getElem?_getD] <;> omega)), (by omega), hL2⟩ (Nat.lt_succ_self _) ⟨rfl, rfl, rfl, rfl, rfl, rfl, rfl, rfl, trivial⟩ (fun w hw => hw)
            · rw [bif_neg h79] at hL2
              have q80 := (of_decide_eq_false h79)
              refine TC.exit ?_
              refine TN.thenE ?_
              refine TN.thenE ?_
              rw [← hL2, elim_next] at hF
              try dsimp only at hF
              refine TN.blockH ?_
              refine TN.seq ?_
              refine TC.seq ?_
              refine TC.region ?_
              refine TL.op (yq (y_ldagg (cs := [r16_1.1]) 2 (ev_t rfl) agg_45 rfl)) rfl rfl rfl ?_
              refine TL.op (yq (y_move (ev_t rfl))) rfl rfl rfl ?_
              refine TL.op (yq (y_move (ev_t rfl))) rfl rfl rfl ?_
              refine TL.op (y_call (vs := [(.agg #[r16_1.1]), vk15_2, vk16_2]) (v := (.tuple #[(.int .i64 ((F_impl_MoveCost ((F_impl_LineMetric k9_1).1) k15_2 k16_2).1)), (.bool ((F_impl_MoveCost ((F_impl_LineMetric k9_1).1) k15_2 k16_2).2))])) en_39 ⟨(ev_t rfl), (ev_t rfl), (ev_t rfl), trivial⟩ (fun w hw => impl_MoveCost_ok w r16_1.1 r16_1.2 ((F_impl_LineMetric k9_1).1) ((rii_tab 3 rfl) w hw) vk15_2 k15_2 ((ri_row 1 rfl) w hw) vk16_2 k16_2 ((ri_row 0 rfl) w hw))) rfl rfl rfl ?_
              refine TL.op (yq (y_move (ev_t rfl))) rfl rfl rfl ?_
              refine TL.op (yq (y_extract (ev_t rfl) rfl)) rfl rfl rfl ?_
              refine TL.op (yq (y_extract (ev_t rfl) rfl)) rfl rfl rfl ?_
              refine TL.op (yq (y_assign (ev_t rfl))) rfl rfl rfl ?_
              refine TL.op (yq (y_assign (ev_t rfl))) rfl rfl rfl ?_
              refine TL.nil ?_
              refine TN.seq ?_
              refine TC.seq ?_
              refine TC.region ?_
              refine TL.op (yq (y_move (ev_t rfl))) rfl rfl rfl ?_
              refine TL.op (yq (y_move (ev_t rfl))) rfl rfl rfl ?_
              refine TL.opw (w_t rfl rfl rfl) (fun hg => yq (y_move (ev_t rfl))) rfl rfl ?_
              refine TL.opw (w_t rfl rfl rfl) (fun hg => yq (y_move (ev_t rfl))) rfl rfl ?_
              refine TL.opw (w_t rfl rfl rfl) (fun hg => yq (y_eql (ev_g rfl hg) (ev_g rfl hg))) rfl rfl ?_
              refine TL.op (yq (y_and (ev_t rfl) (fun hq => (ev_g rfl hq)))) rfl rfl rfl ?_
              refine TL.op (yq (y_assign (ev_t rfl))) rfl rfl rfl ?_
              refine TL.nil ?_
              refine TN.seq ?_
              refine TC.ret ?_
              subst hF
              exact TN.ret1 rfl (ev_t rfl) (fun w' hw => ⟨rfl, Hp.sublist hw (List.nil_sublist _)⟩)


end Go.Proofs.Ytfhhfhiooehlcaa
