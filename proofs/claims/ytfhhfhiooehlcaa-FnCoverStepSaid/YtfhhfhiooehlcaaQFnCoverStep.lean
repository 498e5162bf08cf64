/-
  Walks of functions of the program: each computes its plain function. No condition but the bounds that are typed.
-/
import Derived.Test.YtfhhfhiooehlcaaQU
import Derived.Test.YtfhhfhiooehlcaaQ4
import Derived.Test.YtfhhfhiooehlcaaLawFnC
namespace Go.Proofs.Ytfhhfhiooehlcaa
open Go Go.RowKit

set_option maxRecDepth 4000 in
set_option maxHeartbeats 1000000 in
theorem laws_FnCoverStep_ok (w : World) (vcode : Value) (code : List Int) (hcode : RB w vcode code)  :
    Calls Try.prog 4 ([vcode] : List Value).toArray w (Ret (.bool (F_laws_FnCoverStep code)) (Hp w [])) := by
  obtain ⟨rz, hF⟩ : ∃ rz, (F_laws_FnCoverStep code) = rz := ⟨_, rfl⟩
  rw [hF]
  unfold F_laws_FnCoverStep at hF
  have hlen_code := argB_len hcode
  refine calls_tc Try.func4 rfl rfl rfl ?_
  change TC _ _ _ _ (Hp w []) [(0, vcode)]
  refine TC.seq ?_
  refine TC.region ?_
  refine TL.op (yq (y_assign ev_c)) rfl rfl rfl ?_
  refine TL.nil ?_
  refine TN.seq ?_
  refine TC.seq ?_
  refine TC.seq ?_
  refine TC.region ?_
  refine TL.op (yq (y_move (ev_t rfl))) rfl rfl rfl ?_
  refine TL.op (y_call (vs := [vcode]) (v := (.bool (F_laws_rBig code))) en_16 ⟨(ev_t rfl), trivial⟩ (fun w hw => laws_rBig_ok w vcode code (rb_arg hcode hw))) rfl rfl rfl ?_
  refine TL.nil ?_
  refine TN.seq ?_
  refine TC.cond (b := (F_laws_rBig code)) (ev_t rfl) (fun h27 => ?_) (fun h27 => ?_)
  · rw [bif_pos h27] at hF
    have q28 := h27
    refine TC.seq ?_
    refine TC.region ?_
    refine TL.op (yq (y_assign ev_c)) rfl rfl rfl ?_
    refine TL.nil ?_
    refine TN.seq ?_
    refine TC.ret ?_
    refine TN.thenR ?_
    subst hF
    exact TN.ret1 rfl (ev_t rfl) (fun w' hw => ⟨rfl, hw⟩)
  · rw [bif_neg h27] at hF
    have q28 := h27
    refine TC.skip ?_
    refine TN.seq ?_
    refine TC.seq ?_
    refine TC.region ?_
    refine TL.op (yq (y_move (ev_t rfl))) rfl rfl rfl ?_
    refine TL.callr (ι := Value × Value) (vs := [vcode]) (fun i => (.tuple #[i.1, i.2])) (fun i => [rowI 3 i.1 ((F_spec_DrawCoverPotential code).1), rowI 3 i.2 ((F_spec_DrawCoverPotential code).2)]) en_17 ⟨(ev_t rfl), trivial⟩ rfl (fun w hw => spec_DrawCoverPotential_ok w vcode code (rb_arg hcode hw)) (fun r3_1 => ?_)
    refine TL.op (yq (y_move (ev_t rfl))) rfl rfl rfl ?_
    refine TL.op (yq (y_extract (ev_t rfl) rfl)) rfl rfl rfl ?_
    refine TL.op (yq (y_extract (ev_t rfl) rfl)) rfl rfl rfl ?_
    refine TL.op (yq (y_assign (ev_t rfl))) rfl rfl rfl ?_
    refine TL.op (yq (y_assign (ev_t rfl))) rfl rfl rfl ?_
    refine TL.nil ?_
    refine TN.seq ?_
    refine TC.seq ?_
    refine TC.region ?_
    refine TL.op (yq (y_move (ev_t rfl))) rfl rfl rfl ?_
    refine TL.op (yq (y_move (ev_t rfl))) rfl rfl rfl ?_
    refine TL.op (y_call (vs := [r3_1.1, r3_1.2]) (v := (.tuple #[(.int .i64 ((F_impl_CoverPotential ((F_spec_DrawCoverPotential code).1) ((F_spec_DrawCoverPotential code).2)).1)), (.bool ((F_impl_CoverPotential ((F_spec_DrawCoverPotential code).1) ((F_spec_DrawCoverPotential code).2)).2))])) en_18 ⟨(ev_t rfl), (ev_t rfl), trivial⟩ (fun w hw => impl_CoverPotential_ok w r3_1.1 ((F_spec_DrawCoverPotential code).1) ((ri_row 0 rfl) w hw) r3_1.2 ((F_spec_DrawCoverPotential code).2) ((ri_row 1 rfl) w hw))) rfl rfl rfl ?_
    refine TL.op (yq (y_move (ev_t rfl))) rfl rfl rfl ?_
    refine TL.op (yq (y_extract (ev_t rfl) rfl)) rfl rfl rfl ?_
    refine TL.op (yq (y_extract (ev_t rfl) rfl)) rfl rfl rfl ?_
    refine TL.op (yq (y_assign (ev_t rfl))) rfl rfl rfl ?_
    refine TL.op (yq (y_assign (ev_t rfl))) rfl rfl rfl ?_
    refine TL.nil ?_
    refine TN.seq ?_
    refine TC.seq ?_
    refine TC.seq ?_
    refine TC.region ?_
    refine TL.op (yq (y_move (ev_t rfl))) rfl rfl rfl ?_
    refine TL.op (yq (y_move (ev_t rfl))) rfl rfl rfl ?_
    refine TL.op (y_call (vs := [r3_1.1, r3_1.2]) (v := (.tuple #[(.int .i64 ((F_spec_CoverPotential ((F_spec_DrawCoverPotential code).1) ((F_spec_DrawCoverPotential code).2)).1)), (.bool ((F_spec_CoverPotential ((F_spec_DrawCoverPotential code).1) ((F_spec_DrawCoverPotential code).2)).2))])) en_19 ⟨(ev_t rfl), (ev_t rfl), trivial⟩ (fun w hw => spec_CoverPotential_ok w r3_1.1 ((F_spec_DrawCoverPotential code).1) ((ri_row 0 rfl) w hw) r3_1.2 ((F_spec_DrawCoverPotential code).2) ((ri_row 1 rfl) w hw))) rfl rfl rfl ?_
    refine TL.op (yq (y_move (ev_t rfl))) rfl rfl rfl ?_
    refine TL.op (yq (y_extract (ev_t rfl) rfl)) rfl rfl rfl ?_
    refine TL.op (yq (y_extract (ev_t rfl) rfl)) rfl rfl rfl ?_
    refine TL.op (yq (y_assign (ev_t rfl))) rfl rfl rfl ?_
    refine TL.op (yq (y_assign (ev_t rfl))) rfl rfl rfl ?_
    refine TL.nil ?_
    refine TN.seq ?_
    refine TC.seq ?_
    refine TC.region ?_
    refine TL.op (yq (y_move (ev_t rfl))) rfl rfl rfl ?_
    refine TL.op (yq (y_move (ev_t rfl))) rfl rfl rfl ?_
    refine TL.op (yq (y_neq (ev_t rfl) (ev_t rfl))) rfl rfl rfl ?_
    refine TL.op (yq (y_move (ev_t rfl))) rfl rfl rfl ?_
    refine TL.opw (w_f rfl rfl rfl) (fun hg => yq (y_move (ev_t rfl))) rfl rfl ?_
    refine TL.opw (w_f rfl rfl rfl) (fun hg => yq (y_move (ev_t rfl))) rfl rfl ?_
    refine TL.opw (w_f rfl rfl rfl) (fun hg => yq (y_bneq (ev_g rfl hg) (ev_g rfl hg) Try.underlying4)) rfl rfl ?_
    refine TL.op (yq (y_or (ev_t rfl) (fun hq => (ev_g rfl hq)))) rfl rfl rfl ?_
    refine TL.nil ?_
    refine TN.seq ?_
    refine TC.cond (b := ((!decide ((F_impl_CoverPotential ((F_spec_DrawCoverPotential code).1) ((F_spec_DrawCoverPotential code).2)).1 = (F_spec_CoverPotential ((F_spec_DrawCoverPotential code).1) ((F_spec_DrawCoverPotential code).2)).1)) || (((F_impl_CoverPotential ((F_spec_DrawCoverPotential code).1) ((F_spec_DrawCoverPotential code).2)).2) != ((F_spec_CoverPotential ((F_spec_DrawCoverPotential code).1) ((F_spec_DrawCoverPotential code).2)).2)))) (ev_t rfl) (fun h29 => ?_) (fun h29 => ?_)
    · rw [bif_pos h29] at hF
      have q30 := ((or_t h29).imp (fun h => (of_decide_eq_false (not_t h))) (fun h => h))
      refine TC.seq ?_
      refine TC.region ?_
      refine TL.op (yq (y_assign ev_c)) rfl rfl rfl ?_
      refine TL.nil ?_
      refine TN.seq ?_
      refine TC.ret ?_
      refine TN.thenR ?_
      subst hF
      exact TN.ret1 rfl (ev_t rfl) (fun w' hw => ⟨rfl, Hp.sublist hw (List.nil_sublist _)⟩)
    · rw [bif_neg h29] at hF
      have q30 := (and_imp (or_f h29) (fun h => (of_decide_eq_true (not_f h))) (fun h => h))
      refine TC.skip ?_
      refine TN.seq ?_
      refine TC.seq ?_
      refine TC.seq ?_
      refine TC.region ?_
      refine TL.op (yq (y_move (ev_t rfl))) rfl rfl rfl ?_
      refine TL.op (yq (y_not (ev_t rfl))) rfl rfl rfl ?_
      refine TL.nil ?_
      refine TN.seq ?_
      refine TC.cond (b := !((F_impl_CoverPotential ((F_spec_DrawCoverPotential code).1) ((F_spec_DrawCoverPotential code).2)).2)) (ev_t rfl) (fun h31 => ?_) (fun h31 => ?_)
      · rw [bif_pos h31] at hF
        have q32 := (not_t h31)
        refine TC.seq ?_
        refine TC.region ?_
        refine TL.op (yq (y_assign ev_c)) rfl rfl rfl ?_
        refine TL.nil ?_
        refine TN.seq ?_
        refine TC.ret ?_
        refine TN.thenR ?_
        subst hF
        exact TN.ret1 rfl (ev_t rfl) (fun w' hw => ⟨rfl, Hp.sublist hw (List.nil_sublist _)⟩)
      · rw [bif_neg h31] at hF
        have q32 := (not_f h31)
        have hok := q32
        have hpr := (pot_rows q32).2.1.1
        refine TC.skip ?_
        refine TN.seq ?_
        refine TC.seq ?_
        refine TC.seq ?_
        refine TC.region ?_
        refine TL.op (yq (y_assign ev_c)) rfl rfl rfl ?_
        refine TL.nil ?_
        refine TN.seq ?_
        refine TC.block ?_
        obtain ⟨c33, hc34⟩ : ∃ c, F_laws_FnCoverStep_L1 code ((((F_spec_DrawCoverPotential code).2.length) - 0) + 1) 0 = c := ⟨_, rfl⟩
        rw [hc34] at hF
        refine TC.loop (ι := Nat × Nat) (fun (fu1, k9_1) => [(3, r3_1.1), (4, r3_1.2), (5, (.int .i64 ((F_impl_CoverPotential ((F_spec_DrawCoverPotential code).1) ((F_spec_DrawCoverPotential code).2)).1))), (9, (.int .i64 (k9_1 : Int)))]) (fun (fu1, k9_1) => Hp w [rowI 3 r3_1.1 ((F_spec_DrawCoverPotential code).1), rowI 3 r3_1.2 ((F_spec_DrawCoverPotential code).2)]) (fun (fu1, k9_1) => (k9_1 ≤ ((F_spec_DrawCoverPotential code).2.length)) ∧ ((F_spec_DrawCoverPotential code).2.length) - k9_1 < fu1 ∧ F_laws_FnCoverStep_L1 code fu1 k9_1 = c33) (fun (fu1, k9_1) => fu1) ((((F_spec_DrawCoverPotential code).2.length) - 0) + 1, 0) ⟨(by first | omega | (simp [-List.getD_eq_getElem?_getD] <;> omega)), (by omega), hc34⟩ ⟨rfl, rfl, rfl, rfl, trivial⟩ (fun w hw => hw) ?_
        rintro ⟨fu1, k9_1⟩ hJ1
        obtain ⟨hi1_0, hmu1, hL1⟩ : (k9_1 ≤ ((F_spec_DrawCoverPotential code).2.length)) ∧ ((F_spec_DrawCoverPotential code).2.length) - k9_1 < fu1 ∧ F_laws_FnCoverStep_L1 code fu1 k9_1 = c33 := hJ1
        change TC _ _ _ _ (Hp w [rowI 3 r3_1.1 ((F_spec_DrawCoverPotential code).1), rowI 3 r3_1.2 ((F_spec_DrawCoverPotential code).2)]) [(3, r3_1.1), (4, r3_1.2), (5, (.int .i64 ((F_impl_CoverPotential ((F_spec_DrawCoverPotential code).1) ((F_spec_DrawCoverPotential code).2)).1))), (9, (.int .i64 (k9_1 : Int)))]
        obtain ⟨mf1, rfl⟩ : ∃ m, fu1 = m + 1 := ⟨fu1 - 1, by omega⟩
        rw [F_laws_FnCoverStep_L1_s] at hL1
        refine TC.seq ?_
        refine TC.seq ?_
        refine TC.region ?_
        refine TL.op (yq (y_move (ev_t rfl))) rfl rfl rfl ?_
        refine TL.op (yq (y_move (ev_t rfl))) rfl rfl rfl ?_
        refine TL.op (yq (y_len (ev_t rfl) Try.underlying34 (fun w hw => ((ri_row 1 rfl) w hw).ln))) rfl rfl rfl ?_
        refine TL.op (yq (y_lss (ev_t rfl) (ev_t rfl))) rfl rfl rfl ?_
        refine TL.nil ?_
        refine TN.seq ?_
        refine TC.cond (b := decide ((k9_1 : Int) < ((F_spec_DrawCoverPotential code).2.length : Int))) (ev_t rfl) (fun h35 => ?_) (fun h35 => ?_)
        · rw [bif_pos h35] at hL1
          have q36 := (of_decide_eq_true h35)
          have hdc := dc_all hok (i := k9_1) (by omega)
          obtain ⟨_, hd1, _, hd2, _, _, hd3, hd4, _, _, hd5, hd6, hd7⟩ := hdc
          refine TC.skip ?_
          refine TN.seq ?_
          refine TC.seq ?_
          refine TC.block ?_
          refine TC.seq ?_
          refine TC.region ?_
          refine TL.op (yq (y_move (ev_t rfl))) rfl rfl rfl ?_
          refine TL.op (yq (y_move (ev_t rfl))) rfl rfl rfl ?_
          refine TL.op (yq (y_move (ev_t rfl))) rfl rfl rfl ?_
          have hb37 : k9_1 < (F_spec_DrawCoverPotential code).2.length := (by first | omega | (simp only [List.length_set, List.length_append, List.length_cons, List.length_nil, List.length_replicate]; omega) | (rw [sortI_length]; simp only [List.length_cons, List.length_nil]; omega))
          refine TL.op (yq (y_idx (k := k9_1) (ev_t rfl) (ev_t rfl) (by first | omega | simp) slT_34 (ri_row 1 rfl) hb37)) rfl rfl rfl ?_
          refine TL.op (yq (y_ldi (ev_t rfl) one_3 (ri_row 1 rfl) hb37)) rfl rfl rfl ?_
          refine TL.callr (ι := Value) (vs := [r3_1.1, (.int .i64 ((F_spec_DrawCoverPotential code).2.getD k9_1 0))]) (fun i => (.tuple #[i, (.int .i64 ((F_impl_CoverStep ((F_spec_DrawCoverPotential code).1) ((F_spec_DrawCoverPotential code).2.getD k9_1 0)).2.1)), (.bool ((F_impl_CoverStep ((F_spec_DrawCoverPotential code).1) ((F_spec_DrawCoverPotential code).2.getD k9_1 0)).2.2))])) (fun i => [rowI 3 i ((F_impl_CoverStep ((F_spec_DrawCoverPotential code).1) ((F_spec_DrawCoverPotential code).2.getD k9_1 0)).1)]) en_20 ⟨(ev_t rfl), (ev_t rfl), trivial⟩ rfl (fun w hw => impl_CoverStep_ok w r3_1.1 ((F_spec_DrawCoverPotential code).1) ((ri_row 0 rfl) w hw) ((F_spec_DrawCoverPotential code).2.getD k9_1 0)) (fun r13_5 => ?_)
          refine TL.op (yq (y_move (ev_t rfl))) rfl rfl rfl ?_
          refine TL.op (yq (y_extract (ev_t rfl) rfl)) rfl rfl rfl ?_
          refine TL.op (yq (y_extract (ev_t rfl) rfl)) rfl rfl rfl ?_
          refine TL.op (yq (y_extract (ev_t rfl) rfl)) rfl rfl rfl ?_
          refine TL.op (yq (y_assign (ev_t rfl))) rfl rfl rfl ?_
          refine TL.op (yq (y_assign (ev_t rfl))) rfl rfl rfl ?_
          refine TL.op (yq (y_assign (ev_t rfl))) rfl rfl rfl ?_
          refine TL.nil ?_
          refine TN.seq ?_
          refine TC.seq ?_
          refine TC.seq ?_
          refine TC.region ?_
          refine TL.op (yq (y_move (ev_t rfl))) rfl rfl rfl ?_
          refine TL.op (yq (y_move (ev_t rfl))) rfl rfl rfl ?_
          refine TL.op (yq (y_move (ev_t rfl))) rfl rfl rfl ?_
          have hb38 : k9_1 < (F_spec_DrawCoverPotential code).2.length := (by first | omega | (simp only [List.length_set, List.length_append, List.length_cons, List.length_nil, List.length_replicate]; omega) | (rw [sortI_length]; simp only [List.length_cons, List.length_nil]; omega))
          refine TL.op (yq (y_idx (k := k9_1) (ev_t rfl) (ev_t rfl) (by first | omega | simp) slT_34 (ri_row 2 rfl) hb38)) rfl rfl rfl ?_
          refine TL.op (yq (y_ldi (ev_t rfl) one_3 (ri_row 2 rfl) hb38)) rfl rfl rfl ?_
          refine TL.callr (ι := Value) (vs := [r3_1.1, (.int .i64 ((F_spec_DrawCoverPotential code).2.getD k9_1 0))]) (fun i => (.tuple #[i, (.int .i64 ((F_spec_CoverStep ((F_spec_DrawCoverPotential code).1) ((F_spec_DrawCoverPotential code).2.getD k9_1 0)).2.1)), (.bool ((F_spec_CoverStep ((F_spec_DrawCoverPotential code).1) ((F_spec_DrawCoverPotential code).2.getD k9_1 0)).2.2))])) (fun i => [rowI 3 i ((F_spec_CoverStep ((F_spec_DrawCoverPotential code).1) ((F_spec_DrawCoverPotential code).2.getD k9_1 0)).1)]) en_21 ⟨(ev_t rfl), (ev_t rfl), trivial⟩ rfl (fun w hw => spec_CoverStep_ok w r3_1.1 ((F_spec_DrawCoverPotential code).1) ((ri_row 1 rfl) w hw) ((F_spec_DrawCoverPotential code).2.getD k9_1 0)) (fun r14_5 => ?_)
          refine TL.op (yq (y_move (ev_t rfl))) rfl rfl rfl ?_
          refine TL.op (yq (y_extract (ev_t rfl) rfl)) rfl rfl rfl ?_
          refine TL.op (yq (y_extract (ev_t rfl) rfl)) rfl rfl rfl ?_
          refine TL.op (yq (y_extract (ev_t rfl) rfl)) rfl rfl rfl ?_
          refine TL.op (yq (y_assign (ev_t rfl))) rfl rfl rfl ?_
          refine TL.op (yq (y_assign (ev_t rfl))) rfl rfl rfl ?_
          refine TL.op (yq (y_assign (ev_t rfl))) rfl rfl rfl ?_
          refine TL.nil ?_
          refine TN.seq ?_
          refine TC.seq ?_
          refine TC.region ?_
          refine TL.op (yq (y_move (ev_t rfl))) rfl rfl rfl ?_
          refine TL.op (yq (y_move (ev_t rfl))) rfl rfl rfl ?_
          refine TL.op (yq (y_bneq (ev_t rfl) (ev_t rfl) Try.underlying4)) rfl rfl rfl ?_
          refine TL.op (yq (y_move (ev_t rfl))) rfl rfl rfl ?_
          refine TL.opw (w_f rfl rfl rfl) (fun hg => yq (y_move (ev_t rfl))) rfl rfl ?_
          refine TL.opw (w_f rfl rfl rfl) (fun hg => yq (y_move (ev_t rfl))) rfl rfl ?_
          refine TL.opw (w_f rfl rfl rfl) (fun hg => yq (y_neq (ev_g rfl hg) (ev_g rfl hg))) rfl rfl ?_
          refine TL.op (yq (y_or (ev_t rfl) (fun hq => (ev_g rfl hq)))) rfl rfl rfl ?_
          refine TL.op (yq (y_move (ev_t rfl))) rfl rfl rfl ?_
          refine TL.opw (w_f rfl rfl rfl) (fun hg => yq (y_move (ev_t rfl))) rfl rfl ?_
          refine TL.opw (w_f rfl rfl rfl) (fun hg => yq (y_move (ev_t rfl))) rfl rfl ?_
          refine TL.opw (w_f rfl rfl rfl) (fun hg => y_call (vs := [r13_5, r14_5]) (v := (.bool (F_laws_rInts ((F_impl_CoverStep ((F_spec_DrawCoverPotential code).1) ((F_spec_DrawCoverPotential code).2.getD k9_1 0)).1) ((F_spec_CoverStep ((F_spec_DrawCoverPotential code).1) ((F_spec_DrawCoverPotential code).2.getD k9_1 0)).1)))) en_22 ⟨(ev_g rfl hg), (ev_g rfl hg), trivial⟩ (fun w hw => laws_rInts_ok w r13_5 ((F_impl_CoverStep ((F_spec_DrawCoverPotential code).1) ((F_spec_DrawCoverPotential code).2.getD k9_1 0)).1) ((ri_row 1 rfl) w hw) r14_5 ((F_spec_CoverStep ((F_spec_DrawCoverPotential code).1) ((F_spec_DrawCoverPotential code).2.getD k9_1 0)).1) ((ri_row 0 rfl) w hw))) rfl rfl ?_
          refine TL.opw (w_f rfl rfl rfl) (fun hg => yq (y_not (ev_g rfl hg))) rfl rfl ?_
          refine TL.op (yq (y_or (ev_t rfl) (fun hq => (ev_g rfl hq)))) rfl rfl rfl ?_
          refine TL.nil ?_
          refine TN.seq ?_
          refine TC.cond (b := (((((F_impl_CoverStep ((F_spec_DrawCoverPotential code).1) ((F_spec_DrawCoverPotential code).2.getD k9_1 0)).2.2) != ((F_spec_CoverStep ((F_spec_DrawCoverPotential code).1) ((F_spec_DrawCoverPotential code).2.getD k9_1 0)).2.2)) || (!decide ((F_impl_CoverStep ((F_spec_DrawCoverPotential code).1) ((F_spec_DrawCoverPotential code).2.getD k9_1 0)).2.1 = (F_spec_CoverStep ((F_spec_DrawCoverPotential code).1) ((F_spec_DrawCoverPotential code).2.getD k9_1 0)).2.1))) || (!(F_laws_rInts ((F_impl_CoverStep ((F_spec_DrawCoverPotential code).1) ((F_spec_DrawCoverPotential code).2.getD k9_1 0)).1) ((F_spec_CoverStep ((F_spec_DrawCoverPotential code).1) ((F_spec_DrawCoverPotential code).2.getD k9_1 0)).1))))) (ev_t rfl) (fun h39 => ?_) (fun h39 => ?_)
          · rw [bif_pos h39] at hL1
            have q40 := ((or_t h39).imp (fun h => ((or_t h).imp (fun h => h) (fun h => (of_decide_eq_false (not_t h))))) (fun h => (not_t h)))
            refine TC.seq ?_
            refine TC.region ?_
            refine TL.op (yq (y_assign ev_c)) rfl rfl rfl ?_
            refine TL.nil ?_
            refine TN.seq ?_
            refine TC.ret ?_
            refine TN.thenR ?_
            refine TN.blockR ?_
            refine TN.thenR ?_
            refine TN.thenR ?_
            rw [← hL1, elim_ret] at hF
            refine TN.blockR ?_
            refine TN.thenR ?_
            subst hF
            exact TN.ret1 rfl (ev_t rfl) (fun w' hw => ⟨rfl, Hp.sublist hw (List.nil_sublist _)⟩)
          · rw [bif_neg h39] at hL1
            have q40 := (and_imp (or_f h39) (fun h => (and_imp (or_f h) (fun h => h) (fun h => (of_decide_eq_true (not_f h))))) (fun h => (not_f h)))
            refine TC.skip ?_
            refine TN.seq ?_
            refine TC.seq ?_
            refine TC.region ?_
            refine TL.op (yq (y_move (ev_t rfl))) rfl rfl rfl ?_
            refine TL.op (yq (y_move (ev_t rfl))) rfl rfl rfl ?_
            refine TL.op (y_call (vs := [r13_5, r3_1.2]) (v := (.tuple #[(.int .i64 ((F_impl_CoverPotential ((F_impl_CoverStep ((F_spec_DrawCoverPotential code).1) ((F_spec_DrawCoverPotential code).2.getD k9_1 0)).1) ((F_spec_DrawCoverPotential code).2)).1)), (.bool ((F_impl_CoverPotential ((F_impl_CoverStep ((F_spec_DrawCoverPotential code).1) ((F_spec_DrawCoverPotential code).2.getD k9_1 0)).1) ((F_spec_DrawCoverPotential code).2)).2))])) en_18 ⟨(ev_t rfl), (ev_t rfl), trivial⟩ (fun w hw => impl_CoverPotential_ok w r13_5 ((F_impl_CoverStep ((F_spec_DrawCoverPotential code).1) ((F_spec_DrawCoverPotential code).2.getD k9_1 0)).1) ((ri_row 1 rfl) w hw) r3_1.2 ((F_spec_DrawCoverPotential code).2) ((ri_row 3 rfl) w hw))) rfl rfl rfl ?_
            refine TL.op (yq (y_move (ev_t rfl))) rfl rfl rfl ?_
            refine TL.op (yq (y_extract (ev_t rfl) rfl)) rfl rfl rfl ?_
            refine TL.op (yq (y_extract (ev_t rfl) rfl)) rfl rfl rfl ?_
            refine TL.op (yq (y_assign (ev_t rfl))) rfl rfl rfl ?_
            refine TL.op (yq (y_assign (ev_t rfl))) rfl rfl rfl ?_
            refine TL.nil ?_
            refine TN.seq ?_
            refine TC.seq ?_
            refine TC.region ?_
            refine TL.op (yq (y_move (ev_t rfl))) rfl rfl rfl ?_
            refine TL.op (yq (y_move (ev_t rfl))) rfl rfl rfl ?_
            refine TL.op (y_call (vs := [r3_1.1, r13_5]) (v := (.tuple #[(.int .i64 ((F_impl_RowDistance ((F_spec_DrawCoverPotential code).1) ((F_impl_CoverStep ((F_spec_DrawCoverPotential code).1) ((F_spec_DrawCoverPotential code).2.getD k9_1 0)).1)).1)), (.bool ((F_impl_RowDistance ((F_spec_DrawCoverPotential code).1) ((F_impl_CoverStep ((F_spec_DrawCoverPotential code).1) ((F_spec_DrawCoverPotential code).2.getD k9_1 0)).1)).2))])) en_23 ⟨(ev_t rfl), (ev_t rfl), trivial⟩ (fun w hw => impl_RowDistance_ok w r3_1.1 ((F_spec_DrawCoverPotential code).1) ((ri_row 2 rfl) w hw) r13_5 ((F_impl_CoverStep ((F_spec_DrawCoverPotential code).1) ((F_spec_DrawCoverPotential code).2.getD k9_1 0)).1) ((ri_row 1 rfl) w hw))) rfl rfl rfl ?_
            refine TL.op (yq (y_move (ev_t rfl))) rfl rfl rfl ?_
            refine TL.op (yq (y_extract (ev_t rfl) rfl)) rfl rfl rfl ?_
            refine TL.op (yq (y_extract (ev_t rfl) rfl)) rfl rfl rfl ?_
            refine TL.op (yq (y_assign (ev_t rfl))) rfl rfl rfl ?_
            refine TL.op (yq (y_assign (ev_t rfl))) rfl rfl rfl ?_
            refine TL.nil ?_
            refine TN.seq ?_
            refine TC.seq ?_
            refine TC.seq ?_
            refine TC.region ?_
            refine TL.op (yq (y_move (ev_t rfl))) rfl rfl rfl ?_
            refine TL.op (yq (y_not (ev_t rfl))) rfl rfl rfl ?_
            refine TL.op (yq (y_move (ev_t rfl))) rfl rfl rfl ?_
            refine TL.opw (w_f rfl rfl rfl) (fun hg => yq (y_move (ev_t rfl))) rfl rfl ?_
            refine TL.opw (w_f rfl rfl rfl) (fun hg => yq (y_not (ev_g rfl hg))) rfl rfl ?_
            refine TL.op (yq (y_or (ev_t rfl) (fun hq => (ev_g rfl hq)))) rfl rfl rfl ?_
            refine TL.op (yq (y_move (ev_t rfl))) rfl rfl rfl ?_
            refine TL.opw (w_f rfl rfl rfl) (fun hg => yq (y_move (ev_t rfl))) rfl rfl ?_
            refine TL.opw (w_f rfl rfl rfl) (fun hg => yq (y_not (ev_g rfl hg))) rfl rfl ?_
            refine TL.op (yq (y_or (ev_t rfl) (fun hq => (ev_g rfl hq)))) rfl rfl rfl ?_
            refine TL.op (yq (y_move (ev_t rfl))) rfl rfl rfl ?_
            refine TL.opw (w_f rfl rfl rfl) (fun hg => yq (y_move (ev_t rfl))) rfl rfl ?_
            refine TL.opw (w_f rfl rfl rfl) (fun hg => yq (y_move (ev_t rfl))) rfl rfl ?_
            refine TL.opw (w_f rfl rfl rfl) (fun hg => yq (y_move (ev_t rfl))) rfl rfl ?_
            refine TL.opw (w_f rfl rfl rfl) (fun hg => yq (y_idx (k := k9_1) (ev_g rfl hg) (ev_g rfl hg) (by first | omega | simp) slT_34 (ri_row 3 rfl) (show k9_1 < (F_spec_DrawCoverPotential code).2.length by have hgf := (and_imp (or_f (not_t hg)) (fun h => (and_imp (or_f h) (fun h => (not_f h)) (fun h => (not_f h)))) (fun h => (not_f h))); omega))) rfl rfl ?_
            refine TL.opw (w_f rfl rfl rfl) (fun hg => yq (y_ldi (ev_g rfl hg) one_3 (ri_row 3 rfl) (show k9_1 < (F_spec_DrawCoverPotential code).2.length by have hgf := (and_imp (or_f (not_t hg)) (fun h => (and_imp (or_f h) (fun h => (not_f h)) (fun h => (not_f h)))) (fun h => (not_f h))); omega))) rfl rfl ?_
            refine TL.opw (w_f rfl rfl rfl) (fun hg => y_call (vs := [r13_5, (.int .i64 ((F_spec_DrawCoverPotential code).2.getD k9_1 0))]) (v := (.bool (F_laws_rHas ((F_impl_CoverStep ((F_spec_DrawCoverPotential code).1) ((F_spec_DrawCoverPotential code).2.getD k9_1 0)).1) ((F_spec_DrawCoverPotential code).2.getD k9_1 0)))) en_24 ⟨(ev_g rfl hg), (ev_g rfl hg), trivial⟩ (fun w hw => laws_rHas_ok w r13_5 ((F_impl_CoverStep ((F_spec_DrawCoverPotential code).1) ((F_spec_DrawCoverPotential code).2.getD k9_1 0)).1) ((ri_row 1 rfl) w hw) ((F_spec_DrawCoverPotential code).2.getD k9_1 0))) rfl rfl ?_
            refine TL.opw (w_f rfl rfl rfl) (fun hg => yq (y_not (ev_g rfl hg))) rfl rfl ?_
            refine TL.op (yq (y_or (ev_t rfl) (fun hq => (ev_g rfl hq)))) rfl rfl rfl ?_
            refine TL.op (yq (y_move (ev_t rfl))) rfl rfl rfl ?_
            refine TL.opw (w_f rfl rfl rfl) (fun hg => yq (y_move (ev_t rfl))) rfl rfl ?_
            refine TL.opw (w_f rfl rfl rfl) (fun hg => yq (y_move (ev_t rfl))) rfl rfl ?_
            refine TL.opw (w_f rfl rfl rfl) (fun hg => yq (y_add (ev_g rfl hg) (ev_g rfl hg) (by unfold In64; omega))) rfl rfl ?_
            refine TL.opw (w_f rfl rfl rfl) (fun hg => yq (y_move (ev_t rfl))) rfl rfl ?_
            refine TL.opw (w_f rfl rfl rfl) (fun hg => yq (y_gtr (ev_g rfl hg) (ev_g rfl hg))) rfl rfl ?_
            refine TL.op (yq (y_or (ev_t rfl) (fun hq => (ev_g rfl hq)))) rfl rfl rfl ?_
            refine TL.op (yq (y_move (ev_t rfl))) rfl rfl rfl ?_
            refine TL.opw (w_f rfl rfl rfl) (fun hg => yq (y_move (ev_t rfl))) rfl rfl ?_
            refine TL.opw (w_f rfl rfl rfl) (fun hg => yq (y_move (ev_t rfl))) rfl rfl ?_
            refine TL.opw (w_f rfl rfl rfl) (fun hg => yq (y_neq (ev_g rfl hg) (ev_g rfl hg))) rfl rfl ?_
            refine TL.op (yq (y_or (ev_t rfl) (fun hq => (ev_g rfl hq)))) rfl rfl rfl ?_
            refine TL.nil ?_
            refine TN.seq ?_
            refine TC.cond (b := ((((((!((F_impl_CoverStep ((F_spec_DrawCoverPotential code).1) ((F_spec_DrawCoverPotential code).2.getD k9_1 0)).2.2)) || (!((F_impl_CoverPotential ((F_impl_CoverStep ((F_spec_DrawCoverPotential code).1) ((F_spec_DrawCoverPotential code).2.getD k9_1 0)).1) ((F_spec_DrawCoverPotential code).2)).2))) || (!((F_impl_RowDistance ((F_spec_DrawCoverPotential code).1) ((F_impl_CoverStep ((F_spec_DrawCoverPotential code).1) ((F_spec_DrawCoverPotential code).2.getD k9_1 0)).1)).2))) || (!(F_laws_rHas ((F_impl_CoverStep ((F_spec_DrawCoverPotential code).1) ((F_spec_DrawCoverPotential code).2.getD k9_1 0)).1) ((F_spec_DrawCoverPotential code).2.getD k9_1 0)))) || (decide ((F_impl_CoverPotential ((F_spec_DrawCoverPotential code).1) ((F_spec_DrawCoverPotential code).2)).1 < ((F_impl_CoverStep ((F_spec_DrawCoverPotential code).1) ((F_spec_DrawCoverPotential code).2.getD k9_1 0)).2.1) + ((F_impl_CoverPotential ((F_impl_CoverStep ((F_spec_DrawCoverPotential code).1) ((F_spec_DrawCoverPotential code).2.getD k9_1 0)).1) ((F_spec_DrawCoverPotential code).2)).1)))) || (!decide ((F_impl_RowDistance ((F_spec_DrawCoverPotential code).1) ((F_impl_CoverStep ((F_spec_DrawCoverPotential code).1) ((F_spec_DrawCoverPotential code).2.getD k9_1 0)).1)).1 = (F_impl_CoverStep ((F_spec_DrawCoverPotential code).1) ((F_spec_DrawCoverPotential code).2.getD k9_1 0)).2.1)))) (ev_t rfl) (fun h41 => ?_) (fun h41 => ?_)
            · rw [bif_pos h41] at hL1
              have q42 := ((or_t h41).imp (fun h => ((or_t h).imp (fun h => ((or_t h).imp (fun h => ((or_t h).imp (fun h => ((or_t h).imp (fun h => (not_t h)) (fun h => (not_t h)))) (fun h => (not_t h)))) (fun h => (not_t h)))) (fun h => (of_decide_eq_true h)))) (fun h => (of_decide_eq_false (not_t h))))
              refine TC.seq ?_
              refine TC.region ?_
              refine TL.op (yq (y_assign ev_c)) rfl rfl rfl ?_
              refine TL.nil ?_
              refine TN.seq ?_
              refine TC.ret ?_
              refine TN.thenR ?_
              refine TN.blockR ?_
              refine TN.thenR ?_
              refine TN.thenR ?_
              rw [← hL1, elim_ret] at hF
              refine TN.blockR ?_
              refine TN.thenR ?_
              subst hF
              exact TN.ret1 rfl (ev_t rfl) (fun w' hw => ⟨rfl, Hp.sublist hw (List.nil_sublist _)⟩)
            · rw [bif_neg h41] at hL1
              have q42 := (and_imp (or_f h41) (fun h => (and_imp (or_f h) (fun h => (and_imp (or_f h) (fun h => (and_imp (or_f h) (fun h => (and_imp (or_f h) (fun h => (not_f h)) (fun h => (not_f h)))) (fun h => (not_f h)))) (fun h => (not_f h)))) (fun h => (of_decide_eq_false h)))) (fun h => (of_decide_eq_true (not_f h))))
              refine TC.skip ?_
              refine TN.seq ?_
              refine TC.seq ?_
              refine TC.region ?_
              refine TL.op (yq (y_move (ev_t rfl))) rfl rfl rfl ?_
              refine TL.op (yq (y_move (ev_t rfl))) rfl rfl rfl ?_
              refine TL.op (y_call (vs := [r3_1.1, r13_5]) (v := (.tuple #[(.int .i64 ((F_impl_CoverPotential ((F_spec_DrawCoverPotential code).1) ((F_impl_CoverStep ((F_spec_DrawCoverPotential code).1) ((F_spec_DrawCoverPotential code).2.getD k9_1 0)).1)).1)), (.bool ((F_impl_CoverPotential ((F_spec_DrawCoverPotential code).1) ((F_impl_CoverStep ((F_spec_DrawCoverPotential code).1) ((F_spec_DrawCoverPotential code).2.getD k9_1 0)).1)).2))])) en_18 ⟨(ev_t rfl), (ev_t rfl), trivial⟩ (fun w hw => impl_CoverPotential_ok w r3_1.1 ((F_spec_DrawCoverPotential code).1) ((ri_row 2 rfl) w hw) r13_5 ((F_impl_CoverStep ((F_spec_DrawCoverPotential code).1) ((F_spec_DrawCoverPotential code).2.getD k9_1 0)).1) ((ri_row 1 rfl) w hw))) rfl rfl rfl ?_
              refine TL.op (yq (y_move (ev_t rfl))) rfl rfl rfl ?_
              refine TL.op (yq (y_extract (ev_t rfl) rfl)) rfl rfl rfl ?_
              refine TL.op (yq (y_extract (ev_t rfl) rfl)) rfl rfl rfl ?_
              refine TL.op (yq (y_assign (ev_t rfl))) rfl rfl rfl ?_
              refine TL.op (yq (y_assign (ev_t rfl))) rfl rfl rfl ?_
              refine TL.nil ?_
              refine TN.seq ?_
              refine TC.seq ?_
              refine TC.region ?_
              refine TL.op (yq (y_move (ev_t rfl))) rfl rfl rfl ?_
              refine TL.op (yq (y_move (ev_t rfl))) rfl rfl rfl ?_
              refine TL.op (y_call (vs := [r3_1.2, r13_5]) (v := (.tuple #[(.int .i64 ((F_impl_RowDistance ((F_spec_DrawCoverPotential code).2) ((F_impl_CoverStep ((F_spec_DrawCoverPotential code).1) ((F_spec_DrawCoverPotential code).2.getD k9_1 0)).1)).1)), (.bool ((F_impl_RowDistance ((F_spec_DrawCoverPotential code).2) ((F_impl_CoverStep ((F_spec_DrawCoverPotential code).1) ((F_spec_DrawCoverPotential code).2.getD k9_1 0)).1)).2))])) en_23 ⟨(ev_t rfl), (ev_t rfl), trivial⟩ (fun w hw => impl_RowDistance_ok w r3_1.2 ((F_spec_DrawCoverPotential code).2) ((ri_row 3 rfl) w hw) r13_5 ((F_impl_CoverStep ((F_spec_DrawCoverPotential code).1) ((F_spec_DrawCoverPotential code).2.getD k9_1 0)).1) ((ri_row 1 rfl) w hw))) rfl rfl rfl ?_
              refine TL.op (yq (y_move (ev_t rfl))) rfl rfl rfl ?_
              refine TL.op (yq (y_extract (ev_t rfl) rfl)) rfl rfl rfl ?_
              refine TL.op (yq (y_extract (ev_t rfl) rfl)) rfl rfl rfl ?_
              refine TL.op (yq (y_assign (ev_t rfl))) rfl rfl rfl ?_
              refine TL.op (yq (y_assign (ev_t rfl))) rfl rfl rfl ?_
              refine TL.nil ?_
              refine TN.seq ?_
              refine TC.seq ?_
              refine TC.region ?_
              refine TL.op (yq (y_move (ev_t rfl))) rfl rfl rfl ?_
              refine TL.op (yq (y_not (ev_t rfl))) rfl rfl rfl ?_
              refine TL.op (yq (y_move (ev_t rfl))) rfl rfl rfl ?_
              refine TL.opw (w_f rfl rfl rfl) (fun hg => yq (y_move (ev_t rfl))) rfl rfl ?_
              refine TL.opw (w_f rfl rfl rfl) (fun hg => yq (y_not (ev_g rfl hg))) rfl rfl ?_
              refine TL.op (yq (y_or (ev_t rfl) (fun hq => (ev_g rfl hq)))) rfl rfl rfl ?_
              refine TL.op (yq (y_move (ev_t rfl))) rfl rfl rfl ?_
              refine TL.opw (w_f rfl rfl rfl) (fun hg => yq (y_move (ev_t rfl))) rfl rfl ?_
              refine TL.opw (w_f rfl rfl rfl) (fun hg => yq (y_move (ev_t rfl))) rfl rfl ?_
              refine TL.opw (w_f rfl rfl rfl) (fun hg => yq (y_move (ev_t rfl))) rfl rfl ?_
              refine TL.opw (w_f rfl rfl rfl) (fun hg => yq (y_len (ev_g rfl hg) Try.underlying34 (fun w hw => ((ri_row 2 rfl) w hw).ln))) rfl rfl ?_
              refine TL.opw (w_f rfl rfl rfl) (fun hg => yq (y_move (ev_t rfl))) rfl rfl ?_
              refine TL.opw (w_f rfl rfl rfl) (fun hg => yq (y_mul (ev_g rfl hg) (ev_g rfl hg) (by unfold In64; omega))) rfl rfl ?_
              refine TL.opw (w_f rfl rfl rfl) (fun hg => yq (y_add (ev_g rfl hg) (ev_g rfl hg) (by unfold In64; omega))) rfl rfl ?_
              refine TL.opw (w_f rfl rfl rfl) (fun hg => yq (y_gtr (ev_g rfl hg) (ev_g rfl hg))) rfl rfl ?_
              refine TL.op (yq (y_or (ev_t rfl) (fun hq => (ev_g rfl hq)))) rfl rfl rfl ?_
              refine TL.nil ?_
              refine TN.seq ?_
              refine TC.cond (b := (((!((F_impl_CoverPotential ((F_spec_DrawCoverPotential code).1) ((F_impl_CoverStep ((F_spec_DrawCoverPotential code).1) ((F_spec_DrawCoverPotential code).2.getD k9_1 0)).1)).2)) || (!((F_impl_RowDistance ((F_spec_DrawCoverPotential code).2) ((F_impl_CoverStep ((F_spec_DrawCoverPotential code).1) ((F_spec_DrawCoverPotential code).2.getD k9_1 0)).1)).2))) || (decide (((F_impl_CoverPotential ((F_spec_DrawCoverPotential code).1) ((F_spec_DrawCoverPotential code).2)).1) + (((F_spec_DrawCoverPotential code).1.length : Int) * ((F_impl_RowDistance ((F_spec_DrawCoverPotential code).2) ((F_impl_CoverStep ((F_spec_DrawCoverPotential code).1) ((F_spec_DrawCoverPotential code).2.getD k9_1 0)).1)).1)) < (F_impl_CoverPotential ((F_spec_DrawCoverPotential code).1) ((F_impl_CoverStep ((F_spec_DrawCoverPotential code).1) ((F_spec_DrawCoverPotential code).2.getD k9_1 0)).1)).1)))) (ev_t rfl) (fun h43 => ?_) (fun h43 => ?_)
              · rw [bif_pos h43] at hL1
                have q44 := ((or_t h43).imp (fun h => ((or_t h).imp (fun h => (not_t h)) (fun h => (not_t h)))) (fun h => (of_decide_eq_true h)))
                refine TC.seq ?_
                refine TC.region ?_
                refine TL.op (yq (y_assign ev_c)) rfl rfl rfl ?_
                refine TL.nil ?_
                refine TN.seq ?_
                refine TC.ret ?_
                refine TN.blockR ?_
                refine TN.thenR ?_
                refine TN.thenR ?_
                rw [← hL1, elim_ret] at hF
                refine TN.blockR ?_
                refine TN.thenR ?_
                subst hF
                exact TN.ret1 rfl (ev_t rfl) (fun w' hw => ⟨rfl, Hp.sublist hw (List.nil_sublist _)⟩)
              · rw [bif_neg h43] at hL1
                have q44 := (and_imp (or_f h43) (fun h => (and_imp (or_f h) (fun h => (not_f h)) (fun h => (not_f h)))) (fun h => (of_decide_eq_false h)))
                refine TC.skip ?_
                refine TN.blockN ?_
                refine TN.seq ?_
                refine TC.region ?_
                refine TL.op (yq (y_move (ev_t rfl))) rfl rfl rfl ?_
                refine TL.op (yq (y_add (ev_t rfl) ev_c (by unfold In64; omega))) rfl rfl rfl ?_
                refine TL.op (yq (y_assign (ev_t rfl))) rfl rfl rfl ?_
                refine TL.nil ?_
                exact TN.hand (mf1, (k9_1 + 1)) ⟨(by first | omega | (simp [-List.getD_eq_getElem?_getD] <;> omega)), (by omega), hL1⟩ (Nat.lt_succ_self _) ⟨rfl, rfl, rfl, rfl, trivial⟩ (fun w hw => Hp.sublist hw (.cons _ (.cons _ (.cons_cons _ (.cons_cons _ .slnil)))))
        · rw [bif_neg h35] at hL1
          have q36 := (of_decide_eq_false h35)
          refine TC.exit ?_
          refine TN.thenE ?_
          refine TN.thenE ?_
          rw [← hL1, elim_next] at hF
          try dsimp only at hF
          refine TN.blockH ?_
          refine TN.seq ?_
          refine TC.seq ?_
          refine TC.region ?_
          refine TL.op (yq (y_assign ev_c)) rfl rfl rfl ?_
          refine TL.nil ?_
          refine TN.seq ?_
          refine TC.ret ?_
          subst hF
          exact TN.ret1 rfl (ev_t rfl) (fun w' hw => ⟨rfl, Hp.sublist hw (List.nil_sublist _)⟩)


end Go.Proofs.Ytfhhfhiooehlcaa
