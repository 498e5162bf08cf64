/-
  Walks of functions of the program: each computes its plain function. No condition but the bounds that are typed.
-/
import Derived.Test.YtfhhfhiooehlcaaQ1
namespace Go.Proofs.Ytfhhfhiooehlcaa
open Go Go.RowKit
set_option linter.unusedVariables false

set_option maxRecDepth 4000 in
set_option maxHeartbeats 1000000 in
theorem spec_CoverPotential_ok (w : World) (vrow : Value) (row : List Int) (hrow : RI w vrow row) (vother : Value) (other : List Int) (hother : RI w vother other)  :
    Calls Try.prog 19 ([vrow, vother] : List Value).toArray w (Ret (.tuple #[(.int .i64 ((F_spec_CoverPotential row other).1)), (.bool ((F_spec_CoverPotential row other).2))]) (Hp w [])) := by
  obtain ⟨rz, hF⟩ : ∃ rz, (F_spec_CoverPotential row other) = rz := ⟨_, rfl⟩
  rw [hF]
  unfold F_spec_CoverPotential at hF
  have hlen_row := arg_len hrow
  have hlen_other := arg_len hother
  refine calls_tc Try.func19 rfl rfl rfl ?_
  change TC _ _ _ _ (Hp w []) [(0, vrow), (1, vother)]
  refine TC.seq ?_
  refine TC.region ?_
  refine TL.op (yq (y_assign ev_c)) rfl rfl rfl ?_
  refine TL.op (yq (y_assign ev_c)) rfl rfl rfl ?_
  refine TL.nil ?_
  refine TN.seq ?_
  refine TC.seq ?_
  refine TC.seq ?_
  refine TC.region ?_
  refine TL.op (yq (y_move (ev_t rfl))) rfl rfl rfl ?_
  refine TL.op (y_call (vs := [vrow]) (v := (.bool (F_spec_l6Row row))) en_50 ⟨(ev_t rfl), trivial⟩ (fun w hw => spec_l6Row_ok w vrow row ((ri_arg hrow) w hw))) rfl rfl rfl ?_
  refine TL.op (yq (y_not (ev_t rfl))) rfl rfl rfl ?_
  refine TL.op (yq (y_move (ev_t rfl))) rfl rfl rfl ?_
  refine TL.opw (w_f rfl rfl rfl) (fun hg => yq (y_move (ev_t rfl))) rfl rfl ?_
  refine TL.opw (w_f rfl rfl rfl) (fun hg => y_call (vs := [vother]) (v := (.bool (F_spec_l6Row other))) en_50 ⟨(ev_g rfl hg), trivial⟩ (fun w hw => spec_l6Row_ok w vother other ((ri_arg hother) w hw))) rfl rfl ?_
  refine TL.opw (w_f rfl rfl rfl) (fun hg => yq (y_not (ev_g rfl hg))) rfl rfl ?_
  refine TL.op (yq (y_or (ev_t rfl) (fun hq => (ev_g rfl hq)))) rfl rfl rfl ?_
  refine TL.op (yq (y_move (ev_t rfl))) rfl rfl rfl ?_
  refine TL.opw (w_f rfl rfl rfl) (fun hg => yq (y_move (ev_t rfl))) rfl rfl ?_
  refine TL.opw (w_f rfl rfl rfl) (fun hg => yq (y_len (ev_g rfl hg) Try.underlying34 (fun w hw => ((ri_arg hrow) w hw).ln))) rfl rfl ?_
  refine TL.opw (w_f rfl rfl rfl) (fun hg => yq (y_move (ev_t rfl))) rfl rfl ?_
  refine TL.opw (w_f rfl rfl rfl) (fun hg => yq (y_len (ev_g rfl hg) Try.underlying34 (fun w hw => ((ri_arg hother) w hw).ln))) rfl rfl ?_
  refine TL.opw (w_f rfl rfl rfl) (fun hg => yq (y_neq (ev_g rfl hg) (ev_g rfl hg))) rfl rfl ?_
  refine TL.op (yq (y_or (ev_t rfl) (fun hq => (ev_g rfl hq)))) rfl rfl rfl ?_
  refine TL.nil ?_
  refine TN.seq ?_
  refine TC.cond (b := (((!(F_spec_l6Row row)) || (!(F_spec_l6Row other))) || (!decide ((row.length : Int) = (other.length : Int))))) (ev_t rfl) (fun h3 => ?_) (fun h3 => ?_)
  · rw [bif_pos h3] at hF
    have q4 := ((or_t h3).imp (fun h => ((or_t h).imp (fun h => (not_t h)) (fun h => (not_t h)))) (fun h => (of_decide_eq_false (not_t h))))
    refine TC.seq ?_
    refine TC.region ?_
    refine TL.op (yq (y_assign ev_c)) rfl rfl rfl ?_
    refine TL.op (yq (y_assign ev_c)) rfl rfl rfl ?_
    refine TL.nil ?_
    refine TN.seq ?_
    refine TC.ret ?_
    refine TN.thenR ?_
    subst hF
    exact TN.ret2 rfl (ev_t rfl) (ev_t rfl) (fun w' hw => ⟨rfl, hw⟩)
  · rw [bif_neg h3] at hF
    have q4 := (and_imp (or_f h3) (fun h => (and_imp (or_f h) (fun h => (l6Row_t (not_f h))) (fun h => (l6Row_t (not_f h))))) (fun h => (of_decide_eq_true (not_f h))))
    have hpb := pot_le q4.1.1 q4.1.2 (by omega)
    refine TC.skip ?_
    refine TN.seq ?_
    refine TC.seq ?_
    refine TC.region ?_
    refine TL.op (yq (y_move (ev_t rfl))) rfl rfl rfl ?_
    refine TL.op (yq (y_len (ev_t rfl) Try.underlying34 (fun w hw => ((ri_arg hrow) w hw).ln))) rfl rfl rfl ?_
    refine TL.op (yq (y_move (ev_t rfl))) rfl rfl rfl ?_
    refine TL.op (yq (y_move (ev_t rfl))) rfl rfl rfl ?_
    refine TL.op (y_call (vs := [vrow, vother]) (v := (.int .i64 (F_spec_l6Apart row other))) en_51 ⟨(ev_t rfl), (ev_t rfl), trivial⟩ (fun w hw => spec_l6Apart_ok w vrow row ((ri_arg hrow) w hw) vother other ((ri_arg hother) w hw) (by first | assumption | omega | grind) (by first | assumption | omega | grind) (by first | assumption | omega | grind))) rfl rfl rfl ?_
    refine TL.op (yq (y_mul (ev_t rfl) (ev_t rfl) (by unfold In64; omega))) rfl rfl rfl ?_
    refine TL.op (yq (y_move (ev_t rfl))) rfl rfl rfl ?_
    refine TL.op (y_call (vs := [vrow]) (v := (.int .i64 (F_spec_l6Spread row))) en_52 ⟨(ev_t rfl), trivial⟩ (fun w hw => spec_l6Spread_ok w vrow row ((ri_arg hrow) w hw) (by first | assumption | omega | grind))) rfl rfl rfl ?_
    refine TL.op (yq (y_add (ev_t rfl) (ev_t rfl) (by unfold In64; omega))) rfl rfl rfl ?_
    refine TL.op (yq (y_assign (ev_t rfl))) rfl rfl rfl ?_
    refine TL.op (yq (y_assign ev_c)) rfl rfl rfl ?_
    refine TL.nil ?_
    refine TN.seq ?_
    refine TC.ret ?_
    subst hF
    exact TN.ret2 rfl (ev_t rfl) (ev_t rfl) (fun w' hw => ⟨rfl, hw⟩)

set_option maxRecDepth 4000 in
set_option maxHeartbeats 1000000 in
theorem impl_CoverPotential_ok (w : World) (vrow : Value) (row : List Int) (hrow : RI w vrow row) (vother : Value) (other : List Int) (hother : RI w vother other)  :
    Calls Try.prog 18 ([vrow, vother] : List Value).toArray w (Ret (.tuple #[(.int .i64 ((F_impl_CoverPotential row other).1)), (.bool ((F_impl_CoverPotential row other).2))]) (Hp w [])) := by
  obtain ⟨rz, hF⟩ : ∃ rz, (F_impl_CoverPotential row other) = rz := ⟨_, rfl⟩
  rw [hF]
  unfold F_impl_CoverPotential at hF
  have hlen_row := arg_len hrow
  have hlen_other := arg_len hother
  refine calls_tc Try.func18 rfl rfl rfl ?_
  change TC _ _ _ _ (Hp w []) [(0, vrow), (1, vother)]
  refine TC.seq ?_
  refine TC.region ?_
  refine TL.op (yq (y_assign ev_c)) rfl rfl rfl ?_
  refine TL.op (yq (y_assign ev_c)) rfl rfl rfl ?_
  refine TL.nil ?_
  refine TN.seq ?_
  refine TC.seq ?_
  refine TC.seq ?_
  refine TC.region ?_
  refine TL.op (yq (y_move (ev_t rfl))) rfl rfl rfl ?_
  refine TL.op (yq (y_move (ev_t rfl))) rfl rfl rfl ?_
  refine TL.op (y_call (vs := [vrow, vother]) (v := (.bool (F_impl_areRows row other))) en_48 ⟨(ev_t rfl), (ev_t rfl), trivial⟩ (fun w hw => impl_areRows_ok w vrow row ((ri_arg hrow) w hw) vother other ((ri_arg hother) w hw))) rfl rfl rfl ?_
  refine TL.op (yq (y_not (ev_t rfl))) rfl rfl rfl ?_
  refine TL.nil ?_
  refine TN.seq ?_
  refine TC.cond (b := !(F_impl_areRows row other)) (ev_t rfl) (fun h22 => ?_) (fun h22 => ?_)
  · rw [bif_pos h22] at hF
    have q23 := (not_t h22)
    refine TC.seq ?_
    refine TC.region ?_
    refine TL.op (yq (y_assign ev_c)) rfl rfl rfl ?_
    refine TL.op (yq (y_assign ev_c)) rfl rfl rfl ?_
    refine TL.nil ?_
    refine TN.seq ?_
    refine TC.ret ?_
    refine TN.thenR ?_
    subst hF
    exact TN.ret2 rfl (ev_t rfl) (ev_t rfl) (fun w' hw => ⟨rfl, hw⟩)
  · rw [bif_neg h22] at hF
    have q23 := (areRows_t (not_f h22))
    obtain ⟨hR1, hR2, hRl⟩ := q23
    have hpb := pot_le hR1 hR2 hRl
    have hlr := hR1.1.2
    refine TC.skip ?_
    refine TN.seq ?_
    refine TC.seq ?_
    refine TC.region ?_
    refine TL.op (yq (y_move (ev_t rfl))) rfl rfl rfl ?_
    refine TL.op (yq (y_len (ev_t rfl) Try.underlying34 (fun w hw => ((ri_arg hrow) w hw).ln))) rfl rfl rfl ?_
    refine TL.op (yq (y_move (ev_t rfl))) rfl rfl rfl ?_
    refine TL.op (yq (y_move (ev_t rfl))) rfl rfl rfl ?_
    refine TL.op (y_call (vs := [vrow, vother]) (v := (.int .i64 (F_impl_rowDistance row other))) en_49 ⟨(ev_t rfl), (ev_t rfl), trivial⟩ (fun w hw => impl_rowDistance_ok w vrow row ((ri_arg hrow) w hw) vother other ((ri_arg hother) w hw) (by first | assumption | omega | grind) (by first | assumption | omega | grind) (by first | assumption | omega | grind))) rfl rfl rfl ?_
    refine TL.op (yq (y_mul (ev_t rfl) (ev_t rfl) (by unfold In64; omega))) rfl rfl rfl ?_
    refine TL.op (yq (y_assign (ev_t rfl))) rfl rfl rfl ?_
    refine TL.nil ?_
    refine TN.seq ?_
    refine TC.seq ?_
    refine TC.seq ?_
    refine TC.region ?_
    refine TL.op (yq (y_move (ev_t rfl))) rfl rfl rfl ?_
    refine TL.op (yq (y_len (ev_t rfl) Try.underlying34 (fun w hw => ((ri_arg hrow) w hw).ln))) rfl rfl rfl ?_
    refine TL.op (yq (y_move ev_c)) rfl rfl rfl ?_
    refine TL.nil ?_
    refine TN.seq ?_
    refine TC.block ?_
    obtain ⟨c24, hc25⟩ : ∃ c, F_impl_CoverPotential_L1 row ((row.length - 0) + 1) (((row.length : Int) * (F_impl_rowDistance row other)), 0) = c := ⟨_, rfl⟩
    rw [hc25] at hF
    refine TC.loop (ι := Nat × Int × Nat) (fun (fu1, sum1, k23_1) => [(0, vrow), (6, (.int .i64 sum1)), (21, vrow), (22, (.int .i64 (row.length : Int))), (23, (.int .i64 (k23_1 : Int)))]) (fun (fu1, sum1, k23_1) => Hp w []) (fun (fu1, sum1, k23_1) => (k23_1 ≤ row.length) ∧ (-297 * k23_1 ≤ sum1) ∧ (sum1 ≤ 891 + 297 * k23_1) ∧ row.length - k23_1 < fu1 ∧ F_impl_CoverPotential_L1 row fu1 (sum1, k23_1) = c24) (fun (fu1, sum1, k23_1) => fu1) ((row.length - 0) + 1, (row.length : Int) * (F_impl_rowDistance row other), 0) ⟨(by first | omega | (simp [-List.getD_eq_getElem?_getD] <;> omega)), (by first | omega | (simp [-List.getD_eq_getElem?_getD] <;> omega)), (by first | omega | (simp [-List.getD_eq_getElem?_getD] <;> omega)), (by omega), hc25⟩ ⟨rfl, rfl, rfl, rfl, rfl, trivial⟩ (fun w hw => hw) ?_
    rintro ⟨fu1, sum1, k23_1⟩ hJ1
    obtain ⟨hi1_0, hi1_1, hi1_2, hmu1, hL1⟩ : (k23_1 ≤ row.length) ∧ (-297 * k23_1 ≤ sum1) ∧ (sum1 ≤ 891 + 297 * k23_1) ∧ row.length - k23_1 < fu1 ∧ F_impl_CoverPotential_L1 row fu1 (sum1, k23_1) = c24 := hJ1
    change TC _ _ _ _ (Hp w []) [(0, vrow), (6, (.int .i64 sum1)), (21, vrow), (22, (.int .i64 (row.length : Int))), (23, (.int .i64 (k23_1 : Int)))]
    obtain ⟨mf1, rfl⟩ : ∃ m, fu1 = m + 1 := ⟨fu1 - 1, by omega⟩
    rw [F_impl_CoverPotential_L1_s] at hL1
    have he1 := hR1.el k23_1
    have htl := take_len row k23_1
    refine TC.seq ?_
    refine TC.region ?_
    refine TL.op (yq (y_lss (ev_t rfl) (ev_t rfl))) rfl rfl rfl ?_
    refine TL.nil ?_
    refine TN.seq ?_
    refine TC.seq ?_
    refine TC.cond (b := decide ((k23_1 : Int) < (row.length : Int))) (ev_t rfl) (fun h26 => ?_) (fun h26 => ?_)
    · rw [bif_pos h26] at hL1
      have q27 := (of_decide_eq_true h26)
      refine TC.skip ?_
      refine TN.seq ?_
      refine TC.seq ?_
      refine TC.block ?_
      refine TC.seq ?_
      refine TC.region ?_
      refine TL.op (yq (y_move (ev_t rfl))) rfl rfl rfl ?_
      have hb28 : k23_1 < row.length := (by first | omega | (simp only [List.length_set, List.length_append, List.length_cons, List.length_nil, List.length_replicate]; omega) | (rw [sortI_length]; simp only [List.length_cons, List.length_nil]; omega))
      refine TL.op (yq (y_idx (k := k23_1) (ev_t rfl) (ev_t rfl) (by first | omega | simp) slT_34 (ri_arg hrow) hb28)) rfl rfl rfl ?_
      refine TL.op (yq (y_ldi (ev_t rfl) one_3 (ri_arg hrow) hb28)) rfl rfl rfl ?_
      refine TL.op (yq (y_assign (ev_t rfl))) rfl rfl rfl ?_
      refine TL.op (yq (y_assign (ev_t rfl))) rfl rfl rfl ?_
      refine TL.nil ?_
      refine TN.seq ?_
      refine TC.seq ?_
      refine TC.region ?_
      refine TL.op (yq (y_move (ev_t rfl))) rfl rfl rfl ?_
      refine TL.op (yq (y_move (ev_t rfl))) rfl rfl rfl ?_
      have hs29 : 0 ≤ k23_1 := (by first | omega | (simp only [List.length_set, List.length_append, List.length_cons, List.length_nil, List.length_replicate]; omega) | (rw [sortI_length]; simp only [List.length_cons, List.length_nil]; omega))
      have hs30 : k23_1 ≤ row.length := (by first | omega | (simp only [List.length_set, List.length_append, List.length_cons, List.length_nil, List.length_replicate]; omega) | (rw [sortI_length]; simp only [List.length_cons, List.length_nil]; omega))
      refine TL.op (yq (y_slice_hi (ev_t rfl) (ev_t rfl) (hi := k23_1) (by omega) slT_34 (ri_arg hrow) hs30)) rfl rfl rfl ?_
      refine TL.op (yq (y_len (ev_t rfl) Try.underlying34 (fun w hw => ((fun w hw => ri_resl ((ri_arg hrow) w hw) hs29 hs30) w hw).ln))) rfl rfl rfl ?_
      refine TL.op (yq (y_move ev_c)) rfl rfl rfl ?_
      refine TL.nil ?_
      refine TN.seq ?_
      refine TC.block ?_
      obtain ⟨c31, hc32⟩ : ∃ c, F_impl_CoverPotential_L2 row k23_1 (((((row.take k23_1).drop 0).length) - 0) + 1) (sum1, 0) = c := ⟨_, rfl⟩
      rw [hc32] at hL1
      refine TC.loop (ι := Nat × Int × Nat) (fun (fu2, sum2, k32_2) => [(0, vrow), (6, (.int .i64 sum2)), (8, (.int .i64 (row.getD k23_1 0))), (21, vrow), (22, (.int .i64 (row.length : Int))), (23, (.int .i64 (k23_1 : Int))), (30, (resl vrow 0 k23_1 1)), (31, (.int .i64 (((row.take k23_1).drop 0).length : Int))), (32, (.int .i64 (k32_2 : Int)))]) (fun (fu2, sum2, k32_2) => Hp w []) (fun (fu2, sum2, k32_2) => (k32_2 ≤ (((row.take k23_1).drop 0).length)) ∧ (-297 * k23_1 - 99 * k32_2 ≤ sum2) ∧ (sum2 ≤ 891 + 297 * k23_1 + 99 * k32_2) ∧ (((row.take k23_1).drop 0).length) - k32_2 < fu2 ∧ F_impl_CoverPotential_L2 row k23_1 fu2 (sum2, k32_2) = c31) (fun (fu2, sum2, k32_2) => fu2) (((((row.take k23_1).drop 0).length) - 0) + 1, sum1, 0) ⟨(by first | omega | (simp [-List.getD_eq_getElem?_getD] <;> omega)), (by first | omega | (simp [-List.getD_eq_getElem?_getD] <;> omega)), (by first | omega | (simp [-List.getD_eq_getElem?_getD] <;> omega)), (by omega), hc32⟩ ⟨rfl, rfl, rfl, rfl, rfl, rfl, rfl, rfl, rfl, trivial⟩ (fun w hw => hw) ?_
      rintro ⟨fu2, sum2, k32_2⟩ hJ2
      obtain ⟨hi2_0, hi2_1, hi2_2, hmu2, hL2⟩ : (k32_2 ≤ (((row.take k23_1).drop 0).length)) ∧ (-297 * k23_1 - 99 * k32_2 ≤ sum2) ∧ (sum2 ≤ 891 + 297 * k23_1 + 99 * k32_2) ∧ (((row.take k23_1).drop 0).length) - k32_2 < fu2 ∧ F_impl_CoverPotential_L2 row k23_1 fu2 (sum2, k32_2) = c31 := hJ2
      change TC _ _ _ _ (Hp w []) [(0, vrow), (6, (.int .i64 sum2)), (8, (.int .i64 (row.getD k23_1 0))), (21, vrow), (22, (.int .i64 (row.length : Int))), (23, (.int .i64 (k23_1 : Int))), (30, (resl vrow 0 k23_1 1)), (31, (.int .i64 (((row.take k23_1).drop 0).length : Int))), (32, (.int .i64 (k32_2 : Int)))]
      obtain ⟨mf2, rfl⟩ : ∃ m, fu2 = m + 1 := ⟨fu2 - 1, by omega⟩
      rw [F_impl_CoverPotential_L2_s] at hL2
      have he2 := take_el hR1 k23_1 k32_2
      refine TC.seq ?_
      refine TC.region ?_
      refine TL.op (yq (y_lss (ev_t rfl) (ev_t rfl))) rfl rfl rfl ?_
      refine TL.nil ?_
      refine TN.seq ?_
      refine TC.seq ?_
      refine TC.cond (b := decide ((k32_2 : Int) < (((row.take k23_1).drop 0).length : Int))) (ev_t rfl) (fun h33 => ?_) (fun h33 => ?_)
      · rw [bif_pos h33] at hL2
        have q34 := (of_decide_eq_true h33)
        refine TC.skip ?_
        refine TN.seq ?_
        refine TC.seq ?_
        refine TC.block ?_
        refine TC.seq ?_
        refine TC.region ?_
        have hb35 : k32_2 < ((row.take k23_1).drop 0).length := (by first | omega | (simp only [List.length_set, List.length_append, List.length_cons, List.length_nil, List.length_replicate]; omega) | (rw [sortI_length]; simp only [List.length_cons, List.length_nil]; omega))
        refine TL.op (yq (y_idx (k := k32_2) (ev_t rfl) (ev_t rfl) (by first | omega | simp) slT_34 (fun w hw => ri_resl ((ri_arg hrow) w hw) hs29 hs30) hb35)) rfl rfl rfl ?_
        refine TL.op (yq (y_ldi (ev_t rfl) one_3 (fun w hw => ri_resl ((ri_arg hrow) w hw) hs29 hs30) hb35)) rfl rfl rfl ?_
        refine TL.op (yq (y_assign (ev_t rfl))) rfl rfl rfl ?_
        refine TL.nil ?_
        refine TN.seq ?_
        refine TC.region ?_
        refine TL.op (yq (y_move (ev_t rfl))) rfl rfl rfl ?_
        refine TL.op (yq (y_move (ev_t rfl))) rfl rfl rfl ?_
        refine TL.op (yq (y_move (ev_t rfl))) rfl rfl rfl ?_
        refine TL.op (yq (y_sub (ev_t rfl) (ev_t rfl) (by unfold In64; omega))) rfl rfl rfl ?_
        refine TL.op (yq (y_add (ev_t rfl) (ev_t rfl) (by unfold In64; omega))) rfl rfl rfl ?_
        refine TL.op (yq (y_assign (ev_t rfl))) rfl rfl rfl ?_
        refine TL.nil ?_
        refine TN.blockN ?_
        refine TN.seq ?_
        refine TC.region ?_
        refine TL.op (yq (y_add (ev_t rfl) ev_c (by unfold In64; omega))) rfl rfl rfl ?_
        refine TL.op (yq (y_move (ev_t rfl))) rfl rfl rfl ?_
        refine TL.nil ?_
        exact TN.hand (mf2, sum2 + ((row.getD k23_1 0) - (((row.take k23_1).drop 0).getD k32_2 0)), (k32_2 + 1)) ⟨(by first | omega | (simp [-List.getD_eq_getElem?_getD] <;> omega)), (by first | omega | (simp [-List.getD_eq_getElem?_getD] <;> omega)), (by first | omega | (simp [-List.getD_eq_getElem?_getD] <;> omega)), (by omega), hL2⟩ (Nat.lt_succ_self _) ⟨rfl, rfl, rfl, rfl, rfl, rfl, rfl, rfl, rfl, trivial⟩ (fun w hw => hw)
      · rw [bif_neg h33] at hL2
        have q34 := (of_decide_eq_false h33)
        refine TC.exit ?_
        refine TN.thenE ?_
        refine TN.thenE ?_
        rw [← hL2, elim_next] at hL1
        try dsimp only at hL1
        refine TN.blockH ?_
        refine TN.blockN ?_
        refine TN.seq ?_
        refine TC.region ?_
        refine TL.op (yq (y_add (ev_t rfl) ev_c (by unfold In64; omega))) rfl rfl rfl ?_
        refine TL.op (yq (y_move (ev_t rfl))) rfl rfl rfl ?_
        refine TL.nil ?_
        exact TN.hand (mf1, sum2, (k23_1 + 1)) ⟨(by first | omega | (simp [-List.getD_eq_getElem?_getD] <;> omega)), (by first | omega | (simp [-List.getD_eq_getElem?_getD] <;> omega)), (by first | omega | (simp [-List.getD_eq_getElem?_getD] <;> omega)), (by omega), hL1⟩ (Nat.lt_succ_self _) ⟨rfl, rfl, rfl, rfl, rfl, trivial⟩ (fun w hw => hw)
    · rw [bif_neg h26] at hL1
      have q27 := (of_decide_eq_false h26)
      refine TC.exit ?_
      refine TN.thenE ?_
      refine TN.thenE ?_
      rw [← hL1, elim_next] at hF
      try dsimp only at hF
      refine TN.blockH ?_
      refine TN.seq ?_
      refine TC.seq ?_
      refine TC.region ?_
      refine TL.op (yq (y_move (ev_t rfl))) rfl rfl rfl ?_
      refine TL.op (yq (y_assign (ev_t rfl))) rfl rfl rfl ?_
      refine TL.op (yq (y_assign ev_c)) rfl rfl rfl ?_
      refine TL.nil ?_
      refine TN.seq ?_
      refine TC.ret ?_
      subst hF
      exact TN.ret2 rfl (ev_t rfl) (ev_t rfl) (fun w' hw => ⟨rfl, hw⟩)

set_option maxRecDepth 4000 in
set_option maxHeartbeats 1000000 in
theorem spec_l1Own_ok (w : World) (va : Value) (a : List Int) (ha : RI w va a) (hp0 : a.length ≤ 1000000000) :
    Calls Try.prog 91 ([va] : List Value).toArray w (fun e w' => ∃ i : Value, e = .returned i ∧ Hp w [rowI 3 i (F_spec_l1Own a)] w') := by
  obtain ⟨rz, hF⟩ : ∃ rz, (F_spec_l1Own a) = rz := ⟨_, rfl⟩
  rw [hF]
  unfold F_spec_l1Own at hF
  have hlen_a := arg_len ha
  refine calls_tc Try.func91 rfl rfl rfl ?_
  change TC _ _ _ _ (Hp w []) [(0, va)]
  refine TC.seq ?_
  refine TC.region ?_
  refine TL.op (yq (y_assign ev_c)) rfl rfl rfl ?_
  refine TL.nil ?_
  refine TN.seq ?_
  refine TC.seq ?_
  refine TC.region ?_
  refine TL.buildI (zs := []) (qs := []) slT_34 rfl trivial rfl (by decide) rfl (fun v1_0 => ?_)
  refine TL.op (yq (y_move (ev_t rfl))) rfl rfl rfl ?_
  refine TL.appendI 0 (ev_t rfl) (ev_t rfl) rfl slT_34 (ri_arg ha) (by first | omega | (simp [-List.getD_eq_getElem?_getD] <;> omega)) rfl (fun v1_2 => ?_)
  refine TL.op (yq (y_assign (ev_t rfl))) rfl rfl rfl ?_
  refine TL.nil ?_
  refine TN.seq ?_
  refine TC.ret ?_
  subst hF
  exact TN.ret1 rfl (ev_t rfl) (fun w' hw => ⟨v1_2, rfl, hw⟩)

set_option maxRecDepth 4000 in
set_option maxHeartbeats 1000000 in
theorem spec_l1Least_ok (w : World) (a : Int) (b : Int)  :
    Calls Try.prog 92 ([(.int .i64 a), (.int .i64 b)] : List Value).toArray w (Ret (.int .i64 (F_spec_l1Least a b)) (Hp w [])) := by
  obtain ⟨rz, hF⟩ : ∃ rz, (F_spec_l1Least a b) = rz := ⟨_, rfl⟩
  rw [hF]
  unfold F_spec_l1Least at hF
  refine calls_tc Try.func92 rfl rfl rfl ?_
  change TC _ _ _ _ (Hp w []) [(0, (.int .i64 a)), (1, (.int .i64 b))]
  refine TC.seq ?_
  refine TC.region ?_
  refine TL.op (yq (y_assign ev_c)) rfl rfl rfl ?_
  refine TL.nil ?_
  refine TN.seq ?_
  refine TC.seq ?_
  refine TC.seq ?_
  refine TC.region ?_
  refine TL.op (yq (y_move (ev_t rfl))) rfl rfl rfl ?_
  refine TL.op (yq (y_move (ev_t rfl))) rfl rfl rfl ?_
  refine TL.op (yq (y_lss (ev_t rfl) (ev_t rfl))) rfl rfl rfl ?_
  refine TL.nil ?_
  refine TN.seq ?_
  refine TC.cond (b := decide (a < b)) (ev_t rfl) (fun h3 => ?_) (fun h3 => ?_)
  · rw [bif_pos h3] at hF
    have q4 := (of_decide_eq_true h3)
    refine TC.seq ?_
    refine TC.region ?_
    refine TL.op (yq (y_move (ev_t rfl))) rfl rfl rfl ?_
    refine TL.op (yq (y_assign (ev_t rfl))) rfl rfl rfl ?_
    refine TL.nil ?_
    refine TN.seq ?_
    refine TC.ret ?_
    refine TN.thenR ?_
    subst hF
    exact TN.ret1 rfl (ev_t rfl) (fun w' hw => ⟨rfl, hw⟩)
  · rw [bif_neg h3] at hF
    have q4 := (of_decide_eq_false h3)
    refine TC.skip ?_
    refine TN.seq ?_
    refine TC.seq ?_
    refine TC.region ?_
    refine TL.op (yq (y_move (ev_t rfl))) rfl rfl rfl ?_
    refine TL.op (yq (y_assign (ev_t rfl))) rfl rfl rfl ?_
    refine TL.nil ?_
    refine TN.seq ?_
    refine TC.ret ?_
    subst hF
    exact TN.ret1 rfl (ev_t rfl) (fun w' hw => ⟨rfl, hw⟩)

set_option maxRecDepth 4000 in
set_option maxHeartbeats 1000000 in
theorem impl_isPlace_ok (w : World) (r : Int)  :
    Calls Try.prog 54 ([(.int .i64 r)] : List Value).toArray w (Ret (.bool (F_impl_isPlace r)) (Hp w [])) := by
  obtain ⟨rz, hF⟩ : ∃ rz, (F_impl_isPlace r) = rz := ⟨_, rfl⟩
  rw [hF]
  unfold F_impl_isPlace at hF
  refine calls_tc Try.func54 rfl rfl rfl ?_
  change TC _ _ _ _ (Hp w []) [(0, (.int .i64 r))]
  refine TC.seq ?_
  refine TC.region ?_
  refine TL.op (yq (y_assign ev_c)) rfl rfl rfl ?_
  refine TL.nil ?_
  refine TN.seq ?_
  refine TC.seq ?_
  refine TC.region ?_
  refine TL.op (yq (y_move (ev_t rfl))) rfl rfl rfl ?_
  refine TL.op (y_call (vs := [(.int .i64 r), (.int .i64 0), (.int .i64 99)]) (v := (.bool ((decide (0 ≤ r)) && (decide (r ≤ 99))))) en_88 ⟨(ev_t rfl), ev_c, ev_c, trivial⟩ (fun w hw => impl_within_ok w r 0 99)) rfl rfl rfl ?_
  refine TL.op (yq (y_assign (ev_t rfl))) rfl rfl rfl ?_
  refine TL.nil ?_
  refine TN.seq ?_
  refine TC.ret ?_
  subst hF
  exact TN.ret1 rfl (ev_t rfl) (fun w' hw => ⟨rfl, hw⟩)

set_option maxRecDepth 4000 in
set_option maxHeartbeats 1000000 in
theorem impl_covered_ok (w : World) (vrow : Value) (row : List Int) (hrow : RI w vrow row) (r : Int) (hp0 : Row row) (hp1 : 0 ≤ r) (hp2 : r ≤ 99) :
    Calls Try.prog 55 ([vrow, (.int .i64 r)] : List Value).toArray w (fun e w' => ∃ i : Value, e = .returned i ∧ Hp w [rowI 3 i (F_impl_covered row r)] w') := by
  obtain ⟨rz, hF⟩ : ∃ rz, (F_impl_covered row r) = rz := ⟨_, rfl⟩
  rw [hF]
  unfold F_impl_covered at hF
  have hbs := bs_le row r hp0
  have hlr := hp0.1
  have hel1 := hp0.el (((F_slices_BinarySearch_Sint_int row r).1 - 1).toNat)
  have hel2 := hp0.el ((F_slices_BinarySearch_Sint_int row r).1.toNat)
  have hlen_row := arg_len hrow
  refine calls_tc Try.func55 rfl rfl rfl ?_
  change TC _ _ _ _ (Hp w []) [(0, vrow), (1, (.int .i64 r))]
  refine TC.seq ?_
  refine TC.region ?_
  refine TL.op (yq (y_assign ev_c)) rfl rfl rfl ?_
  refine TL.nil ?_
  refine TN.seq ?_
  refine TC.seq ?_
  refine TC.region ?_
  refine TL.op (yq (y_move (ev_t rfl))) rfl rfl rfl ?_
  refine TL.callr (ι := Value) (vs := [vrow]) (fun i => i) (fun i => [rowI 3 i row]) en_89 ⟨(ev_t rfl), trivial⟩ rfl (fun w hw => slices_Clone_Sint_int_ok w vrow row ((ri_arg hrow) w hw) (by first | assumption | omega | grind)) (fun r1_1 => ?_)
  refine TL.op (yq (y_assign (ev_t rfl))) rfl rfl rfl ?_
  refine TL.nil ?_
  refine TN.seq ?_
  refine TC.seq ?_
  refine TC.region ?_
  refine TL.op (yq (y_move (ev_t rfl))) rfl rfl rfl ?_
  refine TL.op (yq (y_move (ev_t rfl))) rfl rfl rfl ?_
  refine TL.op (y_call (vs := [r1_1, (.int .i64 r)]) (v := (.tuple #[(.int .i64 ((F_slices_BinarySearch_Sint_int row r).1)), (.bool ((F_slices_BinarySearch_Sint_int row r).2))])) en_90 ⟨(ev_t rfl), (ev_t rfl), trivial⟩ (fun w hw => slices_BinarySearch_Sint_int_ok w r1_1 row ((ri_row 0 rfl) w hw) r (by first | assumption | omega | grind))) rfl rfl rfl ?_
  refine TL.op (yq (y_move (ev_t rfl))) rfl rfl rfl ?_
  refine TL.op (yq (y_extract (ev_t rfl) rfl)) rfl rfl rfl ?_
  refine TL.op (yq (y_extract (ev_t rfl) rfl)) rfl rfl rfl ?_
  refine TL.op (yq (y_assign (ev_t rfl))) rfl rfl rfl ?_
  refine TL.op (yq (y_assign (ev_t rfl))) rfl rfl rfl ?_
  refine TL.nil ?_
  refine TN.seq ?_
  refine TC.seq ?_
  refine TC.block ?_
  refine TC.seq ?_
  refine TC.region ?_
  refine TL.op (yq (y_move (ev_t rfl))) rfl rfl rfl ?_
  refine TL.op (yq (y_assign (ev_t rfl))) rfl rfl rfl ?_
  refine TL.nil ?_
  refine TN.seq ?_
  refine TC.cond (b := (F_slices_BinarySearch_Sint_int row r).2) (ev_t rfl) (fun h15 => ?_) (fun h15 => ?_)
  · rw [bif_pos h15] at hF
    have q16 := h15
    refine TC.skip ?_
    refine TN.blockN ?_
    refine TN.seq ?_
    refine TC.seq ?_
    refine TC.region ?_
    refine TL.op (yq (y_move (ev_t rfl))) rfl rfl rfl ?_
    refine TL.op (yq (y_assign (ev_t rfl))) rfl rfl rfl ?_
    refine TL.nil ?_
    refine TN.seq ?_
    refine TC.ret ?_
    subst hF
    exact TN.ret1 rfl (ev_t rfl) (fun w' hw => ⟨r1_1, rfl, hw⟩)
  · rw [bif_neg h15] at hF
    have q16 := h15
    refine TC.seq ?_
    refine TC.region ?_
    refine TL.op (yq (y_move (ev_t rfl))) rfl rfl rfl ?_
    refine TL.op (yq (y_eql (ev_t rfl) ev_c)) rfl rfl rfl ?_
    refine TL.op (yq (y_assign (ev_t rfl))) rfl rfl rfl ?_
    refine TL.nil ?_
    refine TN.seq ?_
    refine TC.cond (b := decide ((F_slices_BinarySearch_Sint_int row r).1 = 0)) (ev_t rfl) (fun h17 => ?_) (fun h17 => ?_)
    · rw [bif_pos h17] at hF
      have q18 := (of_decide_eq_true h17)
      refine TC.region ?_
      refine TL.op (yq (y_move (ev_t rfl))) rfl rfl rfl ?_
      refine TL.op (yq (y_move (ev_t rfl))) rfl rfl rfl ?_
      have hb19 : 0 < row.length := (by first | omega | (simp only [List.length_set, List.length_append, List.length_cons, List.length_nil, List.length_replicate]; omega) | (rw [sortI_length]; simp only [List.length_cons, List.length_nil]; omega))
      refine TL.op (yq (y_idx (k := 0) (ev_t rfl) ev_c (by first | omega | simp) slT_34 (ri_row 0 rfl) hb19)) rfl rfl rfl ?_
      refine TL.storeI 0 (ev_t rfl) (ev_t rfl) one_3 rfl hb19 ?_
      refine TL.nil ?_
      refine TN.blockN ?_
      refine TN.seq ?_
      refine TC.seq ?_
      refine TC.region ?_
      refine TL.op (yq (y_move (ev_t rfl))) rfl rfl rfl ?_
      refine TL.op (yq (y_assign (ev_t rfl))) rfl rfl rfl ?_
      refine TL.nil ?_
      refine TN.seq ?_
      refine TC.ret ?_
      subst hF
      exact TN.ret1 rfl (ev_t rfl) (fun w' hw => ⟨r1_1, rfl, hw⟩)
    · rw [bif_neg h17] at hF
      have q18 := (of_decide_eq_false h17)
      refine TC.seq ?_
      refine TC.region ?_
      refine TL.op (yq (y_move (ev_t rfl))) rfl rfl rfl ?_
      refine TL.op (yq (y_move (ev_t rfl))) rfl rfl rfl ?_
      refine TL.op (yq (y_len (ev_t rfl) Try.underlying34 (fun w hw => ((ri_row 0 rfl) w hw).ln))) rfl rfl rfl ?_
      refine TL.op (yq (y_eql (ev_t rfl) (ev_t rfl))) rfl rfl rfl ?_
      refine TL.op (yq (y_assign (ev_t rfl))) rfl rfl rfl ?_
      refine TL.nil ?_
      refine TN.seq ?_
      refine TC.cond (b := decide ((F_slices_BinarySearch_Sint_int row r).1 = (row.length : Int))) (ev_t rfl) (fun h20 => ?_) (fun h20 => ?_)
      · rw [bif_pos h20] at hF
        have q21 := (of_decide_eq_true h20)
        refine TC.region ?_
        refine TL.op (yq (y_move (ev_t rfl))) rfl rfl rfl ?_
        refine TL.op (yq (y_move (ev_t rfl))) rfl rfl rfl ?_
        refine TL.op (yq (y_sub (ev_t rfl) ev_c (by unfold In64; first | omega | (rw [getD_set_ne _ _ _ _ _ (by omega)]; omega)))) rfl rfl rfl ?_
        refine TL.op (yq (y_move (ev_t rfl))) rfl rfl rfl ?_
        have hb22 : (((F_slices_BinarySearch_Sint_int row r).1) - 1).toNat < row.length := (by first | omega | (simp only [List.length_set, List.length_append, List.length_cons, List.length_nil, List.length_replicate]; omega) | (rw [sortI_length]; simp only [List.length_cons, List.length_nil]; omega))
        refine TL.op (yq (y_idx (k := (((F_slices_BinarySearch_Sint_int row r).1) - 1).toNat) (ev_t rfl) (ev_t rfl) (by first | omega | simp) slT_34 (ri_row 0 rfl) hb22)) rfl rfl rfl ?_
        refine TL.storeI 0 (ev_t rfl) (ev_t rfl) one_3 rfl hb22 ?_
        refine TL.nil ?_
        refine TN.blockN ?_
        refine TN.seq ?_
        refine TC.seq ?_
        refine TC.region ?_
        refine TL.op (yq (y_move (ev_t rfl))) rfl rfl rfl ?_
        refine TL.op (yq (y_assign (ev_t rfl))) rfl rfl rfl ?_
        refine TL.nil ?_
        refine TN.seq ?_
        refine TC.ret ?_
        subst hF
        exact TN.ret1 rfl (ev_t rfl) (fun w' hw => ⟨r1_1, rfl, hw⟩)
      · rw [bif_neg h20] at hF
        have q21 := (of_decide_eq_false h20)
        refine TC.seq ?_
        refine TC.regionQ (by kernel_rfl) (by kernel_rfl) dr_hp ?_
        refine TQ.op (yq (y_move (ev_t rfl))) rfl rfl rfl ?_
        refine TQ.op (yq (y_move (ev_t rfl))) rfl rfl rfl ?_
        refine TQ.op (yq (y_move (ev_t rfl))) rfl rfl rfl ?_
        refine TQ.op (yq (y_sub (ev_t rfl) ev_c (by unfold In64; first | omega | (rw [getD_set_ne _ _ _ _ _ (by omega)]; omega)))) rfl rfl rfl ?_
        have hb23 : (((F_slices_BinarySearch_Sint_int row r).1) - 1).toNat < row.length := (by first | omega | (simp only [List.length_set, List.length_append, List.length_cons, List.length_nil, List.length_replicate]; omega) | (rw [sortI_length]; simp only [List.length_cons, List.length_nil]; omega))
        refine TQ.op (yq (y_idx (k := (((F_slices_BinarySearch_Sint_int row r).1) - 1).toNat) (ev_t rfl) (ev_t rfl) (by first | omega | simp) slT_34 (ri_row 0 rfl) hb23)) rfl rfl rfl ?_
        refine TQ.op (yq (y_ldi (ev_t rfl) one_3 (ri_row 0 rfl) hb23)) rfl rfl rfl ?_
        refine TQ.op (yq (y_sub (ev_t rfl) (ev_t rfl) (by unfold In64; first | omega | (rw [getD_set_ne _ _ _ _ _ (by omega)]; omega)))) rfl rfl rfl ?_
        refine TQ.op (yq (y_move (ev_t rfl))) rfl rfl rfl ?_
        refine TQ.op (yq (y_move (ev_t rfl))) rfl rfl rfl ?_
        have hb24 : ((F_slices_BinarySearch_Sint_int row r).1).toNat < row.length := (by first | omega | (simp only [List.length_set, List.length_append, List.length_cons, List.length_nil, List.length_replicate]; omega) | (rw [sortI_length]; simp only [List.length_cons, List.length_nil]; omega))
        refine TQ.op (yq (y_idx (k := ((F_slices_BinarySearch_Sint_int row r).1).toNat) (ev_t rfl) (ev_t rfl) (by first | omega | simp) slT_34 (ri_row 0 rfl) hb24)) rfl rfl rfl ?_
        refine TQ.op (yq (y_ldi (ev_t rfl) one_3 (ri_row 0 rfl) hb24)) rfl rfl rfl ?_
        refine TQ.op (yq (y_move (ev_t rfl))) rfl rfl rfl ?_
        refine TQ.op (yq (y_sub (ev_t rfl) (ev_t rfl) (by unfold In64; first | omega | (rw [getD_set_ne _ _ _ _ _ (by omega)]; omega)))) rfl rfl rfl ?_
        refine TQ.op (yq (y_min (ev_t rfl) (ev_t rfl))) rfl rfl rfl ?_
        refine TQ.op (yq (y_assign (ev_t rfl))) rfl rfl rfl ?_
        refine TQ.nil ?_
        refine TN.seq ?_
        refine TC.seq ?_
        refine TC.region ?_
        refine TL.op (yq (y_move (ev_t rfl))) rfl rfl rfl ?_
        refine TL.op (yq (y_move (ev_t rfl))) rfl rfl rfl ?_
        refine TL.op (yq (y_sub (ev_t rfl) ev_c (by unfold In64; first | omega | (rw [getD_set_ne _ _ _ _ _ (by omega)]; omega)))) rfl rfl rfl ?_
        have hb25 : (((F_slices_BinarySearch_Sint_int row r).1) - 1).toNat < row.length := (by first | omega | (simp only [List.length_set, List.length_append, List.length_cons, List.length_nil, List.length_replicate]; omega) | (rw [sortI_length]; simp only [List.length_cons, List.length_nil]; omega))
        refine TL.op (yq (y_idx (k := (((F_slices_BinarySearch_Sint_int row r).1) - 1).toNat) (ev_t rfl) (ev_t rfl) (by first | omega | simp) slT_34 (ri_row 0 rfl) hb25)) rfl rfl rfl ?_
        refine TL.op (yq (y_ldi (ev_t rfl) one_3 (ri_row 0 rfl) hb25)) rfl rfl rfl ?_
        refine TL.op (yq (y_move (ev_t rfl))) rfl rfl rfl ?_
        refine TL.op (yq (y_add (ev_t rfl) (ev_t rfl) (by unfold In64; first | omega | (rw [getD_set_ne _ _ _ _ _ (by omega)]; omega)))) rfl rfl rfl ?_
        have hb26 : (((F_slices_BinarySearch_Sint_int row r).1) - 1).toNat < row.length := (by first | omega | (simp only [List.length_set, List.length_append, List.length_cons, List.length_nil, List.length_replicate]; omega) | (rw [sortI_length]; simp only [List.length_cons, List.length_nil]; omega))
        refine TL.op (yq (y_idx (k := (((F_slices_BinarySearch_Sint_int row r).1) - 1).toNat) (ev_t rfl) (ev_t rfl) (by first | omega | simp) slT_34 (ri_row 0 rfl) hb26)) rfl rfl rfl ?_
        refine TL.storeI 0 (ev_t rfl) (ev_t rfl) one_3 rfl hb26 ?_
        refine TL.nil ?_
        refine TN.seq ?_
        refine TC.region ?_
        refine TL.op (yq (y_move (ev_t rfl))) rfl rfl rfl ?_
        refine TL.op (yq (y_move (ev_t rfl))) rfl rfl rfl ?_
        have hb27 : ((F_slices_BinarySearch_Sint_int row r).1).toNat < (row.set ((((F_slices_BinarySearch_Sint_int row r).1) - 1).toNat) ((row.getD ((((F_slices_BinarySearch_Sint_int row r).1) - 1).toNat) 0) + (min (r - (row.getD ((((F_slices_BinarySearch_Sint_int row r).1) - 1).toNat) 0)) ((row.getD (((F_slices_BinarySearch_Sint_int row r).1).toNat) 0) - r)))).length := (by first | omega | (simp only [List.length_set, List.length_append, List.length_cons, List.length_nil, List.length_replicate]; omega) | (rw [sortI_length]; simp only [List.length_cons, List.length_nil]; omega))
        refine TL.op (yq (y_idx (k := ((F_slices_BinarySearch_Sint_int row r).1).toNat) (ev_t rfl) (ev_t rfl) (by first | omega | simp) slT_34 (ri_row 0 rfl) hb27)) rfl rfl rfl ?_
        refine TL.op (yq (y_ldi (ev_t rfl) one_3 (ri_row 0 rfl) hb27)) rfl rfl rfl ?_
        refine TL.op (yq (y_move (ev_t rfl))) rfl rfl rfl ?_
        refine TL.op (yq (y_sub (ev_t rfl) (ev_t rfl) (by unfold In64; first | omega | (rw [getD_set_ne _ _ _ _ _ (by omega)]; omega)))) rfl rfl rfl ?_
        have hb28 : ((F_slices_BinarySearch_Sint_int row r).1).toNat < (row.set ((((F_slices_BinarySearch_Sint_int row r).1) - 1).toNat) ((row.getD ((((F_slices_BinarySearch_Sint_int row r).1) - 1).toNat) 0) + (min (r - (row.getD ((((F_slices_BinarySearch_Sint_int row r).1) - 1).toNat) 0)) ((row.getD (((F_slices_BinarySearch_Sint_int row r).1).toNat) 0) - r)))).length := (by first | omega | (simp only [List.length_set, List.length_append, List.length_cons, List.length_nil, List.length_replicate]; omega) | (rw [sortI_length]; simp only [List.length_cons, List.length_nil]; omega))
        refine TL.op (yq (y_idx (k := ((F_slices_BinarySearch_Sint_int row r).1).toNat) (ev_t rfl) (ev_t rfl) (by first | omega | simp) slT_34 (ri_row 0 rfl) hb28)) rfl rfl rfl ?_
        refine TL.storeI 0 (ev_t rfl) (ev_t rfl) one_3 rfl hb28 ?_
        refine TL.nil ?_
        refine TN.blockN ?_
        refine TN.seq ?_
        refine TC.seq ?_
        refine TC.region ?_
        refine TL.op (yq (y_move (ev_t rfl))) rfl rfl rfl ?_
        refine TL.op (yq (y_assign (ev_t rfl))) rfl rfl rfl ?_
        refine TL.nil ?_
        refine TN.seq ?_
        refine TC.ret ?_
        subst hF
        exact TN.ret1 rfl (ev_t rfl) (fun w' hw => ⟨r1_1, rfl, hw⟩)

set_option maxRecDepth 4000 in
set_option maxHeartbeats 1000000 in
theorem impl_CoverStep_ok (w : World) (vrow : Value) (row : List Int) (hrow : RI w vrow row) (r : Int)  :
    Calls Try.prog 20 ([vrow, (.int .i64 r)] : List Value).toArray w (fun e w' => ∃ i : Value, e = .returned (.tuple #[i, (.int .i64 ((F_impl_CoverStep row r).2.1)), (.bool ((F_impl_CoverStep row r).2.2))]) ∧ Hp w [rowI 3 i ((F_impl_CoverStep row r).1)] w') := by
  obtain ⟨rz, hF⟩ : ∃ rz, (F_impl_CoverStep row r) = rz := ⟨_, rfl⟩
  rw [hF]
  unfold F_impl_CoverStep at hF
  have hcv := covered_row row r
  have hlen_row := arg_len hrow
  refine calls_tc Try.func20 rfl rfl rfl ?_
  change TC _ _ _ _ (Hp w []) [(0, vrow), (1, (.int .i64 r))]
  refine TC.seq ?_
  refine TC.region ?_
  refine TL.op (yq (y_assign ev_c)) rfl rfl rfl ?_
  refine TL.op (yq (y_assign ev_c)) rfl rfl rfl ?_
  refine TL.op (yq (y_assign ev_c)) rfl rfl rfl ?_
  refine TL.nil ?_
  refine TN.seq ?_
  refine TC.seq ?_
  refine TC.seq ?_
  refine TC.region ?_
  refine TL.op (yq (y_move (ev_t rfl))) rfl rfl rfl ?_
  refine TL.op (y_call (vs := [vrow]) (v := (.bool (F_impl_isRow row))) en_53 ⟨(ev_t rfl), trivial⟩ (fun w hw => impl_isRow_ok w vrow row ((ri_arg hrow) w hw))) rfl rfl rfl ?_
  refine TL.op (yq (y_not (ev_t rfl))) rfl rfl rfl ?_
  refine TL.op (yq (y_move (ev_t rfl))) rfl rfl rfl ?_
  refine TL.opw (w_f rfl rfl rfl) (fun hg => yq (y_move (ev_t rfl))) rfl rfl ?_
  refine TL.opw (w_f rfl rfl rfl) (fun hg => y_call (vs := [(.int .i64 r)]) (v := (.bool ((decide (0 ≤ r)) && (decide (r ≤ 99))))) en_54 ⟨(ev_g rfl hg), trivial⟩ (fun w hw => impl_isPlace_ok w r)) rfl rfl ?_
  refine TL.opw (w_f rfl rfl rfl) (fun hg => yq (y_not (ev_g rfl hg))) rfl rfl ?_
  refine TL.op (yq (y_or (ev_t rfl) (fun hq => (ev_g rfl hq)))) rfl rfl rfl ?_
  refine TL.nil ?_
  refine TN.seq ?_
  refine TC.cond (b := ((!(F_impl_isRow row)) || (!((decide (0 ≤ r)) && (decide (r ≤ 99)))))) (ev_t rfl) (fun h3 => ?_) (fun h3 => ?_)
  · rw [bif_pos h3] at hF
    have q4 := ((or_t h3).imp (fun h => (not_t h)) (fun h => ((and_f (not_t h)).imp (fun h => (of_decide_eq_false h)) (fun h => (of_decide_eq_false h)))))
    refine TC.seq ?_
    refine TC.region ?_
    refine TL.op (yq (y_assign ev_c)) rfl rfl rfl ?_
    refine TL.op (yq (y_assign ev_c)) rfl rfl rfl ?_
    refine TL.op (yq (y_assign ev_c)) rfl rfl rfl ?_
    refine TL.nil ?_
    refine TN.seq ?_
    refine TC.ret ?_
    refine TN.thenR ?_
    subst hF
    refine TN.cls (fun w hw => hw.nil 3 1) ?_
    exact TN.ret3 rfl (ev_t rfl) (ev_t rfl) (ev_t rfl) (fun w' hw => ⟨(.slice none 0 0), rfl, hw⟩)
  · rw [bif_neg h3] at hF
    have q4 := (and_imp (or_f h3) (fun h => (isRow_t (not_f h))) (fun h => (and_imp (and_t (not_f h)) (fun h => (of_decide_eq_true h)) (fun h => (of_decide_eq_true h)))))
    refine TC.skip ?_
    refine TN.seq ?_
    refine TC.seq ?_
    refine TC.region ?_
    refine TL.op (yq (y_move (ev_t rfl))) rfl rfl rfl ?_
    refine TL.op (yq (y_move (ev_t rfl))) rfl rfl rfl ?_
    refine TL.callr (ι := Value) (vs := [vrow, (.int .i64 r)]) (fun i => i) (fun i => [rowI 3 i (F_impl_covered row r)]) en_55 ⟨(ev_t rfl), (ev_t rfl), trivial⟩ rfl (fun w hw => impl_covered_ok w vrow row ((ri_arg hrow) w hw) r (by first | assumption | omega | grind) (by first | assumption | omega | grind) (by first | assumption | omega | grind)) (fun r3_2 => ?_)
    refine TL.op (yq (y_assign (ev_t rfl))) rfl rfl rfl ?_
    refine TL.nil ?_
    refine TN.seq ?_
    refine TC.seq ?_
    refine TC.region ?_
    refine TL.op (yq (y_move (ev_t rfl))) rfl rfl rfl ?_
    refine TL.op (yq (y_move (ev_t rfl))) rfl rfl rfl ?_
    refine TL.op (yq (y_move (ev_t rfl))) rfl rfl rfl ?_
    refine TL.op (y_call (vs := [vrow, r3_2]) (v := (.int .i64 (F_impl_rowDistance row (F_impl_covered row r)))) en_49 ⟨(ev_t rfl), (ev_t rfl), trivial⟩ (fun w hw => impl_rowDistance_ok w vrow row ((ri_arg hrow) w hw) r3_2 (F_impl_covered row r) ((ri_row 0 rfl) w hw) (by first | assumption | omega | grind) (by first | assumption | omega | grind) (by first | assumption | omega | grind))) rfl rfl rfl ?_
    refine TL.op (yq (y_assign (ev_t rfl))) rfl rfl rfl ?_
    refine TL.op (yq (y_assign (ev_t rfl))) rfl rfl rfl ?_
    refine TL.op (yq (y_assign ev_c)) rfl rfl rfl ?_
    refine TL.nil ?_
    refine TN.seq ?_
    refine TC.ret ?_
    subst hF
    exact TN.ret3 rfl (ev_t rfl) (ev_t rfl) (ev_t rfl) (fun w' hw => ⟨r3_2, rfl, hw⟩)

set_option maxRecDepth 4000 in
set_option maxHeartbeats 1000000 in
theorem spec_l6Cover_ok (w : World) (vrow : Value) (row : List Int) (hrow : RI w vrow row) (r : Int) (hp0 : Row row) (hp1 : 0 ≤ r) (hp2 : r ≤ 99) :
    Calls Try.prog 57 ([vrow, (.int .i64 r)] : List Value).toArray w (fun e w' => ∃ i : Value, e = .returned (.tuple #[i, (.int .i64 ((F_spec_l6Cover row r).2))]) ∧ Hp w [rowI 3 i ((F_spec_l6Cover row r).1)] w') := by
  obtain ⟨rz, hF⟩ : ∃ rz, (F_spec_l6Cover row r) = rz := ⟨_, rfl⟩
  rw [hF]
  unfold F_spec_l6Cover at hF
  have hlr := hp0.1
  have hel0 := hp0.el 0
  have hel1 := hp0.el (((row.length : Int) - 1).toNat)
  have hlen_row := arg_len hrow
  refine calls_tc Try.func57 rfl rfl rfl ?_
  change TC _ _ _ _ (Hp w []) [(0, vrow), (1, (.int .i64 r))]
  refine TC.seq ?_
  refine TC.region ?_
  refine TL.op (yq (y_assign ev_c)) rfl rfl rfl ?_
  refine TL.op (yq (y_assign ev_c)) rfl rfl rfl ?_
  refine TL.nil ?_
  refine TN.seq ?_
  refine TC.seq ?_
  refine TC.region ?_
  refine TL.op (yq (y_move (ev_t rfl))) rfl rfl rfl ?_
  refine TL.callr (ι := Value) (vs := [vrow]) (fun i => i) (fun i => [rowI 3 i row]) en_91 ⟨(ev_t rfl), trivial⟩ rfl (fun w hw => spec_l1Own_ok w vrow row ((ri_arg hrow) w hw) (by first | assumption | omega | grind)) (fun r1_1 => ?_)
  refine TL.op (yq (y_move (ev_t rfl))) rfl rfl rfl ?_
  refine TL.op (yq (y_len (ev_t rfl) Try.underlying34 (fun w hw => ((ri_arg hrow) w hw).ln))) rfl rfl rfl ?_
  refine TL.op (yq (y_sub (ev_t rfl) ev_c (by unfold In64; omega))) rfl rfl rfl ?_
  refine TL.op (yq (y_assign (ev_t rfl))) rfl rfl rfl ?_
  refine TL.op (yq (y_assign (ev_t rfl))) rfl rfl rfl ?_
  refine TL.nil ?_
  refine TN.seq ?_
  refine TC.seq ?_
  refine TC.seq ?_
  refine TC.region ?_
  refine TL.op (yq (y_move (ev_t rfl))) rfl rfl rfl ?_
  refine TL.op (yq (y_move (ev_t rfl))) rfl rfl rfl ?_
  refine TL.op (y_call (vs := [vrow, (.int .i64 r)]) (v := (.bool (F_spec_l1Has row r))) en_75 ⟨(ev_t rfl), (ev_t rfl), trivial⟩ (fun w hw => spec_l1Has_ok w vrow row ((ri_arg hrow) w hw) r)) rfl rfl rfl ?_
  refine TL.nil ?_
  refine TN.seq ?_
  refine TC.cond (b := (F_spec_l1Has row r)) (ev_t rfl) (fun h25 => ?_) (fun h25 => ?_)
  · rw [bif_pos h25] at hF
    have q26 := h25
    refine TC.seq ?_
    refine TC.region ?_
    refine TL.op (yq (y_move (ev_t rfl))) rfl rfl rfl ?_
    refine TL.op (yq (y_assign (ev_t rfl))) rfl rfl rfl ?_
    refine TL.op (yq (y_assign ev_c)) rfl rfl rfl ?_
    refine TL.nil ?_
    refine TN.seq ?_
    refine TC.ret ?_
    refine TN.thenR ?_
    subst hF
    exact TN.ret2 rfl (ev_t rfl) (ev_t rfl) (fun w' hw => ⟨r1_1, rfl, hw⟩)
  · rw [bif_neg h25] at hF
    have q26 := (l1Has_f h25)
    refine TC.skip ?_
    refine TN.seq ?_
    refine TC.seq ?_
    refine TC.seq ?_
    refine TC.region ?_
    refine TL.op (yq (y_move (ev_t rfl))) rfl rfl rfl ?_
    refine TL.op (yq (y_move (ev_t rfl))) rfl rfl rfl ?_
    have hb27 : 0 < row.length := (by first | omega | (simp only [List.length_set, List.length_append, List.length_cons, List.length_nil, List.length_replicate]; omega) | (rw [sortI_length]; simp only [List.length_cons, List.length_nil]; omega))
    refine TL.op (yq (y_idx (k := 0) (ev_t rfl) ev_c (by first | omega | simp) slT_34 (ri_arg hrow) hb27)) rfl rfl rfl ?_
    refine TL.op (yq (y_ldi (ev_t rfl) one_3 (ri_arg hrow) hb27)) rfl rfl rfl ?_
    refine TL.op (yq (y_lss (ev_t rfl) (ev_t rfl))) rfl rfl rfl ?_
    refine TL.nil ?_
    refine TN.seq ?_
    refine TC.cond (b := decide (r < (row.getD 0 0))) (ev_t rfl) (fun h28 => ?_) (fun h28 => ?_)
    · rw [bif_pos h28] at hF
      have q29 := (of_decide_eq_true h28)
      refine TC.seq ?_
      refine TC.region ?_
      refine TL.op (yq (y_move (ev_t rfl))) rfl rfl rfl ?_
      refine TL.op (yq (y_move (ev_t rfl))) rfl rfl rfl ?_
      have hb30 : 0 < row.length := (by first | omega | (simp only [List.length_set, List.length_append, List.length_cons, List.length_nil, List.length_replicate]; omega) | (rw [sortI_length]; simp only [List.length_cons, List.length_nil]; omega))
      refine TL.op (yq (y_idx (k := 0) (ev_t rfl) ev_c (by first | omega | simp) slT_34 (ri_row 0 rfl) hb30)) rfl rfl rfl ?_
      refine TL.storeI 0 (ev_t rfl) (ev_t rfl) one_3 rfl hb30 ?_
      refine TL.nil ?_
      refine TN.seq ?_
      refine TC.seq ?_
      refine TC.regionQ (by kernel_rfl) (by kernel_rfl) dr_hp ?_
      refine TQ.op (yq (y_move (ev_t rfl))) rfl rfl rfl ?_
      refine TQ.op (yq (y_move (ev_t rfl))) rfl rfl rfl ?_
      have hb31 : 0 < row.length := (by first | omega | (simp only [List.length_set, List.length_append, List.length_cons, List.length_nil, List.length_replicate]; omega) | (rw [sortI_length]; simp only [List.length_cons, List.length_nil]; omega))
      refine TQ.op (yq (y_idx (k := 0) (ev_t rfl) ev_c (by first | omega | simp) slT_34 (ri_arg hrow) hb31)) rfl rfl rfl ?_
      refine TQ.op (yq (y_ldi (ev_t rfl) one_3 (ri_arg hrow) hb31)) rfl rfl rfl ?_
      refine TQ.op (yq (y_move (ev_t rfl))) rfl rfl rfl ?_
      refine TQ.op (yq (y_sub (ev_t rfl) (ev_t rfl) (by unfold In64; omega))) rfl rfl rfl ?_
      refine TQ.op (yq (y_assign (ev_t rfl))) rfl rfl rfl ?_
      refine TQ.op (yq (y_assign (ev_t rfl))) rfl rfl rfl ?_
      refine TQ.nil ?_
      refine TN.seq ?_
      refine TC.ret ?_
      refine TN.thenR ?_
      subst hF
      exact TN.ret2 rfl (ev_t rfl) (ev_t rfl) (fun w' hw => ⟨r1_1, rfl, hw⟩)
    · rw [bif_neg h28] at hF
      have q29 := (of_decide_eq_false h28)
      refine TC.skip ?_
      refine TN.seq ?_
      refine TC.seq ?_
      refine TC.seq ?_
      refine TC.region ?_
      refine TL.op (yq (y_move (ev_t rfl))) rfl rfl rfl ?_
      refine TL.op (yq (y_move (ev_t rfl))) rfl rfl rfl ?_
      refine TL.op (yq (y_move (ev_t rfl))) rfl rfl rfl ?_
      have hb32 : ((row.length : Int) - 1).toNat < row.length := (by first | omega | (simp only [List.length_set, List.length_append, List.length_cons, List.length_nil, List.length_replicate]; omega) | (rw [sortI_length]; simp only [List.length_cons, List.length_nil]; omega))
      refine TL.op (yq (y_idx (k := ((row.length : Int) - 1).toNat) (ev_t rfl) (ev_t rfl) (by first | omega | simp) slT_34 (ri_arg hrow) hb32)) rfl rfl rfl ?_
      refine TL.op (yq (y_ldi (ev_t rfl) one_3 (ri_arg hrow) hb32)) rfl rfl rfl ?_
      refine TL.op (yq (y_gtr (ev_t rfl) (ev_t rfl))) rfl rfl rfl ?_
      refine TL.nil ?_
      refine TN.seq ?_
      refine TC.cond (b := decide ((row.getD (((row.length : Int) - 1).toNat) 0) < r)) (ev_t rfl) (fun h33 => ?_) (fun h33 => ?_)
      · rw [bif_pos h33] at hF
        have q34 := (of_decide_eq_true h33)
        refine TC.seq ?_
        refine TC.region ?_
        refine TL.op (yq (y_move (ev_t rfl))) rfl rfl rfl ?_
        refine TL.op (yq (y_move (ev_t rfl))) rfl rfl rfl ?_
        refine TL.op (yq (y_move (ev_t rfl))) rfl rfl rfl ?_
        have hb35 : ((row.length : Int) - 1).toNat < row.length := (by first | omega | (simp only [List.length_set, List.length_append, List.length_cons, List.length_nil, List.length_replicate]; omega) | (rw [sortI_length]; simp only [List.length_cons, List.length_nil]; omega))
        refine TL.op (yq (y_idx (k := ((row.length : Int) - 1).toNat) (ev_t rfl) (ev_t rfl) (by first | omega | simp) slT_34 (ri_row 0 rfl) hb35)) rfl rfl rfl ?_
        refine TL.storeI 0 (ev_t rfl) (ev_t rfl) one_3 rfl hb35 ?_
        refine TL.nil ?_
        refine TN.seq ?_
        refine TC.seq ?_
        refine TC.regionQ (by kernel_rfl) (by kernel_rfl) dr_hp ?_
        refine TQ.op (yq (y_move (ev_t rfl))) rfl rfl rfl ?_
        refine TQ.op (yq (y_move (ev_t rfl))) rfl rfl rfl ?_
        refine TQ.op (yq (y_move (ev_t rfl))) rfl rfl rfl ?_
        refine TQ.op (yq (y_move (ev_t rfl))) rfl rfl rfl ?_
        have hb36 : ((row.length : Int) - 1).toNat < row.length := (by first | omega | (simp only [List.length_set, List.length_append, List.length_cons, List.length_nil, List.length_replicate]; omega) | (rw [sortI_length]; simp only [List.length_cons, List.length_nil]; omega))
        refine TQ.op (yq (y_idx (k := ((row.length : Int) - 1).toNat) (ev_t rfl) (ev_t rfl) (by first | omega | simp) slT_34 (ri_arg hrow) hb36)) rfl rfl rfl ?_
        refine TQ.op (yq (y_ldi (ev_t rfl) one_3 (ri_arg hrow) hb36)) rfl rfl rfl ?_
        refine TQ.op (yq (y_sub (ev_t rfl) (ev_t rfl) (by unfold In64; omega))) rfl rfl rfl ?_
        refine TQ.op (yq (y_assign (ev_t rfl))) rfl rfl rfl ?_
        refine TQ.op (yq (y_assign (ev_t rfl))) rfl rfl rfl ?_
        refine TQ.nil ?_
        refine TN.seq ?_
        refine TC.ret ?_
        refine TN.thenR ?_
        subst hF
        exact TN.ret2 rfl (ev_t rfl) (ev_t rfl) (fun w' hw => ⟨r1_1, rfl, hw⟩)
      · rw [bif_neg h33] at hF
        have q34 := (of_decide_eq_false h33)
        refine TC.skip ?_
        refine TN.seq ?_
        refine TC.seq ?_
        refine TC.region ?_
        refine TL.op (yq (y_assign ev_c)) rfl rfl rfl ?_
        refine TL.nil ?_
        refine TN.seq ?_
        refine TC.seq ?_
        refine TC.block ?_
        have hne := (by assumption : ∀ i, i < row.length → row.getD i 0 ≠ r) 0 (by omega)
        have hcg0 : row.length = 1 → row.getD (((row.length : Int) - 1).toNat) 0 = row.getD 0 0 := fun h => by rw [h]; rfl
        obtain ⟨c37, hc38⟩ : ∃ c, F_spec_l6Cover_L1 row r ((row.length - 0) + 1) 0 = c := ⟨_, rfl⟩
        rw [hc38] at hF
        refine TC.loop (ι := Nat × Nat) (fun (fu1, k8_1) => [(0, vrow), (1, (.int .i64 r)), (6, r1_1), (8, (.int .i64 (k8_1 : Int)))]) (fun (fu1, k8_1) => Hp w [rowI 3 r1_1 row]) (fun (fu1, k8_1) => (k8_1 + 1 < row.length) ∧ row.length - k8_1 < fu1 ∧ F_spec_l6Cover_L1 row r fu1 k8_1 = c37) (fun (fu1, k8_1) => fu1) ((row.length - 0) + 1, 0) ⟨(by first | omega | (simp [-List.getD_eq_getElem?_getD] <;> omega)), (by omega), hc38⟩ ⟨rfl, rfl, rfl, rfl, trivial⟩ (fun w hw => hw) ?_
        rintro ⟨fu1, k8_1⟩ hJ1
        obtain ⟨hi1_0, hmu1, hL1⟩ : (k8_1 + 1 < row.length) ∧ row.length - k8_1 < fu1 ∧ F_spec_l6Cover_L1 row r fu1 k8_1 = c37 := hJ1
        change TC _ _ _ _ (Hp w [rowI 3 r1_1 row]) [(0, vrow), (1, (.int .i64 r)), (6, r1_1), (8, (.int .i64 (k8_1 : Int)))]
        obtain ⟨mf1, rfl⟩ : ∃ m, fu1 = m + 1 := ⟨fu1 - 1, by omega⟩
        rw [F_spec_l6Cover_L1_s] at hL1
        have hcg : k8_1 + 1 = ((row.length : Int) - 1).toNat → row.getD (k8_1 + 1) 0 = row.getD (((row.length : Int) - 1).toNat) 0 := fun h => by rw [h]
        have hea := hp0.el k8_1
        have heb := hp0.el (k8_1 + 1)
        have hmin := l1Least_eq (r - row.getD k8_1 0) (row.getD (k8_1 + 1) 0 - r)
        refine TC.seq ?_
        refine TC.seq ?_
        refine TC.region ?_
        refine TL.op (yq (y_move (ev_t rfl))) rfl rfl rfl ?_
        refine TL.op (yq (y_move (ev_t rfl))) rfl rfl rfl ?_
        refine TL.op (yq (y_add (ev_t rfl) ev_c (by unfold In64; omega))) rfl rfl rfl ?_
        have hb39 : (k8_1 + 1) < row.length := (by first | omega | (simp only [List.length_set, List.length_append, List.length_cons, List.length_nil, List.length_replicate]; omega) | (rw [sortI_length]; simp only [List.length_cons, List.length_nil]; omega))
        refine TL.op (yq (y_idx (k := (k8_1 + 1)) (ev_t rfl) (ev_t rfl) (by first | omega | simp) slT_34 (ri_arg hrow) hb39)) rfl rfl rfl ?_
        refine TL.op (yq (y_ldi (ev_t rfl) one_3 (ri_arg hrow) hb39)) rfl rfl rfl ?_
        refine TL.op (yq (y_move (ev_t rfl))) rfl rfl rfl ?_
        refine TL.op (yq (y_lss (ev_t rfl) (ev_t rfl))) rfl rfl rfl ?_
        refine TL.nil ?_
        refine TN.seq ?_
        refine TC.cond (b := decide ((row.getD (k8_1 + 1) 0) < r)) (ev_t rfl) (fun h40 => ?_) (fun h40 => ?_)
        · rw [bif_pos h40] at hL1
          have q41 := (of_decide_eq_true h40)
          refine TC.skip ?_
          refine TN.seq ?_
          refine TC.block ?_
          refine TC.region ?_
          refine TL.op (yq (y_move (ev_t rfl))) rfl rfl rfl ?_
          refine TL.op (yq (y_add (ev_t rfl) ev_c (by unfold In64; omega))) rfl rfl rfl ?_
          refine TL.op (yq (y_assign (ev_t rfl))) rfl rfl rfl ?_
          refine TL.nil ?_
          refine TN.blockN ?_
          exact TN.hand (mf1, (k8_1 + 1)) ⟨(by first | omega | (simp [-List.getD_eq_getElem?_getD] <;> omega)), (by omega), hL1⟩ (Nat.lt_succ_self _) ⟨rfl, rfl, rfl, rfl, trivial⟩ (fun w hw => hw)
        · rw [bif_neg h40] at hL1
          have q41 := (of_decide_eq_false h40)
          refine TC.exit ?_
          refine TN.thenE ?_
          refine TN.thenE ?_
          rw [← hL1, elim_next] at hF
          try dsimp only at hF
          refine TN.blockH ?_
          refine TN.seq ?_
          refine TC.seq ?_
          refine TC.regionQ (by kernel_rfl) (by kernel_rfl) dr_hp ?_
          refine TQ.op (yq (y_move (ev_t rfl))) rfl rfl rfl ?_
          refine TQ.op (yq (y_move (ev_t rfl))) rfl rfl rfl ?_
          refine TQ.op (yq (y_move (ev_t rfl))) rfl rfl rfl ?_
          have hb42 : k8_1 < row.length := (by first | omega | (simp only [List.length_set, List.length_append, List.length_cons, List.length_nil, List.length_replicate]; omega) | (rw [sortI_length]; simp only [List.length_cons, List.length_nil]; omega))
          refine TQ.op (yq (y_idx (k := k8_1) (ev_t rfl) (ev_t rfl) (by first | omega | simp) slT_34 (ri_arg hrow) hb42)) rfl rfl rfl ?_
          refine TQ.op (yq (y_ldi (ev_t rfl) one_3 (ri_arg hrow) hb42)) rfl rfl rfl ?_
          refine TQ.op (yq (y_sub (ev_t rfl) (ev_t rfl) (by unfold In64; omega))) rfl rfl rfl ?_
          refine TQ.op (yq (y_move (ev_t rfl))) rfl rfl rfl ?_
          refine TQ.op (yq (y_move (ev_t rfl))) rfl rfl rfl ?_
          refine TQ.op (yq (y_add (ev_t rfl) ev_c (by unfold In64; omega))) rfl rfl rfl ?_
          have hb43 : (k8_1 + 1) < row.length := (by first | omega | (simp only [List.length_set, List.length_append, List.length_cons, List.length_nil, List.length_replicate]; omega) | (rw [sortI_length]; simp only [List.length_cons, List.length_nil]; omega))
          refine TQ.op (yq (y_idx (k := (k8_1 + 1)) (ev_t rfl) (ev_t rfl) (by first | omega | simp) slT_34 (ri_arg hrow) hb43)) rfl rfl rfl ?_
          refine TQ.op (yq (y_ldi (ev_t rfl) one_3 (ri_arg hrow) hb43)) rfl rfl rfl ?_
          refine TQ.op (yq (y_move (ev_t rfl))) rfl rfl rfl ?_
          refine TQ.op (yq (y_sub (ev_t rfl) (ev_t rfl) (by unfold In64; omega))) rfl rfl rfl ?_
          refine TQ.op (y_call (vs := [(.int .i64 (r - (row.getD k8_1 0))), (.int .i64 ((row.getD (k8_1 + 1) 0) - r))]) (v := (.int .i64 (F_spec_l1Least (r - (row.getD k8_1 0)) ((row.getD (k8_1 + 1) 0) - r)))) en_92 ⟨(ev_t rfl), (ev_t rfl), trivial⟩ (fun w hw => spec_l1Least_ok w (r - (row.getD k8_1 0)) ((row.getD (k8_1 + 1) 0) - r))) rfl rfl rfl ?_
          refine TQ.op (yq (y_assign (ev_t rfl))) rfl rfl rfl ?_
          refine TQ.nil ?_
          refine TN.seq ?_
          refine TC.seq ?_
          refine TC.region ?_
          refine TL.op (yq (y_move (ev_t rfl))) rfl rfl rfl ?_
          refine TL.op (yq (y_move (ev_t rfl))) rfl rfl rfl ?_
          refine TL.op (yq (y_move (ev_t rfl))) rfl rfl rfl ?_
          refine TL.op (yq (y_move (ev_t rfl))) rfl rfl rfl ?_
          have hb44 : k8_1 < row.length := (by first | omega | (simp only [List.length_set, List.length_append, List.length_cons, List.length_nil, List.length_replicate]; omega) | (rw [sortI_length]; simp only [List.length_cons, List.length_nil]; omega))
          refine TL.op (yq (y_idx (k := k8_1) (ev_t rfl) (ev_t rfl) (by first | omega | simp) slT_34 (ri_arg hrow) hb44)) rfl rfl rfl ?_
          refine TL.op (yq (y_ldi (ev_t rfl) one_3 (ri_arg hrow) hb44)) rfl rfl rfl ?_
          refine TL.op (yq (y_move (ev_t rfl))) rfl rfl rfl ?_
          refine TL.op (yq (y_add (ev_t rfl) (ev_t rfl) (by unfold In64; omega))) rfl rfl rfl ?_
          have hb45 : k8_1 < row.length := (by first | omega | (simp only [List.length_set, List.length_append, List.length_cons, List.length_nil, List.length_replicate]; omega) | (rw [sortI_length]; simp only [List.length_cons, List.length_nil]; omega))
          refine TL.op (yq (y_idx (k := k8_1) (ev_t rfl) (ev_t rfl) (by first | omega | simp) slT_34 (ri_row 0 rfl) hb45)) rfl rfl rfl ?_
          refine TL.storeI 0 (ev_t rfl) (ev_t rfl) one_3 rfl hb45 ?_
          refine TL.nil ?_
          refine TN.seq ?_
          refine TC.seq ?_
          refine TC.region ?_
          refine TL.op (yq (y_move (ev_t rfl))) rfl rfl rfl ?_
          refine TL.op (yq (y_move (ev_t rfl))) rfl rfl rfl ?_
          refine TL.op (yq (y_add (ev_t rfl) ev_c (by unfold In64; omega))) rfl rfl rfl ?_
          refine TL.op (yq (y_move (ev_t rfl))) rfl rfl rfl ?_
          refine TL.op (yq (y_move (ev_t rfl))) rfl rfl rfl ?_
          refine TL.op (yq (y_add (ev_t rfl) ev_c (by unfold In64; omega))) rfl rfl rfl ?_
          have hb46 : (k8_1 + 1) < row.length := (by first | omega | (simp only [List.length_set, List.length_append, List.length_cons, List.length_nil, List.length_replicate]; omega) | (rw [sortI_length]; simp only [List.length_cons, List.length_nil]; omega))
          refine TL.op (yq (y_idx (k := (k8_1 + 1)) (ev_t rfl) (ev_t rfl) (by first | omega | simp) slT_34 (ri_arg hrow) hb46)) rfl rfl rfl ?_
          refine TL.op (yq (y_ldi (ev_t rfl) one_3 (ri_arg hrow) hb46)) rfl rfl rfl ?_
          refine TL.op (yq (y_move (ev_t rfl))) rfl rfl rfl ?_
          refine TL.op (yq (y_sub (ev_t rfl) (ev_t rfl) (by unfold In64; omega))) rfl rfl rfl ?_
          have hb47 : (k8_1 + 1) < (row.set k8_1 ((row.getD k8_1 0) + (F_spec_l1Least (r - (row.getD k8_1 0)) ((row.getD (k8_1 + 1) 0) - r)))).length := (by first | omega | (simp only [List.length_set, List.length_append, List.length_cons, List.length_nil, List.length_replicate]; omega) | (rw [sortI_length]; simp only [List.length_cons, List.length_nil]; omega))
          refine TL.op (yq (y_idx (k := (k8_1 + 1)) (ev_t rfl) (ev_t rfl) (by first | omega | simp) slT_34 (ri_row 0 rfl) hb47)) rfl rfl rfl ?_
          refine TL.storeI 0 (ev_t rfl) (ev_t rfl) one_3 rfl hb47 ?_
          refine TL.nil ?_
          refine TN.seq ?_
          refine TC.seq ?_
          refine TC.region ?_
          refine TL.op (yq (y_move (ev_t rfl))) rfl rfl rfl ?_
          refine TL.op (yq (y_move (ev_t rfl))) rfl rfl rfl ?_
          refine TL.op (yq (y_mul ev_c (ev_t rfl) (by unfold In64; omega))) rfl rfl rfl ?_
          refine TL.op (yq (y_assign (ev_t rfl))) rfl rfl rfl ?_
          refine TL.op (yq (y_assign (ev_t rfl))) rfl rfl rfl ?_
          refine TL.nil ?_
          refine TN.seq ?_
          refine TC.ret ?_
          subst hF
          exact TN.ret2 rfl (ev_t rfl) (ev_t rfl) (fun w' hw => ⟨r1_1, rfl, hw⟩)

end Go.Proofs.Ytfhhfhiooehlcaa
