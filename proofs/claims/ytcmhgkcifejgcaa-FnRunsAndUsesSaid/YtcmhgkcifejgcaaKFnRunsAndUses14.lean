/-
  Part of a proof: rules of the walk, plain functions and their laws, walks. No condition.
-/
import Derived.Test.YtcmhgkcifejgcaaKFnRunsAndUses13
namespace Go.Proofs.Ytcmhgkcifejgcaa
set_option linter.unusedVariables false
set_option linter.unusedSimpArgs false
open Go Go.RowKit
set_option linter.unusedVariables false

set_option maxRecDepth 4000 in
set_option maxHeartbeats 1000000 in
theorem impl_RunsOf_ok (w : World) (n : Int) (vreqs : Value) (reqs : List Int) (hreqs : RI w vreqs reqs)  :
    Calls Try.prog 21 ([(.int .i64 n), vreqs] : List Value).toArray w (fun e w' => ∃ i : Value, e = .returned (.tuple #[i, (.bool ((F_impl_RunsOf n reqs).2))]) ∧ Hp w [rowP 85 i ((F_impl_RunsOf n reqs).1)] w') := by
  obtain ⟨rz, hF⟩ : ∃ rz, (F_impl_RunsOf n reqs) = rz := ⟨_, rfl⟩
  rw [hF]
  unfold F_impl_RunsOf at hF
  have hlen_reqs := arg_len hreqs
  refine calls_tc Try.func21 rfl rfl rfl ?_
  change TC _ _ _ _ (Hp w []) [(0, (.int .i64 n)), (1, vreqs)]
  refine TC.seq ?_
  refine TC.region ?_
  refine TL.op (yq (y_assign ev_c)) rfl rfl rfl ?_
  refine TL.op (yq (y_assign ev_c)) rfl rfl rfl ?_
  refine TL.nil ?_
  refine TN.seq ?_
  refine TC.seq ?_
  refine TC.seq ?_
  refine TC.region ?_
  refine TL.op (yq (y_move (ev_t rfl))) rfl rfl rfl ?_
  refine TL.op (yq (y_move (ev_t rfl))) rfl rfl rfl ?_
  refine TL.op (y_call (vs := [(.int .i64 n), vreqs]) (v := (.bool (F_impl_IsRequests n reqs))) en_71 ⟨(ev_t rfl), (ev_t rfl), trivial⟩ (fun w hw => impl_IsRequests_ok w n vreqs reqs ((ri_arg hreqs) w hw))) rfl rfl rfl ?_
  refine TL.op (yq (y_not (ev_t rfl))) rfl rfl rfl ?_
  refine TL.nil ?_
  refine TN.seq ?_
  refine TC.cond (b := !(F_impl_IsRequests n reqs)) (ev_t rfl) (fun h21 => ?_) (fun h21 => ?_)
  · rw [bif_pos h21] at hF
    have q22 := (not_t h21)
    refine TC.seq ?_
    refine TC.region ?_
    refine TL.op (yq (y_assign ev_c)) rfl rfl rfl ?_
    refine TL.op (yq (y_assign ev_c)) rfl rfl rfl ?_
    refine TL.nil ?_
    refine TN.seq ?_
    refine TC.ret ?_
    refine TN.thenR ?_
    subst hF
    refine TN.cls (fun w hw => hw.nil 85 2) ?_
    exact TN.ret2 rfl (ev_t rfl) (ev_t rfl) (fun w' hw => ⟨(.slice none 0 0), rfl, hw⟩)
  · rw [bif_neg h21] at hF
    have q22 := (isRequests_t (not_f h21))
    have hrq := q22
    refine TC.skip ?_
    refine TN.seq ?_
    refine TC.seq ?_
    refine TC.region ?_
    refine TL.buildP (zs := []) (ps := ([] : List (Int × Int))) slT_37 rfl trivial rfl (by decide) rfl (fun v3_0 => ?_)
    refine TL.op (yq (y_assign (ev_t rfl))) rfl rfl rfl ?_
    refine TL.nil ?_
    refine TN.seq ?_
    refine TC.seq ?_
    refine TC.seq ?_
    refine TC.region ?_
    refine TL.op (yq (y_move (ev_t rfl))) rfl rfl rfl ?_
    refine TL.op (yq (y_len (ev_t rfl) Try.underlying34 (fun w hw => ((ri_arg hreqs) w hw).ln))) rfl rfl rfl ?_
    refine TL.op (yq (y_move ev_c)) rfl rfl rfl ?_
    refine TL.nil ?_
    refine TN.seq ?_
    refine TC.block ?_
    obtain ⟨c24, hc25⟩ : ∃ c, F_impl_RunsOf_L1 reqs ((reqs.length - 0) + 1) (([] : List (Int × Int)), 0) = c := ⟨_, rfl⟩
    rw [hc25] at hF
    refine TC.loop (ι := Nat × List (Int × Int) × Nat × Value) (fun (fu1, out1, k16_1, vout1) => [(1, vreqs), (6, vout1), (14, vreqs), (15, (.int .i64 (reqs.length : Int))), (16, (.int .i64 (k16_1 : Int)))]) (fun (fu1, out1, k16_1, vout1) => Hp w [rowP 85 vout1 out1]) (fun (fu1, out1, k16_1, vout1) => (k16_1 ≤ reqs.length) ∧ (1 ≤ k16_1 → 1 ≤ out1.length) ∧ (out1.length ≤ k16_1) ∧ (∀ i : Nat, 0 ≤ (out1.getD i (0, 0)).2 ∧ (out1.getD i (0, 0)).2 ≤ k16_1) ∧ reqs.length - k16_1 < fu1 ∧ F_impl_RunsOf_L1 reqs fu1 (out1, k16_1) = c24) (fun (fu1, out1, k16_1, vout1) => fu1) ((reqs.length - 0) + 1, ([] : List (Int × Int)), 0, v3_0) ⟨(by first | omega | (simp [-List.getD_eq_getElem?_getD] <;> omega)), (by first | omega | (simp [-List.getD_eq_getElem?_getD] <;> omega)), (by first | omega | (simp [-List.getD_eq_getElem?_getD] <;> omega)), (fun i => by simp), (by omega), hc25⟩ ⟨rfl, rfl, rfl, rfl, rfl, trivial⟩ (fun w hw => hw) ?_
    rintro ⟨fu1, out1, k16_1, vout1⟩ hJ1
    obtain ⟨hi1_0, hi1_1, hi1_2, hi1_3, hmu1, hL1⟩ : (k16_1 ≤ reqs.length) ∧ (1 ≤ k16_1 → 1 ≤ out1.length) ∧ (out1.length ≤ k16_1) ∧ (∀ i : Nat, 0 ≤ (out1.getD i (0, 0)).2 ∧ (out1.getD i (0, 0)).2 ≤ k16_1) ∧ reqs.length - k16_1 < fu1 ∧ F_impl_RunsOf_L1 reqs fu1 (out1, k16_1) = c24 := hJ1
    change TC _ _ _ _ (Hp w [rowP 85 vout1 out1]) [(1, vreqs), (6, vout1), (14, vreqs), (15, (.int .i64 (reqs.length : Int))), (16, (.int .i64 (k16_1 : Int)))]
    obtain ⟨mf1, rfl⟩ : ∃ m, fu1 = m + 1 := ⟨fu1 - 1, by omega⟩
    rw [F_impl_RunsOf_L1_s] at hL1
    refine TC.seq ?_
    refine TC.region ?_
    refine TL.op (yq (y_lss (ev_t rfl) (ev_t rfl))) rfl rfl rfl ?_
    refine TL.nil ?_
    refine TN.seq ?_
    refine TC.seq ?_
    refine TC.cond (b := decide ((k16_1 : Int) < (reqs.length : Int))) (ev_t rfl) (fun h26 => ?_) (fun h26 => ?_)
    · rw [bif_pos h26] at hL1
      have q27 := (of_decide_eq_true h26)
      refine TC.skip ?_
      refine TN.seq ?_
      refine TC.seq ?_
      refine TC.block ?_
      refine TC.seq ?_
      refine TC.region ?_
      refine TL.op (yq (y_move (ev_t rfl))) rfl rfl rfl ?_
      have hb28 : k16_1 < reqs.length := (by first | omega | (simp only [List.length_set, List.length_append, List.length_cons, List.length_nil, List.length_replicate]; omega) | (rw [sortI_length]; simp only [List.length_cons, List.length_nil]; omega))
      refine TL.op (yq (y_idx (k := k16_1) (ev_t rfl) (ev_t rfl) (by first | omega | simp) slT_34 (ri_arg hreqs) hb28)) rfl rfl rfl ?_
      refine TL.op (yq (y_ldi (ev_t rfl) one_3 (ri_arg hreqs) hb28)) rfl rfl rfl ?_
      refine TL.op (yq (y_assign (ev_t rfl))) rfl rfl rfl ?_
      refine TL.op (yq (y_assign (ev_t rfl))) rfl rfl rfl ?_
      refine TL.nil ?_
      refine TN.seq ?_
      refine TC.seq ?_
      refine TC.seq ?_
      refine TC.region ?_
      refine TL.op (yq (y_move (ev_t rfl))) rfl rfl rfl ?_
      refine TL.op (yq (y_eql (ev_t rfl) ev_c)) rfl rfl rfl ?_
      refine TL.op (yq (y_move (ev_t rfl))) rfl rfl rfl ?_
      refine TL.opw (w_f rfl rfl rfl) (fun hg => yq (y_move (ev_t rfl))) rfl rfl ?_
      refine TL.opw (w_f rfl rfl rfl) (fun hg => yq (y_move (ev_t rfl))) rfl rfl ?_
      refine TL.opw (w_f rfl rfl rfl) (fun hg => yq (y_sub (ev_g rfl hg) ev_c (by unfold In64; constructor <;> omega))) rfl rfl ?_
      refine TL.opw (w_f rfl rfl rfl) (fun hg => yq (y_idx (k := ((k16_1 : Int) - 1).toNat) (ev_g rfl hg) (ev_g rfl hg) (by have hgf := (of_decide_eq_false (not_t hg)); first | omega | simp) slT_34 (ri_arg hreqs) (show ((k16_1 : Int) - 1).toNat < reqs.length by have hgf := (of_decide_eq_false (not_t hg)); omega))) rfl rfl ?_
      refine TL.opw (w_f rfl rfl rfl) (fun hg => yq (y_ldi (ev_g rfl hg) one_3 (ri_arg hreqs) (show ((k16_1 : Int) - 1).toNat < reqs.length by have hgf := (of_decide_eq_false (not_t hg)); omega))) rfl rfl ?_
      refine TL.opw (w_f rfl rfl rfl) (fun hg => yq (y_move (ev_t rfl))) rfl rfl ?_
      refine TL.opw (w_f rfl rfl rfl) (fun hg => yq (y_neq (ev_g rfl hg) (ev_g rfl hg))) rfl rfl ?_
      refine TL.op (yq (y_or (ev_t rfl) (fun hq => (ev_g rfl hq)))) rfl rfl rfl ?_
      refine TL.nil ?_
      refine TN.seq ?_
      refine TC.cond (b := ((decide ((k16_1 : Int) = 0)) || (!decide ((reqs.getD (((k16_1 : Int) - 1).toNat) 0) = (reqs.getD k16_1 0))))) (ev_t rfl) (fun h29 => ?_) (fun h29 => ?_)
      · rw [bif_pos h29] at hL1
        have q30 := ((or_t h29).imp (fun h => (of_decide_eq_true h)) (fun h => (of_decide_eq_false (not_t h))))
        have hl2 : (out1 ++ [(reqs.getD k16_1 0, (0 : Int))]).length = out1.length + 1 := by simp
        have he2 := bp_app hi1_3 (a := reqs.getD k16_1 0) (b := 0) (by omega) ((((out1 ++ [(reqs.getD k16_1 0, 0)]).length : Nat) : Int) - 1).toNat
        refine TC.region ?_
        refine TL.op (yq (y_move (ev_t rfl))) rfl rfl rfl ?_
        refine TL.op (yq (y_move (ev_t rfl))) rfl rfl rfl ?_
        refine TL.op (yq (y_bldA (ev_t rfl) ev_c bd_85_a)) rfl rfl rfl ?_
        refine TL.buildP (zs := [.tmp 34]) (ps := [((reqs.getD k16_1 0), 0)]) slT_37 rfl ⟨(ev_t rfl), trivial⟩ rfl (by decide) rfl (fun v8_3 => ?_)
        refine TL.appendP 1 (ev_t rfl) (ev_t rfl) rfl slT_37 (rp_row 0 rfl) (by first | omega | (simp [-List.getD_eq_getElem?_getD] <;> omega)) rfl (fun v8_4 => ?_)
        refine TL.op (yq (y_assign (ev_t rfl))) rfl rfl rfl ?_
        refine TL.nil ?_
        refine TN.seq ?_
        refine TC.regionT 10 (by kernel_rfl) (by kernel_rfl) dr_hp ?_
        refine TQ.op (yq (y_move (ev_t rfl))) rfl rfl rfl ?_
        refine TQ.op (yq (y_move (ev_t rfl))) rfl rfl rfl ?_
        refine TQ.op (yq (y_len (ev_t rfl) Try.underlying37 (fun w hw => ((rp_row 1 rfl) w hw).ln))) rfl rfl rfl ?_
        refine TQ.op (yq (y_sub (ev_t rfl) ev_c (by unfold In64; constructor <;> omega))) rfl rfl rfl ?_
        have hb31 : (((out1 ++ ([((reqs.getD k16_1 0), 0)])).length : Int) - 1).toNat < (out1 ++ ([((reqs.getD k16_1 0), 0)])).length := (by first | (simp only [List.length_set, List.length_append, List.length_cons, List.length_nil, List.length_replicate]; omega) | omega | (rw [sortI_length]; simp only [List.length_cons, List.length_nil]; omega))
        refine TQ.op (yq (y_idx (k := (((out1 ++ ([((reqs.getD k16_1 0), 0)])).length : Int) - 1).toNat) (ev_t rfl) (ev_t rfl) (by first | omega | simp) slT_37 (rp_row 1 rfl) hb31)) rfl rfl rfl ?_
        refine TQ.op (yq (y_ixa (c := 1) (ev_t rfl) ev_c rfl arT_85 (rp_row 1 rfl) hb31 (by decide))) rfl rfl rfl ?_
        refine TQ.op (yq (y_ldp2 (ev_t rfl) one_3 (rp_row 1 rfl) hb31)) rfl rfl rfl ?_
        refine TQ.op (yq (y_add (ev_t rfl) ev_c (by unfold In64; constructor <;> omega))) rfl rfl rfl ?_
        have hb32 : (((out1 ++ ([((reqs.getD k16_1 0), 0)])).length : Int) - 1).toNat < (out1 ++ ([((reqs.getD k16_1 0), 0)])).length := (by first | (simp only [List.length_set, List.length_append, List.length_cons, List.length_nil, List.length_replicate]; omega) | omega | (rw [sortI_length]; simp only [List.length_cons, List.length_nil]; omega))
        refine TQ.op (yq (y_idx (k := (((out1 ++ ([((reqs.getD k16_1 0), 0)])).length : Int) - 1).toNat) (ev_t rfl) (ev_t rfl) (by first | omega | simp) slT_37 (rp_row 1 rfl) hb32)) rfl rfl rfl ?_
        refine TQ.op (yq (y_ixa (c := 1) (ev_t rfl) ev_c rfl arT_85 (rp_row 1 rfl) hb32 (by decide))) rfl rfl rfl ?_
        refine TQ.tail ?_
        refine TL.storeP2 1 (ev_t rfl) (ev_t rfl) one_3 rfl hb32 ?_
        refine TL.nil ?_
        refine TN.blockN ?_
        refine TN.seq ?_
        refine TC.region ?_
        refine TL.op (yq (y_add (ev_t rfl) ev_c (by unfold In64; constructor <;> omega))) rfl rfl rfl ?_
        refine TL.op (yq (y_move (ev_t rfl))) rfl rfl rfl ?_
        refine TL.nil ?_
        exact TN.hand (mf1, ((out1 ++ ([((reqs.getD k16_1 0), 0)])).set ((((out1 ++ ([((reqs.getD k16_1 0), 0)])).length : Int) - 1).toNat) (((out1 ++ ([((reqs.getD k16_1 0), 0)])).getD ((((out1 ++ ([((reqs.getD k16_1 0), 0)])).length : Int) - 1).toNat) (0, 0)).1, (((out1 ++ ([((reqs.getD k16_1 0), 0)])).getD ((((out1 ++ ([((reqs.getD k16_1 0), 0)])).length : Int) - 1).toNat) (0, 0)).2) + 1)), (k16_1 + 1), v8_4) ⟨(by first | omega | (simp [-List.getD_eq_getElem?_getD] <;> omega)), (by first | omega | (simp [-List.getD_eq_getElem?_getD] <;> omega)), (by first | omega | (simp [-List.getD_eq_getElem?_getD] <;> omega)), (by first | exact bp_set1 (bp_app hi1_3 (by omega)) (by omega) | exact bp_set1 hi1_3 (by omega)), (by omega), hL1⟩ (Nat.lt_succ_self _) ⟨rfl, rfl, rfl, rfl, rfl, trivial⟩ (fun w hw => Hp.sublist hw (.cons _ (.cons_cons _ .slnil)))
      · rw [bif_neg h29] at hL1
        have q30 := (and_imp (or_f h29) (fun h => (of_decide_eq_false h)) (fun h => (of_decide_eq_true (not_f h))))
        have he2 := hi1_3 (((out1.length : Nat) : Int) - 1).toNat
        refine TC.skip ?_
        refine TN.seq ?_
        refine TC.regionT 10 (by kernel_rfl) (by kernel_rfl) dr_hp ?_
        refine TQ.op (yq (y_move (ev_t rfl))) rfl rfl rfl ?_
        refine TQ.op (yq (y_move (ev_t rfl))) rfl rfl rfl ?_
        refine TQ.op (yq (y_len (ev_t rfl) Try.underlying37 (fun w hw => ((rp_row 0 rfl) w hw).ln))) rfl rfl rfl ?_
        refine TQ.op (yq (y_sub (ev_t rfl) ev_c (by unfold In64; constructor <;> omega))) rfl rfl rfl ?_
        have hb33 : ((out1.length : Int) - 1).toNat < out1.length := (by first | omega | (simp only [List.length_set, List.length_append, List.length_cons, List.length_nil, List.length_replicate]; omega) | (rw [sortI_length]; simp only [List.length_cons, List.length_nil]; omega))
        refine TQ.op (yq (y_idx (k := ((out1.length : Int) - 1).toNat) (ev_t rfl) (ev_t rfl) (by first | omega | simp) slT_37 (rp_row 0 rfl) hb33)) rfl rfl rfl ?_
        refine TQ.op (yq (y_ixa (c := 1) (ev_t rfl) ev_c rfl arT_85 (rp_row 0 rfl) hb33 (by decide))) rfl rfl rfl ?_
        refine TQ.op (yq (y_ldp2 (ev_t rfl) one_3 (rp_row 0 rfl) hb33)) rfl rfl rfl ?_
        refine TQ.op (yq (y_add (ev_t rfl) ev_c (by unfold In64; constructor <;> omega))) rfl rfl rfl ?_
        have hb34 : ((out1.length : Int) - 1).toNat < out1.length := (by first | omega | (simp only [List.length_set, List.length_append, List.length_cons, List.length_nil, List.length_replicate]; omega) | (rw [sortI_length]; simp only [List.length_cons, List.length_nil]; omega))
        refine TQ.op (yq (y_idx (k := ((out1.length : Int) - 1).toNat) (ev_t rfl) (ev_t rfl) (by first | omega | simp) slT_37 (rp_row 0 rfl) hb34)) rfl rfl rfl ?_
        refine TQ.op (yq (y_ixa (c := 1) (ev_t rfl) ev_c rfl arT_85 (rp_row 0 rfl) hb34 (by decide))) rfl rfl rfl ?_
        refine TQ.tail ?_
        refine TL.storeP2 0 (ev_t rfl) (ev_t rfl) one_3 rfl hb34 ?_
        refine TL.nil ?_
        refine TN.blockN ?_
        refine TN.seq ?_
        refine TC.region ?_
        refine TL.op (yq (y_add (ev_t rfl) ev_c (by unfold In64; constructor <;> omega))) rfl rfl rfl ?_
        refine TL.op (yq (y_move (ev_t rfl))) rfl rfl rfl ?_
        refine TL.nil ?_
        exact TN.hand (mf1, (out1.set (((out1.length : Int) - 1).toNat) ((out1.getD (((out1.length : Int) - 1).toNat) (0, 0)).1, ((out1.getD (((out1.length : Int) - 1).toNat) (0, 0)).2) + 1)), (k16_1 + 1), vout1) ⟨(by first | omega | (simp [-List.getD_eq_getElem?_getD] <;> omega)), (by first | omega | (simp [-List.getD_eq_getElem?_getD] <;> omega)), (by first | omega | (simp [-List.getD_eq_getElem?_getD] <;> omega)), (by first | exact bp_set1 (bp_app hi1_3 (by omega)) (by omega) | exact bp_set1 hi1_3 (by omega)), (by omega), hL1⟩ (Nat.lt_succ_self _) ⟨rfl, rfl, rfl, rfl, rfl, trivial⟩ (fun w hw => hw)
    · rw [bif_neg h26] at hL1
      have q27 := (of_decide_eq_false h26)
      refine TC.exit ?_
      refine TN.thenE ?_
      refine TN.thenE ?_
      rw [← hL1, elim_next] at hF
      try dsimp only at hF
      refine TN.blockH ?_
      refine TN.seq ?_
      refine TC.seq ?_
      refine TC.region ?_
      refine TL.op (yq (y_move (ev_t rfl))) rfl rfl rfl ?_
      refine TL.op (yq (y_assign (ev_t rfl))) rfl rfl rfl ?_
      refine TL.op (yq (y_assign ev_c)) rfl rfl rfl ?_
      refine TL.nil ?_
      refine TN.seq ?_
      refine TC.ret ?_
      subst hF
      exact TN.ret2 rfl (ev_t rfl) (ev_t rfl) (fun w' hw => ⟨vout1, rfl, hw⟩)

set_option maxRecDepth 4000 in
set_option maxHeartbeats 1000000 in
theorem spec_RunsOf_ok (w : World) (n : Int) (vreqs : Value) (reqs : List Int) (hreqs : RI w vreqs reqs)  :
    Calls Try.prog 22 ([(.int .i64 n), vreqs] : List Value).toArray w (fun e w' => ∃ i : Value, e = .returned (.tuple #[i, (.bool ((F_spec_RunsOf n reqs).2))]) ∧ Hp w [rowP 85 i ((F_spec_RunsOf n reqs).1)] w') := by
  obtain ⟨rz, hF⟩ : ∃ rz, (F_spec_RunsOf n reqs) = rz := ⟨_, rfl⟩
  rw [hF]
  unfold F_spec_RunsOf at hF
  have hlen_reqs := arg_len hreqs
  refine calls_tc Try.func22 rfl rfl rfl ?_
  change TC _ _ _ _ (Hp w []) [(0, (.int .i64 n)), (1, vreqs)]
  refine TC.seq ?_
  refine TC.region ?_
  refine TL.op (yq (y_assign ev_c)) rfl rfl rfl ?_
  refine TL.op (yq (y_assign ev_c)) rfl rfl rfl ?_
  refine TL.nil ?_
  refine TN.seq ?_
  refine TC.seq ?_
  refine TC.region ?_
  refine TL.buildP (zs := []) (ps := ([] : List (Int × Int))) slT_37 rfl trivial rfl (by decide) rfl (fun v1_0 => ?_)
  refine TL.op (yq (y_assign (ev_t rfl))) rfl rfl rfl ?_
  refine TL.nil ?_
  refine TN.seq ?_
  refine TC.seq ?_
  refine TC.seq ?_
  refine TC.region ?_
  refine TL.op (yq (y_move (ev_t rfl))) rfl rfl rfl ?_
  refine TL.op (yq (y_move (ev_t rfl))) rfl rfl rfl ?_
  refine TL.op (y_call (vs := [(.int .i64 n), vreqs]) (v := (.bool (F_spec_l3Good n reqs))) en_72 ⟨(ev_t rfl), (ev_t rfl), trivial⟩ (fun w hw => spec_l3Good_ok w n vreqs reqs ((ri_arg hreqs) w hw))) rfl rfl rfl ?_
  refine TL.op (yq (y_not (ev_t rfl))) rfl rfl rfl ?_
  refine TL.nil ?_
  refine TN.seq ?_
  refine TC.cond (b := !(F_spec_l3Good n reqs)) (ev_t rfl) (fun h17 => ?_) (fun h17 => ?_)
  · rw [bif_pos h17] at hF
    have q18 := (not_t h17)
    refine TC.seq ?_
    refine TC.region ?_
    refine TL.op (yq (y_move (ev_t rfl))) rfl rfl rfl ?_
    refine TL.op (yq (y_assign (ev_t rfl))) rfl rfl rfl ?_
    refine TL.op (yq (y_assign ev_c)) rfl rfl rfl ?_
    refine TL.nil ?_
    refine TN.seq ?_
    refine TC.ret ?_
    refine TN.thenR ?_
    subst hF
    exact TN.ret2 rfl (ev_t rfl) (ev_t rfl) (fun w' hw => ⟨v1_0, rfl, hw⟩)
  · rw [bif_neg h17] at hF
    have q18 := (l3Good_t (not_f h17))
    have hrq := q18
    refine TC.skip ?_
    refine TN.seq ?_
    refine TC.seq ?_
    refine TC.seq ?_
    refine TC.region ?_
    refine TL.op (yq (y_assign ev_c)) rfl rfl rfl ?_
    refine TL.nil ?_
    refine TN.seq ?_
    refine TC.block ?_
    obtain ⟨c19, hc20⟩ : ∃ c, F_spec_RunsOf_L1 reqs ((reqs.length - 0) + 1) (([] : List (Int × Int)), 0) = c := ⟨_, rfl⟩
    rw [hc20] at hF
    refine TC.loop (ι := Nat × List (Int × Int) × Nat × Value) (fun (fu1, out1, i1, vout1) => [(1, vreqs), (6, vout1), (7, (.int .i64 (i1 : Int)))]) (fun (fu1, out1, i1, vout1) => Hp w [rowP 85 vout1 out1]) (fun (fu1, out1, i1, vout1) => (i1 ≤ reqs.length) ∧ (1 ≤ i1 → 1 ≤ out1.length) ∧ (out1.length ≤ i1) ∧ (∀ i : Nat, 0 ≤ (out1.getD i (0, 0)).2 ∧ (out1.getD i (0, 0)).2 ≤ i1) ∧ reqs.length - i1 < fu1 ∧ F_spec_RunsOf_L1 reqs fu1 (out1, i1) = c19) (fun (fu1, out1, i1, vout1) => fu1) ((reqs.length - 0) + 1, ([] : List (Int × Int)), 0, v1_0) ⟨(by first | omega | (simp [-List.getD_eq_getElem?_getD] <;> omega)), (by first | omega | (simp [-List.getD_eq_getElem?_getD] <;> omega)), (by first | omega | (simp [-List.getD_eq_getElem?_getD] <;> omega)), (fun i => by simp), (by omega), hc20⟩ ⟨rfl, rfl, rfl, trivial⟩ (fun w hw => hw) ?_
    rintro ⟨fu1, out1, i1, vout1⟩ hJ1
    obtain ⟨hi1_0, hi1_1, hi1_2, hi1_3, hmu1, hL1⟩ : (i1 ≤ reqs.length) ∧ (1 ≤ i1 → 1 ≤ out1.length) ∧ (out1.length ≤ i1) ∧ (∀ i : Nat, 0 ≤ (out1.getD i (0, 0)).2 ∧ (out1.getD i (0, 0)).2 ≤ i1) ∧ reqs.length - i1 < fu1 ∧ F_spec_RunsOf_L1 reqs fu1 (out1, i1) = c19 := hJ1
    change TC _ _ _ _ (Hp w [rowP 85 vout1 out1]) [(1, vreqs), (6, vout1), (7, (.int .i64 (i1 : Int)))]
    obtain ⟨mf1, rfl⟩ : ∃ m, fu1 = m + 1 := ⟨fu1 - 1, by omega⟩
    rw [F_spec_RunsOf_L1_s] at hL1
    refine TC.seq ?_
    refine TC.seq ?_
    refine TC.region ?_
    refine TL.op (yq (y_move (ev_t rfl))) rfl rfl rfl ?_
    refine TL.op (yq (y_move (ev_t rfl))) rfl rfl rfl ?_
    refine TL.op (yq (y_len (ev_t rfl) Try.underlying34 (fun w hw => ((ri_arg hreqs) w hw).ln))) rfl rfl rfl ?_
    refine TL.op (yq (y_lss (ev_t rfl) (ev_t rfl))) rfl rfl rfl ?_
    refine TL.nil ?_
    refine TN.seq ?_
    refine TC.cond (b := decide ((i1 : Int) < (reqs.length : Int))) (ev_t rfl) (fun h21 => ?_) (fun h21 => ?_)
    · rw [bif_pos h21] at hL1
      have q22 := (of_decide_eq_true h21)
      refine TC.skip ?_
      refine TN.seq ?_
      refine TC.seq ?_
      refine TC.block ?_
      refine TC.seq ?_
      refine TC.regionQ (by kernel_rfl) (by kernel_rfl) dr_hp ?_
      refine TQ.op (yq (y_move (ev_t rfl))) rfl rfl rfl ?_
      refine TQ.op (yq (y_gtr (ev_t rfl) ev_c)) rfl rfl rfl ?_
      refine TQ.op (yq (y_move (ev_t rfl))) rfl rfl rfl ?_
      refine TQ.opw (w_t rfl rfl rfl) (fun hg => yq (y_move (ev_t rfl))) rfl rfl ?_
      refine TQ.opw (w_t rfl rfl rfl) (fun hg => yq (y_move (ev_t rfl))) rfl rfl ?_
      refine TQ.opw (w_t rfl rfl rfl) (fun hg => yq (y_idx (k := i1) (ev_g rfl hg) (ev_g rfl hg) (by have hgf := (of_decide_eq_true hg); first | omega | simp) slT_34 (ri_arg hreqs) (show i1 < reqs.length by have hgf := (of_decide_eq_true hg); omega))) rfl rfl ?_
      refine TQ.opw (w_t rfl rfl rfl) (fun hg => yq (y_ldi (ev_g rfl hg) one_3 (ri_arg hreqs) (show i1 < reqs.length by have hgf := (of_decide_eq_true hg); omega))) rfl rfl ?_
      refine TQ.opw (w_t rfl rfl rfl) (fun hg => yq (y_move (ev_t rfl))) rfl rfl ?_
      refine TQ.opw (w_t rfl rfl rfl) (fun hg => yq (y_move (ev_t rfl))) rfl rfl ?_
      refine TQ.opw (w_t rfl rfl rfl) (fun hg => yq (y_sub (ev_g rfl hg) ev_c (by unfold In64; constructor <;> omega))) rfl rfl ?_
      refine TQ.opw (w_t rfl rfl rfl) (fun hg => yq (y_idx (k := ((i1 : Int) - 1).toNat) (ev_g rfl hg) (ev_g rfl hg) (by have hgf := (of_decide_eq_true hg); first | omega | simp) slT_34 (ri_arg hreqs) (show ((i1 : Int) - 1).toNat < reqs.length by have hgf := (of_decide_eq_true hg); omega))) rfl rfl ?_
      refine TQ.opw (w_t rfl rfl rfl) (fun hg => yq (y_ldi (ev_g rfl hg) one_3 (ri_arg hreqs) (show ((i1 : Int) - 1).toNat < reqs.length by have hgf := (of_decide_eq_true hg); omega))) rfl rfl ?_
      refine TQ.opw (w_t rfl rfl rfl) (fun hg => yq (y_eql (ev_g rfl hg) (ev_g rfl hg))) rfl rfl ?_
      refine TQ.op (yq (y_and (ev_t rfl) (fun hq => (ev_g rfl hq)))) rfl rfl rfl ?_
      refine TQ.nil ?_
      refine TN.seq ?_
      refine TC.cond (b := ((decide (0 < (i1 : Int))) && (decide ((reqs.getD i1 0) = (reqs.getD (((i1 : Int) - 1).toNat) 0))))) (ev_t rfl) (fun h23 => ?_) (fun h23 => ?_)
      · rw [bif_pos h23] at hL1
        have q24 := (and_imp (and_t h23) (fun h => (of_decide_eq_true h)) (fun h => (of_decide_eq_true h)))
        have he2 := hi1_3 (((out1.length : Nat) : Int) - 1).toNat
        refine TC.seq ?_
        refine TC.region ?_
        refine TL.op (yq (y_move (ev_t rfl))) rfl rfl rfl ?_
        refine TL.op (yq (y_move (ev_t rfl))) rfl rfl rfl ?_
        refine TL.op (yq (y_len (ev_t rfl) Try.underlying37 (fun w hw => ((rp_row 0 rfl) w hw).ln))) rfl rfl rfl ?_
        refine TL.op (yq (y_sub (ev_t rfl) ev_c (by unfold In64; constructor <;> omega))) rfl rfl rfl ?_
        have hb25 : ((out1.length : Int) - 1).toNat < out1.length := (by first | omega | (simp only [List.length_set, List.length_append, List.length_cons, List.length_nil, List.length_replicate]; omega) | (rw [sortI_length]; simp only [List.length_cons, List.length_nil]; omega))
        refine TL.op (yq (y_idx (k := ((out1.length : Int) - 1).toNat) (ev_t rfl) (ev_t rfl) (by first | omega | simp) slT_37 (rp_row 0 rfl) hb25)) rfl rfl rfl ?_
        refine TL.op (yq (y_ldpr (ev_t rfl) arT_85 (rp_row 0 rfl) hb25)) rfl rfl rfl ?_
        refine TL.alloc (u := (.agg #[(.int .i64 0), (.int .i64 0)])) (by kernel_rfl) rfl (fun g8_6 => ?_)
        refine TL.storeAgg (cs := [(.int .i64 0), (.int .i64 0)]) (us := [(.int .i64 ((out1.getD (((out1.length : Int) - 1).toNat) (0, 0)).1)), (.int .i64 ((out1.getD (((out1.length : Int) - 1).toNat) (0, 0)).2))]) 0 (ev_t rfl) (ev_t rfl) agg_85 rfl rfl (fun w hw => (ocs_cons rfl (ocs_cons rfl ocs_nil))) ?_
        refine TL.nil ?_
        refine TN.seq ?_
        refine TC.region ?_
        refine TL.op (yq (y_move (ev_t rfl))) rfl rfl rfl ?_
        refine TL.op (yq (y_move (ev_t rfl))) rfl rfl rfl ?_
        refine TL.op (yq (y_len (ev_t rfl) Try.underlying37 (fun w hw => ((rp_row 1 rfl) w hw).ln))) rfl rfl rfl ?_
        refine TL.op (yq (y_sub (ev_t rfl) ev_c (by unfold In64; constructor <;> omega))) rfl rfl rfl ?_
        refine TL.op (yq (y_ixb (c := 0) (ev_t rfl) ev_c rfl arT_85 (by decide))) rfl rfl rfl ?_
        refine TL.op (yq (y_ldb 0 (ev_t rfl) one_3 rfl rfl)) rfl rfl rfl ?_
        refine TL.op (yq (y_ixb (c := 1) (ev_t rfl) ev_c rfl arT_85 (by decide))) rfl rfl rfl ?_
        refine TL.op (yq (y_ldb 0 (ev_t rfl) one_3 rfl rfl)) rfl rfl rfl ?_
        refine TL.op (yq (y_add (ev_t rfl) ev_c (by unfold In64; constructor <;> omega))) rfl rfl rfl ?_
        refine TL.op (yq (y_bldA (ev_t rfl) (ev_t rfl) bd_85_a)) rfl rfl rfl ?_
        have hb26 : ((out1.length : Int) - 1).toNat < out1.length := (by first | omega | (simp only [List.length_set, List.length_append, List.length_cons, List.length_nil, List.length_replicate]; omega) | (rw [sortI_length]; simp only [List.length_cons, List.length_nil]; omega))
        refine TL.op (yq (y_idx (k := ((out1.length : Int) - 1).toNat) (ev_t rfl) (ev_t rfl) (by first | omega | simp) slT_37 (rp_row 1 rfl) hb26)) rfl rfl rfl ?_
        refine TL.storePr 1 (u := ((out1.getD (((out1.length : Int) - 1).toNat) (0, 0)).1, ((out1.getD (((out1.length : Int) - 1).toNat) (0, 0)).2) + 1)) (ev_t rfl) (ev_t rfl) arT_85 rfl hb26 ?_
        refine TL.nil ?_
        refine TN.blockN ?_
        refine TN.seq ?_
        refine TC.region ?_
        refine TL.op (yq (y_move (ev_t rfl))) rfl rfl rfl ?_
        refine TL.op (yq (y_add (ev_t rfl) ev_c (by unfold In64; constructor <;> omega))) rfl rfl rfl ?_
        refine TL.op (yq (y_assign (ev_t rfl))) rfl rfl rfl ?_
        refine TL.nil ?_
        exact TN.hand (mf1, (out1.set (((out1.length : Int) - 1).toNat) ((out1.getD (((out1.length : Int) - 1).toNat) (0, 0)).1, ((out1.getD (((out1.length : Int) - 1).toNat) (0, 0)).2) + 1)), (i1 + 1), vout1) ⟨(by first | omega | (simp [-List.getD_eq_getElem?_getD] <;> omega)), (by first | omega | (simp [-List.getD_eq_getElem?_getD] <;> omega)), (by first | omega | (simp [-List.getD_eq_getElem?_getD] <;> omega)), (by first | exact bp_set1 hi1_3 (by omega) | exact bp_app1 hi1_3 (by omega)), (by omega), hL1⟩ (Nat.lt_succ_self _) ⟨rfl, rfl, rfl, trivial⟩ (fun w hw => Hp.sublist hw (.cons _ (.cons_cons _ .slnil)))
      · rw [bif_neg h23] at hL1
        have q24 := ((and_f h23).imp (fun h => (of_decide_eq_false h)) (fun h => (of_decide_eq_false h)))
        refine TC.region ?_
        refine TL.op (yq (y_move (ev_t rfl))) rfl rfl rfl ?_
        refine TL.op (yq (y_move (ev_t rfl))) rfl rfl rfl ?_
        refine TL.op (yq (y_move (ev_t rfl))) rfl rfl rfl ?_
        have hb27 : i1 < reqs.length := (by first | omega | (simp only [List.length_set, List.length_append, List.length_cons, List.length_nil, List.length_replicate]; omega) | (rw [sortI_length]; simp only [List.length_cons, List.length_nil]; omega))
        refine TL.op (yq (y_idx (k := i1) (ev_t rfl) (ev_t rfl) (by first | omega | simp) slT_34 (ri_arg hreqs) hb27)) rfl rfl rfl ?_
        refine TL.op (yq (y_ldi (ev_t rfl) one_3 (ri_arg hreqs) hb27)) rfl rfl rfl ?_
        refine TL.op (yq (y_bldA (ev_t rfl) ev_c bd_85_a)) rfl rfl rfl ?_
        refine TL.buildP (zs := [.tmp 57]) (ps := [((reqs.getD i1 0), 1)]) slT_37 rfl ⟨(ev_t rfl), trivial⟩ rfl (by decide) rfl (fun v10_6 => ?_)
        refine TL.appendP 1 (ev_t rfl) (ev_t rfl) rfl slT_37 (rp_row 0 rfl) (by first | omega | (simp [-List.getD_eq_getElem?_getD] <;> omega)) rfl (fun v10_7 => ?_)
        refine TL.op (yq (y_assign (ev_t rfl))) rfl rfl rfl ?_
        refine TL.nil ?_
        refine TN.blockN ?_
        refine TN.seq ?_
        refine TC.region ?_
        refine TL.op (yq (y_move (ev_t rfl))) rfl rfl rfl ?_
        refine TL.op (yq (y_add (ev_t rfl) ev_c (by unfold In64; constructor <;> omega))) rfl rfl rfl ?_
        refine TL.op (yq (y_assign (ev_t rfl))) rfl rfl rfl ?_
        refine TL.nil ?_
        exact TN.hand (mf1, (out1 ++ ([((reqs.getD i1 0), 1)])), (i1 + 1), v10_7) ⟨(by first | omega | (simp [-List.getD_eq_getElem?_getD] <;> omega)), (by first | omega | (simp [-List.getD_eq_getElem?_getD] <;> omega)), (by first | omega | (simp [-List.getD_eq_getElem?_getD] <;> omega)), (by first | exact bp_set1 hi1_3 (by omega) | exact bp_app1 hi1_3 (by omega)), (by omega), hL1⟩ (Nat.lt_succ_self _) ⟨rfl, rfl, rfl, trivial⟩ (fun w hw => Hp.sublist hw (.cons _ (.cons_cons _ .slnil)))
    · rw [bif_neg h21] at hL1
      have q22 := (of_decide_eq_false h21)
      refine TC.exit ?_
      refine TN.thenE ?_
      refine TN.thenE ?_
      rw [← hL1, elim_next] at hF
      try dsimp only at hF
      refine TN.blockH ?_
      refine TN.seq ?_
      refine TC.seq ?_
      refine TC.region ?_
      refine TL.op (yq (y_move (ev_t rfl))) rfl rfl rfl ?_
      refine TL.op (yq (y_assign (ev_t rfl))) rfl rfl rfl ?_
      refine TL.op (yq (y_assign ev_c)) rfl rfl rfl ?_
      refine TL.nil ?_
      refine TN.seq ?_
      refine TC.ret ?_
      subst hF
      exact TN.ret2 rfl (ev_t rfl) (ev_t rfl) (fun w' hw => ⟨vout1, rfl, hw⟩)

set_option maxRecDepth 4000 in
set_option maxHeartbeats 1000000 in
theorem impl_FromRuns_ok (w : World) (n : Int) (vruns : Value) (runs : List (Int × Int)) (hruns : RP w vruns runs)  :
    Calls Try.prog 25 ([(.int .i64 n), vruns] : List Value).toArray w (fun e w' => ∃ i : Value, e = .returned (.tuple #[i, (.bool ((F_impl_FromRuns n runs).2))]) ∧ Hp w [rowI 3 i ((F_impl_FromRuns n runs).1)] w') := by
  obtain ⟨rz, hF⟩ : ∃ rz, (F_impl_FromRuns n runs) = rz := ⟨_, rfl⟩
  rw [hF]
  unfold F_impl_FromRuns at hF
  have hlen_runs := argP_len hruns
  refine calls_tc Try.func25 rfl rfl rfl ?_
  change TC _ _ _ _ (Hp w []) [(0, (.int .i64 n)), (1, vruns)]
  refine TC.seq ?_
  refine TC.region ?_
  refine TL.op (yq (y_assign ev_c)) rfl rfl rfl ?_
  refine TL.op (yq (y_assign ev_c)) rfl rfl rfl ?_
  refine TL.nil ?_
  refine TN.seq ?_
  refine TC.seq ?_
  refine TC.seq ?_
  refine TC.region ?_
  refine TL.op (yq (y_move (ev_t rfl))) rfl rfl rfl ?_
  refine TL.op (y_call (vs := [(.int .i64 n)]) (v := (.bool ((decide (1 ≤ n)) && (decide (n ≤ 8))))) en_77 ⟨(ev_t rfl), trivial⟩ (fun w hw => impl_isItems_ok w n)) rfl rfl rfl ?_
  refine TL.op (yq (y_not (ev_t rfl))) rfl rfl rfl ?_
  refine TL.op (yq (y_move (ev_t rfl))) rfl rfl rfl ?_
  refine TL.opw (w_f rfl rfl rfl) (fun hg => yq (y_move (ev_t rfl))) rfl rfl ?_
  refine TL.opw (w_f rfl rfl rfl) (fun hg => yq (y_len (ev_g rfl hg) Try.underlying37 (fun w hw => ((rp_arg hruns) w hw).ln))) rfl rfl ?_
  refine TL.opw (w_f rfl rfl rfl) (fun hg => yq (y_gtr (ev_g rfl hg) ev_c)) rfl rfl ?_
  refine TL.op (yq (y_or (ev_t rfl) (fun hq => (ev_g rfl hq)))) rfl rfl rfl ?_
  refine TL.nil ?_
  refine TN.seq ?_
  refine TC.cond (b := ((!((decide (1 ≤ n)) && (decide (n ≤ 8)))) || (decide (60 < (runs.length : Int))))) (ev_t rfl) (fun h13 => ?_) (fun h13 => ?_)
  · rw [bif_pos h13] at hF
    have q14 := ((or_t h13).imp (fun h => ((and_f (not_t h)).imp (fun h => (of_decide_eq_false h)) (fun h => (of_decide_eq_false h)))) (fun h => (of_decide_eq_true h)))
    refine TC.seq ?_
    refine TC.region ?_
    refine TL.op (yq (y_assign ev_c)) rfl rfl rfl ?_
    refine TL.op (yq (y_assign ev_c)) rfl rfl rfl ?_
    refine TL.nil ?_
    refine TN.seq ?_
    refine TC.ret ?_
    refine TN.thenR ?_
    subst hF
    refine TN.cls (fun w hw => hw.nil 3 1) ?_
    exact TN.ret2 rfl (ev_t rfl) (ev_t rfl) (fun w' hw => ⟨(.slice none 0 0), rfl, hw⟩)
  · rw [bif_neg h13] at hF
    have q14 := (and_imp (or_f h13) (fun h => (and_imp (and_t (not_f h)) (fun h => (of_decide_eq_true h)) (fun h => (of_decide_eq_true h)))) (fun h => (of_decide_eq_false h)))
    refine TC.skip ?_
    refine TN.seq ?_
    refine TC.seq ?_
    refine TC.region ?_
    refine TL.buildI (zs := []) (qs := []) slT_34 rfl trivial rfl (by decide) rfl (fun v3_0 => ?_)
    refine TL.op (yq (y_assign (ev_t rfl))) rfl rfl rfl ?_
    refine TL.nil ?_
    refine TN.seq ?_
    refine TC.seq ?_
    refine TC.seq ?_
    refine TC.region ?_
    refine TL.op (yq (y_move (ev_t rfl))) rfl rfl rfl ?_
    refine TL.op (yq (y_len (ev_t rfl) Try.underlying37 (fun w hw => ((rp_arg hruns) w hw).ln))) rfl rfl rfl ?_
    refine TL.op (yq (y_move ev_c)) rfl rfl rfl ?_
    refine TL.nil ?_
    refine TN.seq ?_
    refine TC.block ?_
    obtain ⟨c16, hc17⟩ : ∃ c, F_impl_FromRuns_L1 n runs ((runs.length - 0) + 1) (([] : List Int), 0) = c := ⟨_, rfl⟩
    rw [hc17] at hF
    refine TC.loop (ι := Nat × List Int × Nat × Value) (fun (fu1, out1, k20_1, vout1) => [(0, (.int .i64 n)), (6, vout1), (18, vruns), (19, (.int .i64 (runs.length : Int))), (20, (.int .i64 (k20_1 : Int)))]) (fun (fu1, out1, k20_1, vout1) => Hp w [rowI 3 vout1 out1]) (fun (fu1, out1, k20_1, vout1) => (k20_1 ≤ runs.length) ∧ (out1.length ≤ 60) ∧ runs.length - k20_1 < fu1 ∧ F_impl_FromRuns_L1 n runs fu1 (out1, k20_1) = c16) (fun (fu1, out1, k20_1, vout1) => fu1) ((runs.length - 0) + 1, ([] : List Int), 0, v3_0) ⟨(by first | omega | (simp [-List.getD_eq_getElem?_getD] <;> omega)), (by first | omega | (simp [-List.getD_eq_getElem?_getD] <;> omega)), (by omega), hc17⟩ ⟨rfl, rfl, rfl, rfl, rfl, trivial⟩ (fun w hw => hw) ?_
    rintro ⟨fu1, out1, k20_1, vout1⟩ hJ1
    obtain ⟨hi1_0, hi1_1, hmu1, hL1⟩ : (k20_1 ≤ runs.length) ∧ (out1.length ≤ 60) ∧ runs.length - k20_1 < fu1 ∧ F_impl_FromRuns_L1 n runs fu1 (out1, k20_1) = c16 := hJ1
    change TC _ _ _ _ (Hp w [rowI 3 vout1 out1]) [(0, (.int .i64 n)), (6, vout1), (18, vruns), (19, (.int .i64 (runs.length : Int))), (20, (.int .i64 (k20_1 : Int)))]
    obtain ⟨mf1, rfl⟩ : ∃ m, fu1 = m + 1 := ⟨fu1 - 1, by omega⟩
    rw [F_impl_FromRuns_L1_s] at hL1
    refine TC.seq ?_
    refine TC.region ?_
    refine TL.op (yq (y_lss (ev_t rfl) (ev_t rfl))) rfl rfl rfl ?_
    refine TL.nil ?_
    refine TN.seq ?_
    refine TC.seq ?_
    refine TC.cond (b := decide ((k20_1 : Int) < (runs.length : Int))) (ev_t rfl) (fun h18 => ?_) (fun h18 => ?_)
    · rw [bif_pos h18] at hL1
      have q19 := (of_decide_eq_true h18)
      refine TC.skip ?_
      refine TN.seq ?_
      refine TC.seq ?_
      refine TC.block ?_
      refine TC.seq ?_
      refine TC.region ?_
      have hb20 : k20_1 < runs.length := (by first | omega | (simp only [List.length_set, List.length_append, List.length_cons, List.length_nil, List.length_replicate]; omega) | (rw [sortI_length]; simp only [List.length_cons, List.length_nil]; omega))
      refine TL.op (yq (y_idx (k := k20_1) (ev_t rfl) (ev_t rfl) (by first | omega | simp) slT_37 (rp_arg hruns) hb20)) rfl rfl rfl ?_
      refine TL.op (yq (y_ldpr (ev_t rfl) arT_85 (rp_arg hruns) hb20)) rfl rfl rfl ?_
      refine TL.alloc (u := (.agg #[(.int .i64 0), (.int .i64 0)])) (by kernel_rfl) rfl (fun g6_2 => ?_)
      refine TL.storeAgg (cs := [(.int .i64 0), (.int .i64 0)]) (us := [(.int .i64 ((runs.getD k20_1 (0, 0)).1)), (.int .i64 ((runs.getD k20_1 (0, 0)).2))]) 0 (ev_t rfl) (ev_t rfl) agg_85 rfl rfl (fun w hw => (ocs_cons rfl (ocs_cons rfl ocs_nil))) ?_
      refine TL.nil ?_
      refine TN.seq ?_
      refine TC.seq ?_
      refine TC.seq ?_
      refine TC.region ?_
      refine TL.op (yq (y_ixb (c := 0) (ev_t rfl) ev_c rfl arT_85 (by decide))) rfl rfl rfl ?_
      refine TL.op (yq (y_ldb 0 (ev_t rfl) one_3 rfl rfl)) rfl rfl rfl ?_
      refine TL.op (yq (y_move (ev_t rfl))) rfl rfl rfl ?_
      refine TL.op (yq (y_sub (ev_t rfl) ev_c (by unfold In64; constructor <;> omega))) rfl rfl rfl ?_
      refine TL.op (y_call (vs := [(.int .i64 ((runs.getD k20_1 (0, 0)).1)), (.int .i64 0), (.int .i64 (n - 1))]) (v := (.bool ((decide (0 ≤ ((runs.getD k20_1 (0, 0)).1))) && (decide (((runs.getD k20_1 (0, 0)).1) ≤ (n - 1)))))) en_78 ⟨(ev_t rfl), ev_c, (ev_t rfl), trivial⟩ (fun w hw => impl_within_ok w ((runs.getD k20_1 (0, 0)).1) 0 (n - 1))) rfl rfl rfl ?_
      refine TL.op (yq (y_not (ev_t rfl))) rfl rfl rfl ?_
      refine TL.op (yq (y_move (ev_t rfl))) rfl rfl rfl ?_
      refine TL.opw (w_f rfl rfl rfl) (fun hg => yq (y_ixb (c := 1) (ev_t rfl) ev_c rfl arT_85 (by decide))) rfl rfl ?_
      refine TL.opw (w_f rfl rfl rfl) (fun hg => yq (y_ldb 0 (ev_g rfl hg) one_3 rfl rfl)) rfl rfl ?_
      refine TL.opw (w_f rfl rfl rfl) (fun hg => yq (y_move (ev_t rfl))) rfl rfl ?_
      refine TL.opw (w_f rfl rfl rfl) (fun hg => yq (y_len (ev_g rfl hg) Try.underlying34 (fun w hw => ((ri_row 1 rfl) w hw).ln))) rfl rfl ?_
      refine TL.opw (w_f rfl rfl rfl) (fun hg => yq (y_sub ev_c (ev_g rfl hg) (by unfold In64; constructor <;> omega))) rfl rfl ?_
      refine TL.opw (w_f rfl rfl rfl) (fun hg => y_call (vs := [(.int .i64 ((runs.getD k20_1 (0, 0)).2)), (.int .i64 1), (.int .i64 (60 - (out1.length : Int)))]) (v := (.bool ((decide (1 ≤ ((runs.getD k20_1 (0, 0)).2))) && (decide (((runs.getD k20_1 (0, 0)).2) ≤ (60 - (out1.length : Int))))))) en_78 ⟨(ev_g rfl hg), ev_c, (ev_g rfl hg), trivial⟩ (fun w hw => impl_within_ok w ((runs.getD k20_1 (0, 0)).2) 1 (60 - (out1.length : Int)))) rfl rfl ?_
      refine TL.opw (w_f rfl rfl rfl) (fun hg => yq (y_not (ev_g rfl hg))) rfl rfl ?_
      refine TL.op (yq (y_or (ev_t rfl) (fun hq => (ev_g rfl hq)))) rfl rfl rfl ?_
      refine TL.nil ?_
      refine TN.seq ?_
      refine TC.cond (b := ((!((decide (0 ≤ ((runs.getD k20_1 (0, 0)).1))) && (decide (((runs.getD k20_1 (0, 0)).1) ≤ (n - 1))))) || (!((decide (1 ≤ ((runs.getD k20_1 (0, 0)).2))) && (decide (((runs.getD k20_1 (0, 0)).2) ≤ (60 - (out1.length : Int)))))))) (ev_t rfl) (fun h21 => ?_) (fun h21 => ?_)
      · rw [bif_pos h21] at hL1
        have q22 := ((or_t h21).imp (fun h => ((and_f (not_t h)).imp (fun h => (of_decide_eq_false h)) (fun h => (of_decide_eq_false h)))) (fun h => ((and_f (not_t h)).imp (fun h => (of_decide_eq_false h)) (fun h => (of_decide_eq_false h)))))
        refine TC.seq ?_
        refine TC.region ?_
        refine TL.op (yq (y_assign ev_c)) rfl rfl rfl ?_
        refine TL.op (yq (y_assign ev_c)) rfl rfl rfl ?_
        refine TL.nil ?_
        refine TN.seq ?_
        refine TC.ret ?_
        refine TN.thenR ?_
        refine TN.blockR ?_
        refine TN.thenR ?_
        refine TN.thenR ?_
        rw [← hL1, elim_ret] at hF
        refine TN.blockR ?_
        refine TN.thenR ?_
        subst hF
        refine TN.cls (fun w hw => hw.nil 3 1) ?_
        exact TN.ret2 rfl (ev_t rfl) (ev_t rfl) (fun w' hw => ⟨(.slice none 0 0), rfl, Hp.sublist hw (.cons_cons _ (.cons _ (.cons _ .slnil)))⟩)
      · rw [bif_neg h21] at hL1
        have q22 := (and_imp (or_f h21) (fun h => (and_imp (and_t (not_f h)) (fun h => (of_decide_eq_true h)) (fun h => (of_decide_eq_true h)))) (fun h => (and_imp (and_t (not_f h)) (fun h => (of_decide_eq_true h)) (fun h => (of_decide_eq_true h)))))
        have hrp := repeat_len (runs.getD k20_1 (0, 0)).1 (runs.getD k20_1 (0, 0)).2 (by omega) (by omega)
        refine TC.skip ?_
        refine TN.seq ?_
        refine TC.region ?_
        refine TL.op (yq (y_move (ev_t rfl))) rfl rfl rfl ?_
        refine TL.op (yq (y_ixb (c := 0) (ev_t rfl) ev_c rfl arT_85 (by decide))) rfl rfl rfl ?_
        refine TL.op (yq (y_ldb 0 (ev_t rfl) one_3 rfl rfl)) rfl rfl rfl ?_
        refine TL.buildI (zs := [.tmp 41]) (qs := [(runs.getD k20_1 (0, 0)).1]) slT_34 rfl ⟨(ev_t rfl), trivial⟩ rfl (by decide) rfl (fun v9_3 => ?_)
        refine TL.op (yq (y_ixb (c := 1) (ev_t rfl) ev_c rfl arT_85 (by decide))) rfl rfl rfl ?_
        refine TL.op (yq (y_ldb 1 (ev_t rfl) one_3 rfl rfl)) rfl rfl rfl ?_
        refine TL.callr (ι := Value) (vs := [v9_3, (.int .i64 ((runs.getD k20_1 (0, 0)).2))]) (fun i => i) (fun i => [rowI 3 i (F_slices_Repeat_Sint_int ([(runs.getD k20_1 (0, 0)).1]) ((runs.getD k20_1 (0, 0)).2))]) en_79 ⟨(ev_t rfl), (ev_t rfl), trivial⟩ rfl (fun w hw => slices_Repeat_Sint_int_ok w v9_3 ([(runs.getD k20_1 (0, 0)).1]) ((ri_row 0 rfl) w hw) ((runs.getD k20_1 (0, 0)).2) (by first | omega | rfl) (by first | omega | rfl) (by first | omega | rfl)) (fun r9_6 => ?_)
        refine TL.appendI 3 (ev_t rfl) (ev_t rfl) rfl slT_34 (ri_row 0 rfl) (by first | omega | (simp [-List.getD_eq_getElem?_getD] <;> omega)) rfl (fun v9_7 => ?_)
        refine TL.op (yq (y_assign (ev_t rfl))) rfl rfl rfl ?_
        refine TL.nil ?_
        refine TN.blockN ?_
        refine TN.seq ?_
        refine TC.region ?_
        refine TL.op (yq (y_add (ev_t rfl) ev_c (by unfold In64; constructor <;> omega))) rfl rfl rfl ?_
        refine TL.op (yq (y_move (ev_t rfl))) rfl rfl rfl ?_
        refine TL.nil ?_
        exact TN.hand (mf1, (out1 ++ (F_slices_Repeat_Sint_int ([(runs.getD k20_1 (0, 0)).1]) ((runs.getD k20_1 (0, 0)).2))), (k20_1 + 1), v9_7) ⟨(by first | omega | (simp [-List.getD_eq_getElem?_getD] <;> omega)), (by first | omega | (simp [-List.getD_eq_getElem?_getD] <;> omega)), (by omega), hL1⟩ (Nat.lt_succ_self _) ⟨rfl, rfl, rfl, rfl, rfl, trivial⟩ (fun w hw => Hp.sublist hw (.cons _ (.cons _ (.cons _ (.cons_cons _ .slnil)))))
    · rw [bif_neg h18] at hL1
      have q19 := (of_decide_eq_false h18)
      refine TC.exit ?_
      refine TN.thenE ?_
      refine TN.thenE ?_
      rw [← hL1, elim_next] at hF
      try dsimp only at hF
      refine TN.blockH ?_
      refine TN.seq ?_
      refine TC.seq ?_
      refine TC.region ?_
      refine TL.op (yq (y_move (ev_t rfl))) rfl rfl rfl ?_
      refine TL.op (yq (y_assign (ev_t rfl))) rfl rfl rfl ?_
      refine TL.op (yq (y_assign ev_c)) rfl rfl rfl ?_
      refine TL.nil ?_
      refine TN.seq ?_
      refine TC.ret ?_
      subst hF
      exact TN.ret2 rfl (ev_t rfl) (ev_t rfl) (fun w' hw => ⟨vout1, rfl, hw⟩)

set_option maxRecDepth 4000 in
set_option maxHeartbeats 1000000 in
theorem spec_FromRuns_ok (w : World) (n : Int) (vruns : Value) (runs : List (Int × Int)) (hruns : RP w vruns runs)  :
    Calls Try.prog 26 ([(.int .i64 n), vruns] : List Value).toArray w (fun e w' => ∃ i : Value, e = .returned (.tuple #[i, (.bool ((F_spec_FromRuns n runs).2))]) ∧ Hp w [rowI 3 i ((F_spec_FromRuns n runs).1)] w') := by
  obtain ⟨rz, hF⟩ : ∃ rz, (F_spec_FromRuns n runs) = rz := ⟨_, rfl⟩
  rw [hF]
  unfold F_spec_FromRuns at hF
  have hlen_runs := argP_len hruns
  refine calls_tc Try.func26 rfl rfl rfl ?_
  change TC _ _ _ _ (Hp w []) [(0, (.int .i64 n)), (1, vruns)]
  refine TC.seq ?_
  refine TC.region ?_
  refine TL.op (yq (y_assign ev_c)) rfl rfl rfl ?_
  refine TL.op (yq (y_assign ev_c)) rfl rfl rfl ?_
  refine TL.nil ?_
  refine TN.seq ?_
  refine TC.seq ?_
  refine TC.region ?_
  refine TL.buildI (zs := []) (qs := []) slT_34 rfl trivial rfl (by decide) rfl (fun v1_0 => ?_)
  refine TL.op (yq (y_assign (ev_t rfl))) rfl rfl rfl ?_
  refine TL.nil ?_
  refine TN.seq ?_
  refine TC.seq ?_
  refine TC.seq ?_
  refine TC.region ?_
  refine TL.op (yq (y_move (ev_t rfl))) rfl rfl rfl ?_
  refine TL.op (y_call (vs := [(.int .i64 n)]) (v := (.bool ((decide (1 ≤ n)) && (decide (n ≤ 8))))) en_80 ⟨(ev_t rfl), trivial⟩ (fun w hw => spec_l3Items_ok w n)) rfl rfl rfl ?_
  refine TL.op (yq (y_not (ev_t rfl))) rfl rfl rfl ?_
  refine TL.op (yq (y_move (ev_t rfl))) rfl rfl rfl ?_
  refine TL.opw (w_f rfl rfl rfl) (fun hg => yq (y_move (ev_t rfl))) rfl rfl ?_
  refine TL.opw (w_f rfl rfl rfl) (fun hg => yq (y_len (ev_g rfl hg) Try.underlying37 (fun w hw => ((rp_arg hruns) w hw).ln))) rfl rfl ?_
  refine TL.opw (w_f rfl rfl rfl) (fun hg => yq (y_gtr (ev_g rfl hg) ev_c)) rfl rfl ?_
  refine TL.op (yq (y_or (ev_t rfl) (fun hq => (ev_g rfl hq)))) rfl rfl rfl ?_
  refine TL.nil ?_
  refine TN.seq ?_
  refine TC.cond (b := ((!((decide (1 ≤ n)) && (decide (n ≤ 8)))) || (decide (60 < (runs.length : Int))))) (ev_t rfl) (fun h25 => ?_) (fun h25 => ?_)
  · rw [bif_pos h25] at hF
    have q26 := ((or_t h25).imp (fun h => ((and_f (not_t h)).imp (fun h => (of_decide_eq_false h)) (fun h => (of_decide_eq_false h)))) (fun h => (of_decide_eq_true h)))
    refine TC.seq ?_
    refine TC.region ?_
    refine TL.op (yq (y_move (ev_t rfl))) rfl rfl rfl ?_
    refine TL.op (yq (y_assign (ev_t rfl))) rfl rfl rfl ?_
    refine TL.op (yq (y_assign ev_c)) rfl rfl rfl ?_
    refine TL.nil ?_
    refine TN.seq ?_
    refine TC.ret ?_
    refine TN.thenR ?_
    subst hF
    exact TN.ret2 rfl (ev_t rfl) (ev_t rfl) (fun w' hw => ⟨v1_0, rfl, hw⟩)
  · rw [bif_neg h25] at hF
    have q26 := (and_imp (or_f h25) (fun h => (and_imp (and_t (not_f h)) (fun h => (of_decide_eq_true h)) (fun h => (of_decide_eq_true h)))) (fun h => (of_decide_eq_false h)))
    refine TC.skip ?_
    refine TN.seq ?_
    refine TC.seq ?_
    refine TC.seq ?_
    refine TC.region ?_
    refine TL.op (yq (y_assign ev_c)) rfl rfl rfl ?_
    refine TL.nil ?_
    refine TN.seq ?_
    refine TC.block ?_
    obtain ⟨c27, hc28⟩ : ∃ c, F_spec_FromRuns_L1 n runs ((runs.length - 0) + 1) (([] : List Int), 0) = c := ⟨_, rfl⟩
    rw [hc28] at hF
    refine TC.loop (ι := Nat × List Int × Nat × Value) (fun (fu1, k6_1, k7_1, vk6_1) => [(0, (.int .i64 n)), (1, vruns), (6, vk6_1), (7, (.int .i64 (k7_1 : Int)))]) (fun (fu1, k6_1, k7_1, vk6_1) => Hp w [rowI 3 vk6_1 k6_1]) (fun (fu1, k6_1, k7_1, vk6_1) => (k7_1 ≤ runs.length) ∧ (k6_1.length ≤ 60) ∧ runs.length - k7_1 < fu1 ∧ F_spec_FromRuns_L1 n runs fu1 (k6_1, k7_1) = c27) (fun (fu1, k6_1, k7_1, vk6_1) => fu1) ((runs.length - 0) + 1, ([] : List Int), 0, v1_0) ⟨(by first | omega | (simp [-List.getD_eq_getElem?_getD] <;> omega)), (by first | omega | (simp [-List.getD_eq_getElem?_getD] <;> omega)), (by omega), hc28⟩ ⟨rfl, rfl, rfl, rfl, trivial⟩ (fun w hw => hw) ?_
    rintro ⟨fu1, k6_1, k7_1, vk6_1⟩ hJ1
    obtain ⟨hi1_0, hi1_1, hmu1, hL1⟩ : (k7_1 ≤ runs.length) ∧ (k6_1.length ≤ 60) ∧ runs.length - k7_1 < fu1 ∧ F_spec_FromRuns_L1 n runs fu1 (k6_1, k7_1) = c27 := hJ1
    change TC _ _ _ _ (Hp w [rowI 3 vk6_1 k6_1]) [(0, (.int .i64 n)), (1, vruns), (6, vk6_1), (7, (.int .i64 (k7_1 : Int)))]
    obtain ⟨mf1, rfl⟩ : ∃ m, fu1 = m + 1 := ⟨fu1 - 1, by omega⟩
    rw [F_spec_FromRuns_L1_s] at hL1
    refine TC.seq ?_
    refine TC.seq ?_
    refine TC.region ?_
    refine TL.op (yq (y_move (ev_t rfl))) rfl rfl rfl ?_
    refine TL.op (yq (y_move (ev_t rfl))) rfl rfl rfl ?_
    refine TL.op (yq (y_len (ev_t rfl) Try.underlying37 (fun w hw => ((rp_arg hruns) w hw).ln))) rfl rfl rfl ?_
    refine TL.op (yq (y_lss (ev_t rfl) (ev_t rfl))) rfl rfl rfl ?_
    refine TL.nil ?_
    refine TN.seq ?_
    refine TC.cond (b := decide ((k7_1 : Int) < (runs.length : Int))) (ev_t rfl) (fun h29 => ?_) (fun h29 => ?_)
    · rw [bif_pos h29] at hL1
      have q30 := (of_decide_eq_true h29)
      refine TC.skip ?_
      refine TN.seq ?_
      refine TC.seq ?_
      refine TC.block ?_
      refine TC.seq ?_
      refine TC.seq ?_
      refine TC.region ?_
      refine TL.op (yq (y_move (ev_t rfl))) rfl rfl rfl ?_
      refine TL.op (yq (y_move (ev_t rfl))) rfl rfl rfl ?_
      have hb31 : k7_1 < runs.length := (by first | omega | (simp only [List.length_set, List.length_append, List.length_cons, List.length_nil, List.length_replicate]; omega) | (rw [sortI_length]; simp only [List.length_cons, List.length_nil]; omega))
      refine TL.op (yq (y_idx (k := k7_1) (ev_t rfl) (ev_t rfl) (by first | omega | simp) slT_37 (rp_arg hruns) hb31)) rfl rfl rfl ?_
      refine TL.op (yq (y_ixa (c := 0) (ev_t rfl) ev_c rfl arT_85 (rp_arg hruns) hb31 (by decide))) rfl rfl rfl ?_
      refine TL.op (yq (y_ldp1 (ev_t rfl) one_3 (rp_arg hruns) hb31)) rfl rfl rfl ?_
      refine TL.op (yq (y_move (ev_t rfl))) rfl rfl rfl ?_
      refine TL.op (yq (y_sub (ev_t rfl) ev_c (by unfold In64; constructor <;> omega))) rfl rfl rfl ?_
      refine TL.op (y_call (vs := [(.int .i64 ((runs.getD k7_1 (0, 0)).1)), (.int .i64 0), (.int .i64 (n - 1))]) (v := (.bool ((decide (0 ≤ ((runs.getD k7_1 (0, 0)).1))) && (decide (((runs.getD k7_1 (0, 0)).1) ≤ (n - 1)))))) en_81 ⟨(ev_t rfl), ev_c, (ev_t rfl), trivial⟩ (fun w hw => spec_l1In_ok w ((runs.getD k7_1 (0, 0)).1) 0 (n - 1))) rfl rfl rfl ?_
      refine TL.op (yq (y_not (ev_t rfl))) rfl rfl rfl ?_
      refine TL.op (yq (y_move (ev_t rfl))) rfl rfl rfl ?_
      refine TL.opw (w_f rfl rfl rfl) (fun hg => yq (y_move (ev_t rfl))) rfl rfl ?_
      refine TL.opw (w_f rfl rfl rfl) (fun hg => yq (y_move (ev_t rfl))) rfl rfl ?_
      refine TL.opw (w_f rfl rfl rfl) (fun hg => yq (y_idx (k := k7_1) (ev_g rfl hg) (ev_g rfl hg) (by have hgf := (and_imp (and_t (not_f (not_t hg))) (fun h => (of_decide_eq_true h)) (fun h => (of_decide_eq_true h))); first | omega | simp) slT_37 (rp_arg hruns) (show k7_1 < runs.length by have hgf := (and_imp (and_t (not_f (not_t hg))) (fun h => (of_decide_eq_true h)) (fun h => (of_decide_eq_true h))); omega))) rfl rfl ?_
      refine TL.opw (w_f rfl rfl rfl) (fun hg => yq (y_ixa (c := 1) (ev_g rfl hg) ev_c rfl arT_85 (rp_arg hruns) (show k7_1 < runs.length by have hgf := (and_imp (and_t (not_f (not_t hg))) (fun h => (of_decide_eq_true h)) (fun h => (of_decide_eq_true h))); omega) (by decide))) rfl rfl ?_
      refine TL.opw (w_f rfl rfl rfl) (fun hg => yq (y_ldp2 (ev_g rfl hg) one_3 (rp_arg hruns) (show k7_1 < runs.length by have hgf := (and_imp (and_t (not_f (not_t hg))) (fun h => (of_decide_eq_true h)) (fun h => (of_decide_eq_true h))); omega))) rfl rfl ?_
      refine TL.opw (w_f rfl rfl rfl) (fun hg => yq (y_move (ev_t rfl))) rfl rfl ?_
      refine TL.opw (w_f rfl rfl rfl) (fun hg => yq (y_len (ev_g rfl hg) Try.underlying34 (fun w hw => ((ri_row 0 rfl) w hw).ln))) rfl rfl ?_
      refine TL.opw (w_f rfl rfl rfl) (fun hg => yq (y_sub ev_c (ev_g rfl hg) (by unfold In64; constructor <;> omega))) rfl rfl ?_
      refine TL.opw (w_f rfl rfl rfl) (fun hg => y_call (vs := [(.int .i64 ((runs.getD k7_1 (0, 0)).2)), (.int .i64 1), (.int .i64 (60 - (k6_1.length : Int)))]) (v := (.bool ((decide (1 ≤ ((runs.getD k7_1 (0, 0)).2))) && (decide (((runs.getD k7_1 (0, 0)).2) ≤ (60 - (k6_1.length : Int))))))) en_81 ⟨(ev_g rfl hg), ev_c, (ev_g rfl hg), trivial⟩ (fun w hw => spec_l1In_ok w ((runs.getD k7_1 (0, 0)).2) 1 (60 - (k6_1.length : Int)))) rfl rfl ?_
      refine TL.opw (w_f rfl rfl rfl) (fun hg => yq (y_not (ev_g rfl hg))) rfl rfl ?_
      refine TL.op (yq (y_or (ev_t rfl) (fun hq => (ev_g rfl hq)))) rfl rfl rfl ?_
      refine TL.nil ?_
      refine TN.seq ?_
      refine TC.cond (b := ((!((decide (0 ≤ ((runs.getD k7_1 (0, 0)).1))) && (decide (((runs.getD k7_1 (0, 0)).1) ≤ (n - 1))))) || (!((decide (1 ≤ ((runs.getD k7_1 (0, 0)).2))) && (decide (((runs.getD k7_1 (0, 0)).2) ≤ (60 - (k6_1.length : Int)))))))) (ev_t rfl) (fun h32 => ?_) (fun h32 => ?_)
      · rw [bif_pos h32] at hL1
        have q33 := ((or_t h32).imp (fun h => ((and_f (not_t h)).imp (fun h => (of_decide_eq_false h)) (fun h => (of_decide_eq_false h)))) (fun h => ((and_f (not_t h)).imp (fun h => (of_decide_eq_false h)) (fun h => (of_decide_eq_false h)))))
        refine TC.seq ?_
        refine TC.region ?_
        refine TL.buildI (zs := []) (qs := []) slT_34 rfl trivial rfl (by decide) rfl (fun v8_0 => ?_)
        refine TL.op (yq (y_assign (ev_t rfl))) rfl rfl rfl ?_
        refine TL.op (yq (y_assign ev_c)) rfl rfl rfl ?_
        refine TL.nil ?_
        refine TN.seq ?_
        refine TC.ret ?_
        refine TN.thenR ?_
        refine TN.blockR ?_
        refine TN.thenR ?_
        refine TN.thenR ?_
        rw [← hL1, elim_ret] at hF
        refine TN.blockR ?_
        refine TN.thenR ?_
        subst hF
        exact TN.ret2 rfl (ev_t rfl) (ev_t rfl) (fun w' hw => ⟨v8_0, rfl, Hp.sublist hw (.cons_cons _ (.cons _ .slnil))⟩)
      · rw [bif_neg h32] at hL1
        have q33 := (and_imp (or_f h32) (fun h => (and_imp (and_t (not_f h)) (fun h => (of_decide_eq_true h)) (fun h => (of_decide_eq_true h)))) (fun h => (and_imp (and_t (not_f h)) (fun h => (of_decide_eq_true h)) (fun h => (of_decide_eq_true h)))))
        refine TC.skip ?_
        refine TN.seq ?_
        refine TC.seq ?_
        refine TC.region ?_
        refine TL.op (yq (y_assign ev_c)) rfl rfl rfl ?_
        refine TL.nil ?_
        refine TN.seq ?_
        refine TC.block ?_
        obtain ⟨c34, hc35⟩ : ∃ c, F_spec_FromRuns_L2 runs k7_1 (((((runs.getD k7_1 (0, 0)).2).toNat) - 0) + 1) (k6_1, 0) = c := ⟨_, rfl⟩
        rw [hc35] at hL1
        refine TC.loop (ι := Nat × List Int × Nat × Value) (fun (fu2, k6_2, k8_2, vk6_2) => [(0, (.int .i64 n)), (1, vruns), (6, vk6_2), (7, (.int .i64 (k7_1 : Int))), (8, (.int .i64 (k8_2 : Int)))]) (fun (fu2, k6_2, k8_2, vk6_2) => Hp w [rowI 3 vk6_2 k6_2]) (fun (fu2, k6_2, k8_2, vk6_2) => (k8_2 ≤ (((runs.getD k7_1 (0, 0)).2).toNat)) ∧ (k6_2.length = k6_1.length + k8_2) ∧ (((runs.getD k7_1 (0, 0)).2).toNat) - k8_2 < fu2 ∧ F_spec_FromRuns_L2 runs k7_1 fu2 (k6_2, k8_2) = c34) (fun (fu2, k6_2, k8_2, vk6_2) => fu2) (((((runs.getD k7_1 (0, 0)).2).toNat) - 0) + 1, k6_1, 0, vk6_1) ⟨(by first | omega | (simp [-List.getD_eq_getElem?_getD] <;> omega)), (by first | omega | (simp [-List.getD_eq_getElem?_getD] <;> omega)), (by omega), hc35⟩ ⟨rfl, rfl, rfl, rfl, rfl, trivial⟩ (fun w hw => hw) ?_
        rintro ⟨fu2, k6_2, k8_2, vk6_2⟩ hJ2
        obtain ⟨hi2_0, hi2_1, hmu2, hL2⟩ : (k8_2 ≤ (((runs.getD k7_1 (0, 0)).2).toNat)) ∧ (k6_2.length = k6_1.length + k8_2) ∧ (((runs.getD k7_1 (0, 0)).2).toNat) - k8_2 < fu2 ∧ F_spec_FromRuns_L2 runs k7_1 fu2 (k6_2, k8_2) = c34 := hJ2
        change TC _ _ _ _ (Hp w [rowI 3 vk6_2 k6_2]) [(0, (.int .i64 n)), (1, vruns), (6, vk6_2), (7, (.int .i64 (k7_1 : Int))), (8, (.int .i64 (k8_2 : Int)))]
        obtain ⟨mf2, rfl⟩ : ∃ m, fu2 = m + 1 := ⟨fu2 - 1, by omega⟩
        rw [F_spec_FromRuns_L2_s] at hL2
        refine TC.seq ?_
        refine TC.seq ?_
        refine TC.region ?_
        refine TL.op (yq (y_move (ev_t rfl))) rfl rfl rfl ?_
        refine TL.op (yq (y_move (ev_t rfl))) rfl rfl rfl ?_
        refine TL.op (yq (y_move (ev_t rfl))) rfl rfl rfl ?_
        have hb36 : k7_1 < runs.length := (by first | omega | (simp only [List.length_set, List.length_append, List.length_cons, List.length_nil, List.length_replicate]; omega) | (rw [sortI_length]; simp only [List.length_cons, List.length_nil]; omega))
        refine TL.op (yq (y_idx (k := k7_1) (ev_t rfl) (ev_t rfl) (by first | omega | simp) slT_37 (rp_arg hruns) hb36)) rfl rfl rfl ?_
        refine TL.op (yq (y_ixa (c := 1) (ev_t rfl) ev_c rfl arT_85 (rp_arg hruns) hb36 (by decide))) rfl rfl rfl ?_
        refine TL.op (yq (y_ldp2 (ev_t rfl) one_3 (rp_arg hruns) hb36)) rfl rfl rfl ?_
        refine TL.op (yq (y_lss (ev_t rfl) (ev_t rfl))) rfl rfl rfl ?_
        refine TL.nil ?_
        refine TN.seq ?_
        refine TC.cond (b := decide ((k8_2 : Int) < (runs.getD k7_1 (0, 0)).2)) (ev_t rfl) (fun h37 => ?_) (fun h37 => ?_)
        · rw [bif_pos h37] at hL2
          have q38 := (of_decide_eq_true h37)
          refine TC.skip ?_
          refine TN.seq ?_
          refine TC.seq ?_
          refine TC.block ?_
          refine TC.region ?_
          refine TL.op (yq (y_move (ev_t rfl))) rfl rfl rfl ?_
          refine TL.op (yq (y_move (ev_t rfl))) rfl rfl rfl ?_
          refine TL.op (yq (y_move (ev_t rfl))) rfl rfl rfl ?_
          have hb39 : k7_1 < runs.length := (by first | omega | (simp only [List.length_set, List.length_append, List.length_cons, List.length_nil, List.length_replicate]; omega) | (rw [sortI_length]; simp only [List.length_cons, List.length_nil]; omega))
          refine TL.op (yq (y_idx (k := k7_1) (ev_t rfl) (ev_t rfl) (by first | omega | simp) slT_37 (rp_arg hruns) hb39)) rfl rfl rfl ?_
          refine TL.op (yq (y_ixa (c := 0) (ev_t rfl) ev_c rfl arT_85 (rp_arg hruns) hb39 (by decide))) rfl rfl rfl ?_
          refine TL.op (yq (y_ldp1 (ev_t rfl) one_3 (rp_arg hruns) hb39)) rfl rfl rfl ?_
          refine TL.buildI (zs := [.tmp 61]) (qs := [(runs.getD k7_1 (0, 0)).1]) slT_34 rfl ⟨(ev_t rfl), trivial⟩ rfl (by decide) rfl (fun v12_6 => ?_)
          refine TL.appendI 1 (ev_t rfl) (ev_t rfl) rfl slT_34 (ri_row 0 rfl) (by first | omega | (simp [-List.getD_eq_getElem?_getD] <;> omega)) rfl (fun v12_7 => ?_)
          refine TL.op (yq (y_assign (ev_t rfl))) rfl rfl rfl ?_
          refine TL.nil ?_
          refine TN.blockN ?_
          refine TN.seq ?_
          refine TC.region ?_
          refine TL.op (yq (y_move (ev_t rfl))) rfl rfl rfl ?_
          refine TL.op (yq (y_add (ev_t rfl) ev_c (by unfold In64; constructor <;> omega))) rfl rfl rfl ?_
          refine TL.op (yq (y_assign (ev_t rfl))) rfl rfl rfl ?_
          refine TL.nil ?_
          exact TN.hand (mf2, (k6_2 ++ ([(runs.getD k7_1 (0, 0)).1])), (k8_2 + 1), v12_7) ⟨(by first | omega | (simp [-List.getD_eq_getElem?_getD] <;> omega)), (by first | omega | (simp [-List.getD_eq_getElem?_getD] <;> omega)), (by omega), hL2⟩ (Nat.lt_succ_self _) ⟨rfl, rfl, rfl, rfl, rfl, trivial⟩ (fun w hw => Hp.sublist hw (.cons _ (.cons_cons _ .slnil)))
        · rw [bif_neg h37] at hL2
          have q38 := (of_decide_eq_false h37)
          refine TC.exit ?_
          refine TN.thenE ?_
          refine TN.thenE ?_
          rw [← hL2, elim_next] at hL1
          try dsimp only at hL1
          refine TN.blockH ?_
          refine TN.blockN ?_
          refine TN.seq ?_
          refine TC.region ?_
          refine TL.op (yq (y_move (ev_t rfl))) rfl rfl rfl ?_
          refine TL.op (yq (y_add (ev_t rfl) ev_c (by unfold In64; constructor <;> omega))) rfl rfl rfl ?_
          refine TL.op (yq (y_assign (ev_t rfl))) rfl rfl rfl ?_
          refine TL.nil ?_
          exact TN.hand (mf1, k6_2, (k7_1 + 1), vk6_2) ⟨(by first | omega | (simp [-List.getD_eq_getElem?_getD] <;> omega)), (by first | omega | (simp [-List.getD_eq_getElem?_getD] <;> omega)), (by omega), hL1⟩ (Nat.lt_succ_self _) ⟨rfl, rfl, rfl, rfl, trivial⟩ (fun w hw => hw)
    · rw [bif_neg h29] at hL1
      have q30 := (of_decide_eq_false h29)
      refine TC.exit ?_
      refine TN.thenE ?_
      refine TN.thenE ?_
      rw [← hL1, elim_next] at hF
      try dsimp only at hF
      refine TN.blockH ?_
      refine TN.seq ?_
      refine TC.seq ?_
      refine TC.region ?_
      refine TL.op (yq (y_move (ev_t rfl))) rfl rfl rfl ?_
      refine TL.op (yq (y_assign (ev_t rfl))) rfl rfl rfl ?_
      refine TL.op (yq (y_assign ev_c)) rfl rfl rfl ?_
      refine TL.nil ?_
      refine TN.seq ?_
      refine TC.ret ?_
      subst hF
      exact TN.ret2 rfl (ev_t rfl) (ev_t rfl) (fun w' hw => ⟨vk6_1, rfl, hw⟩)

set_option maxRecDepth 4000 in
set_option maxHeartbeats 1000000 in
theorem impl_CountsOf_ok (w : World) (n : Int) (vreqs : Value) (reqs : List Int) (hreqs : RI w vreqs reqs)  :
    Calls Try.prog 27 ([(.int .i64 n), vreqs] : List Value).toArray w (fun e w' => ∃ i : Value, e = .returned (.tuple #[i, (.bool ((F_impl_CountsOf n reqs).2))]) ∧ Hp w [rowI 3 i ((F_impl_CountsOf n reqs).1)] w') := by
  obtain ⟨rz, hF⟩ : ∃ rz, (F_impl_CountsOf n reqs) = rz := ⟨_, rfl⟩
  rw [hF]
  unfold F_impl_CountsOf at hF
  have hlen_reqs := arg_len hreqs
  refine calls_tc Try.func27 rfl rfl rfl ?_
  change TC _ _ _ _ (Hp w []) [(0, (.int .i64 n)), (1, vreqs)]
  refine TC.seq ?_
  refine TC.region ?_
  refine TL.op (yq (y_assign ev_c)) rfl rfl rfl ?_
  refine TL.op (yq (y_assign ev_c)) rfl rfl rfl ?_
  refine TL.nil ?_
  refine TN.seq ?_
  refine TC.seq ?_
  refine TC.seq ?_
  refine TC.region ?_
  refine TL.op (yq (y_move (ev_t rfl))) rfl rfl rfl ?_
  refine TL.op (yq (y_move (ev_t rfl))) rfl rfl rfl ?_
  refine TL.op (y_call (vs := [(.int .i64 n), vreqs]) (v := (.bool (F_impl_IsRequests n reqs))) en_71 ⟨(ev_t rfl), (ev_t rfl), trivial⟩ (fun w hw => impl_IsRequests_ok w n vreqs reqs ((ri_arg hreqs) w hw))) rfl rfl rfl ?_
  refine TL.op (yq (y_not (ev_t rfl))) rfl rfl rfl ?_
  refine TL.nil ?_
  refine TN.seq ?_
  refine TC.cond (b := !(F_impl_IsRequests n reqs)) (ev_t rfl) (fun h18 => ?_) (fun h18 => ?_)
  · rw [bif_pos h18] at hF
    have q19 := (not_t h18)
    refine TC.seq ?_
    refine TC.region ?_
    refine TL.op (yq (y_assign ev_c)) rfl rfl rfl ?_
    refine TL.op (yq (y_assign ev_c)) rfl rfl rfl ?_
    refine TL.nil ?_
    refine TN.seq ?_
    refine TC.ret ?_
    refine TN.thenR ?_
    subst hF
    refine TN.cls (fun w hw => hw.nil 3 1) ?_
    exact TN.ret2 rfl (ev_t rfl) (ev_t rfl) (fun w' hw => ⟨(.slice none 0 0), rfl, hw⟩)
  · rw [bif_neg h18] at hF
    have q19 := (isRequests_t (not_f h18))
    have hrq := q19
    refine TC.skip ?_
    refine TN.seq ?_
    refine TC.seq ?_
    refine TC.region ?_
    refine TL.op (yq (y_move (ev_t rfl))) rfl rfl rfl ?_
    refine TL.makeSlice (n := (n).toNat) (ev_t rfl) (ev_t rfl) (by omega) slT_34 rfl (by omega) (by unfold maxLen; omega) rfl (fun v3_1 => ?_)
    refine TL.cls (fun w hw => hw.zeros) ?_
    refine TL.op (yq (y_assign (ev_t rfl))) rfl rfl rfl ?_
    refine TL.nil ?_
    refine TN.seq ?_
    refine TC.seq ?_
    refine TC.seq ?_
    refine TC.region ?_
    refine TL.op (yq (y_move (ev_t rfl))) rfl rfl rfl ?_
    refine TL.op (yq (y_len (ev_t rfl) Try.underlying34 (fun w hw => ((ri_arg hreqs) w hw).ln))) rfl rfl rfl ?_
    refine TL.op (yq (y_move ev_c)) rfl rfl rfl ?_
    refine TL.nil ?_
    refine TN.seq ?_
    refine TC.block ?_
    obtain ⟨c21, hc22⟩ : ∃ c, F_impl_CountsOf_L1 reqs ((reqs.length - 0) + 1) (0, (List.replicate ((n).toNat) (0 : Int))) = c := ⟨_, rfl⟩
    rw [hc22] at hF
    refine TC.loop (ι := Nat × Nat × List Int) (fun (fu1, k17_1, out1) => [(6, v3_1), (15, vreqs), (16, (.int .i64 (reqs.length : Int))), (17, (.int .i64 (k17_1 : Int)))]) (fun (fu1, k17_1, out1) => Hp w [rowI 3 v3_1 out1]) (fun (fu1, k17_1, out1) => (k17_1 ≤ reqs.length) ∧ (out1.length = n.toNat) ∧ (∀ i : Nat, 0 ≤ out1.getD i 0 ∧ out1.getD i 0 ≤ k17_1) ∧ reqs.length - k17_1 < fu1 ∧ F_impl_CountsOf_L1 reqs fu1 (k17_1, out1) = c21) (fun (fu1, k17_1, out1) => fu1) ((reqs.length - 0) + 1, 0, (List.replicate ((n).toNat) (0 : Int))) ⟨(by first | omega | (simp [-List.getD_eq_getElem?_getD] <;> omega)), (by first | omega | (simp [-List.getD_eq_getElem?_getD] <;> omega)), (bd_zero _), (by omega), hc22⟩ ⟨rfl, rfl, rfl, rfl, trivial⟩ (fun w hw => hw) ?_
    rintro ⟨fu1, k17_1, out1⟩ hJ1
    obtain ⟨hi1_0, hi1_1, hi1_2, hmu1, hL1⟩ : (k17_1 ≤ reqs.length) ∧ (out1.length = n.toNat) ∧ (∀ i : Nat, 0 ≤ out1.getD i 0 ∧ out1.getD i 0 ≤ k17_1) ∧ reqs.length - k17_1 < fu1 ∧ F_impl_CountsOf_L1 reqs fu1 (k17_1, out1) = c21 := hJ1
    change TC _ _ _ _ (Hp w [rowI 3 v3_1 out1]) [(6, v3_1), (15, vreqs), (16, (.int .i64 (reqs.length : Int))), (17, (.int .i64 (k17_1 : Int)))]
    obtain ⟨mf1, rfl⟩ : ∃ m, fu1 = m + 1 := ⟨fu1 - 1, by omega⟩
    rw [F_impl_CountsOf_L1_s] at hL1
    refine TC.seq ?_
    refine TC.region ?_
    refine TL.op (yq (y_lss (ev_t rfl) (ev_t rfl))) rfl rfl rfl ?_
    refine TL.nil ?_
    refine TN.seq ?_
    refine TC.seq ?_
    refine TC.cond (b := decide ((k17_1 : Int) < (reqs.length : Int))) (ev_t rfl) (fun h23 => ?_) (fun h23 => ?_)
    · rw [bif_pos h23] at hL1
      have q24 := (of_decide_eq_true h23)
      have hit := hrq.2.2 k17_1 (by omega)
      have he := hi1_2 (reqs.getD k17_1 0).toNat
      refine TC.skip ?_
      refine TN.seq ?_
      refine TC.seq ?_
      refine TC.block ?_
      refine TC.seq ?_
      refine TC.region ?_
      have hb25 : k17_1 < reqs.length := (by first | omega | (simp only [List.length_set, List.length_append, List.length_cons, List.length_nil, List.length_replicate]; omega) | (rw [sortI_length]; simp only [List.length_cons, List.length_nil]; omega))
      refine TL.op (yq (y_idx (k := k17_1) (ev_t rfl) (ev_t rfl) (by first | omega | simp) slT_34 (ri_arg hreqs) hb25)) rfl rfl rfl ?_
      refine TL.op (yq (y_ldi (ev_t rfl) one_3 (ri_arg hreqs) hb25)) rfl rfl rfl ?_
      refine TL.op (yq (y_assign (ev_t rfl))) rfl rfl rfl ?_
      refine TL.nil ?_
      refine TN.seq ?_
      refine TC.region ?_
      refine TL.op (yq (y_move (ev_t rfl))) rfl rfl rfl ?_
      refine TL.op (yq (y_move (ev_t rfl))) rfl rfl rfl ?_
      have hb26 : ((reqs.getD k17_1 0)).toNat < out1.length := (by first | omega | (simp only [List.length_set, List.length_append, List.length_cons, List.length_nil, List.length_replicate]; omega) | (rw [sortI_length]; simp only [List.length_cons, List.length_nil]; omega))
      refine TL.op (yq (y_idx (k := ((reqs.getD k17_1 0)).toNat) (ev_t rfl) (ev_t rfl) (by first | omega | simp) slT_34 (ri_row 0 rfl) hb26)) rfl rfl rfl ?_
      refine TL.op (yq (y_ldi (ev_t rfl) one_3 (ri_row 0 rfl) hb26)) rfl rfl rfl ?_
      refine TL.op (yq (y_add (ev_t rfl) ev_c (by unfold In64; constructor <;> omega))) rfl rfl rfl ?_
      have hb27 : ((reqs.getD k17_1 0)).toNat < out1.length := (by first | omega | (simp only [List.length_set, List.length_append, List.length_cons, List.length_nil, List.length_replicate]; omega) | (rw [sortI_length]; simp only [List.length_cons, List.length_nil]; omega))
      refine TL.op (yq (y_idx (k := ((reqs.getD k17_1 0)).toNat) (ev_t rfl) (ev_t rfl) (by first | omega | simp) slT_34 (ri_row 0 rfl) hb27)) rfl rfl rfl ?_
      refine TL.storeI 0 (ev_t rfl) (ev_t rfl) one_3 rfl hb27 ?_
      refine TL.nil ?_
      refine TN.blockN ?_
      refine TN.seq ?_
      refine TC.region ?_
      refine TL.op (yq (y_add (ev_t rfl) ev_c (by unfold In64; constructor <;> omega))) rfl rfl rfl ?_
      refine TL.op (yq (y_move (ev_t rfl))) rfl rfl rfl ?_
      refine TL.nil ?_
      exact TN.hand (mf1, (k17_1 + 1), (out1.set (((reqs.getD k17_1 0)).toNat) ((out1.getD (((reqs.getD k17_1 0)).toNat) 0) + 1))) ⟨(by first | omega | (simp [-List.getD_eq_getElem?_getD] <;> omega)), (by first | omega | (simp [-List.getD_eq_getElem?_getD] <;> omega)), (bd_set1 hi1_2), (by omega), hL1⟩ (Nat.lt_succ_self _) ⟨rfl, rfl, rfl, rfl, trivial⟩ (fun w hw => hw)
    · rw [bif_neg h23] at hL1
      have q24 := (of_decide_eq_false h23)
      refine TC.exit ?_
      refine TN.thenE ?_
      refine TN.thenE ?_
      rw [← hL1, elim_next] at hF
      try dsimp only at hF
      refine TN.blockH ?_
      refine TN.seq ?_
      refine TC.seq ?_
      refine TC.region ?_
      refine TL.op (yq (y_move (ev_t rfl))) rfl rfl rfl ?_
      refine TL.op (yq (y_assign (ev_t rfl))) rfl rfl rfl ?_
      refine TL.op (yq (y_assign ev_c)) rfl rfl rfl ?_
      refine TL.nil ?_
      refine TN.seq ?_
      refine TC.ret ?_
      subst hF
      exact TN.ret2 rfl (ev_t rfl) (ev_t rfl) (fun w' hw => ⟨v3_1, rfl, hw⟩)

set_option maxRecDepth 4000 in
set_option maxHeartbeats 1000000 in
theorem spec_l3Counts_ok (w : World) (n : Int) (vreqs : Value) (reqs : List Int) (hreqs : RI w vreqs reqs) (hp0 : 1 ≤ n ∧ n ≤ 8) (hp1 : reqs.length ≤ 60) (hp2 : ∀ i, i < reqs.length → 0 ≤ reqs.getD i 0 ∧ reqs.getD i 0 < n) :
    Calls Try.prog 82 ([(.int .i64 n), vreqs] : List Value).toArray w (fun e w' => ∃ i : Value, e = .returned i ∧ Hp w [rowI 3 i (F_spec_l3Counts n reqs)] w') := by
  obtain ⟨rz, hF⟩ : ∃ rz, (F_spec_l3Counts n reqs) = rz := ⟨_, rfl⟩
  rw [hF]
  unfold F_spec_l3Counts at hF
  have hlen_reqs := arg_len hreqs
  refine calls_tc Try.func82 rfl rfl rfl ?_
  change TC _ _ _ _ (Hp w []) [(0, (.int .i64 n)), (1, vreqs)]
  refine TC.seq ?_
  refine TC.region ?_
  refine TL.op (yq (y_assign ev_c)) rfl rfl rfl ?_
  refine TL.nil ?_
  refine TN.seq ?_
  refine TC.seq ?_
  refine TC.region ?_
  refine TL.op (yq (y_move (ev_t rfl))) rfl rfl rfl ?_
  refine TL.makeSlice (n := (n).toNat) (ev_t rfl) (ev_t rfl) (by omega) slT_34 rfl (by omega) (by unfold maxLen; omega) rfl (fun v1_1 => ?_)
  refine TL.cls (fun w hw => hw.zeros) ?_
  refine TL.op (yq (y_assign (ev_t rfl))) rfl rfl rfl ?_
  refine TL.nil ?_
  refine TN.seq ?_
  refine TC.seq ?_
  refine TC.seq ?_
  refine TC.region ?_
  refine TL.op (yq (y_assign ev_c)) rfl rfl rfl ?_
  refine TL.nil ?_
  refine TN.seq ?_
  refine TC.block ?_
  obtain ⟨c19, hc20⟩ : ∃ c, F_spec_l3Counts_L1 reqs ((reqs.length - 0) + 1) (0, (List.replicate ((n).toNat) (0 : Int))) = c := ⟨_, rfl⟩
  rw [hc20] at hF
  refine TC.loop (ι := Nat × Nat × List Int) (fun (fu1, i1, out1) => [(1, vreqs), (5, v1_1), (6, (.int .i64 (i1 : Int)))]) (fun (fu1, i1, out1) => Hp w [rowI 3 v1_1 out1]) (fun (fu1, i1, out1) => (i1 ≤ reqs.length) ∧ (out1.length = n.toNat) ∧ (∀ i : Nat, 0 ≤ out1.getD i 0 ∧ out1.getD i 0 ≤ i1) ∧ reqs.length - i1 < fu1 ∧ F_spec_l3Counts_L1 reqs fu1 (i1, out1) = c19) (fun (fu1, i1, out1) => fu1) ((reqs.length - 0) + 1, 0, (List.replicate ((n).toNat) (0 : Int))) ⟨(by first | omega | (simp [-List.getD_eq_getElem?_getD] <;> omega)), (by first | omega | (simp [-List.getD_eq_getElem?_getD] <;> omega)), (bd_zero _), (by omega), hc20⟩ ⟨rfl, rfl, rfl, trivial⟩ (fun w hw => hw) ?_
  rintro ⟨fu1, i1, out1⟩ hJ1
  obtain ⟨hi1_0, hi1_1, hi1_2, hmu1, hL1⟩ : (i1 ≤ reqs.length) ∧ (out1.length = n.toNat) ∧ (∀ i : Nat, 0 ≤ out1.getD i 0 ∧ out1.getD i 0 ≤ i1) ∧ reqs.length - i1 < fu1 ∧ F_spec_l3Counts_L1 reqs fu1 (i1, out1) = c19 := hJ1
  change TC _ _ _ _ (Hp w [rowI 3 v1_1 out1]) [(1, vreqs), (5, v1_1), (6, (.int .i64 (i1 : Int)))]
  obtain ⟨mf1, rfl⟩ : ∃ m, fu1 = m + 1 := ⟨fu1 - 1, by omega⟩
  rw [F_spec_l3Counts_L1_s] at hL1
  refine TC.seq ?_
  refine TC.seq ?_
  refine TC.region ?_
  refine TL.op (yq (y_move (ev_t rfl))) rfl rfl rfl ?_
  refine TL.op (yq (y_move (ev_t rfl))) rfl rfl rfl ?_
  refine TL.op (yq (y_len (ev_t rfl) Try.underlying34 (fun w hw => ((ri_arg hreqs) w hw).ln))) rfl rfl rfl ?_
  refine TL.op (yq (y_lss (ev_t rfl) (ev_t rfl))) rfl rfl rfl ?_
  refine TL.nil ?_
  refine TN.seq ?_
  refine TC.cond (b := decide ((i1 : Int) < (reqs.length : Int))) (ev_t rfl) (fun h21 => ?_) (fun h21 => ?_)
  · rw [bif_pos h21] at hL1
    have q22 := (of_decide_eq_true h21)
    have hit := hp2 i1 (by omega)
    have he := hi1_2 (reqs.getD i1 0).toNat
    refine TC.skip ?_
    refine TN.seq ?_
    refine TC.seq ?_
    refine TC.block ?_
    refine TC.regionT 14 (by kernel_rfl) (by kernel_rfl) dr_hp ?_
    refine TQ.op (yq (y_move (ev_t rfl))) rfl rfl rfl ?_
    refine TQ.op (yq (y_move (ev_t rfl))) rfl rfl rfl ?_
    refine TQ.op (yq (y_move (ev_t rfl))) rfl rfl rfl ?_
    have hb23 : i1 < reqs.length := (by first | omega | (simp only [List.length_set, List.length_append, List.length_cons, List.length_nil, List.length_replicate]; omega) | (rw [sortI_length]; simp only [List.length_cons, List.length_nil]; omega))
    refine TQ.op (yq (y_idx (k := i1) (ev_t rfl) (ev_t rfl) (by first | omega | simp) slT_34 (ri_arg hreqs) hb23)) rfl rfl rfl ?_
    refine TQ.op (yq (y_ldi (ev_t rfl) one_3 (ri_arg hreqs) hb23)) rfl rfl rfl ?_
    refine TQ.op (yq (y_move (ev_t rfl))) rfl rfl rfl ?_
    refine TQ.op (yq (y_move (ev_t rfl))) rfl rfl rfl ?_
    refine TQ.op (yq (y_move (ev_t rfl))) rfl rfl rfl ?_
    have hb24 : i1 < reqs.length := (by first | omega | (simp only [List.length_set, List.length_append, List.length_cons, List.length_nil, List.length_replicate]; omega) | (rw [sortI_length]; simp only [List.length_cons, List.length_nil]; omega))
    refine TQ.op (yq (y_idx (k := i1) (ev_t rfl) (ev_t rfl) (by first | omega | simp) slT_34 (ri_arg hreqs) hb24)) rfl rfl rfl ?_
    refine TQ.op (yq (y_ldi (ev_t rfl) one_3 (ri_arg hreqs) hb24)) rfl rfl rfl ?_
    have hb25 : ((reqs.getD i1 0)).toNat < out1.length := (by first | omega | (simp only [List.length_set, List.length_append, List.length_cons, List.length_nil, List.length_replicate]; omega) | (rw [sortI_length]; simp only [List.length_cons, List.length_nil]; omega))
    refine TQ.op (yq (y_idx (k := ((reqs.getD i1 0)).toNat) (ev_t rfl) (ev_t rfl) (by first | omega | simp) slT_34 (ri_row 0 rfl) hb25)) rfl rfl rfl ?_
    refine TQ.op (yq (y_ldi (ev_t rfl) one_3 (ri_row 0 rfl) hb25)) rfl rfl rfl ?_
    refine TQ.op (yq (y_add (ev_t rfl) ev_c (by unfold In64; constructor <;> omega))) rfl rfl rfl ?_
    have hb26 : ((reqs.getD i1 0)).toNat < out1.length := (by first | omega | (simp only [List.length_set, List.length_append, List.length_cons, List.length_nil, List.length_replicate]; omega) | (rw [sortI_length]; simp only [List.length_cons, List.length_nil]; omega))
    refine TQ.op (yq (y_idx (k := ((reqs.getD i1 0)).toNat) (ev_t rfl) (ev_t rfl) (by first | omega | simp) slT_34 (ri_row 0 rfl) hb26)) rfl rfl rfl ?_
    refine TQ.tail ?_
    refine TL.storeI 0 (ev_t rfl) (ev_t rfl) one_3 rfl hb26 ?_
    refine TL.nil ?_
    refine TN.blockN ?_
    refine TN.seq ?_
    refine TC.region ?_
    refine TL.op (yq (y_move (ev_t rfl))) rfl rfl rfl ?_
    refine TL.op (yq (y_add (ev_t rfl) ev_c (by unfold In64; constructor <;> omega))) rfl rfl rfl ?_
    refine TL.op (yq (y_assign (ev_t rfl))) rfl rfl rfl ?_
    refine TL.nil ?_
    exact TN.hand (mf1, (i1 + 1), (out1.set (((reqs.getD i1 0)).toNat) ((out1.getD (((reqs.getD i1 0)).toNat) 0) + 1))) ⟨(by first | omega | (simp [-List.getD_eq_getElem?_getD] <;> omega)), (by first | omega | (simp [-List.getD_eq_getElem?_getD] <;> omega)), (bd_set1 hi1_2), (by omega), hL1⟩ (Nat.lt_succ_self _) ⟨rfl, rfl, rfl, trivial⟩ (fun w hw => hw)
  · rw [bif_neg h21] at hL1
    have q22 := (of_decide_eq_false h21)
    refine TC.exit ?_
    refine TN.thenE ?_
    refine TN.thenE ?_
    rw [← hL1, elim_next] at hF
    try dsimp only at hF
    refine TN.blockH ?_
    refine TN.seq ?_
    refine TC.seq ?_
    refine TC.region ?_
    refine TL.op (yq (y_move (ev_t rfl))) rfl rfl rfl ?_
    refine TL.op (yq (y_assign (ev_t rfl))) rfl rfl rfl ?_
    refine TL.nil ?_
    refine TN.seq ?_
    refine TC.ret ?_
    subst hF
    exact TN.ret1 rfl (ev_t rfl) (fun w' hw => ⟨v1_1, rfl, hw⟩)

set_option maxRecDepth 4000 in
set_option maxHeartbeats 1000000 in
theorem spec_CountsOf_ok (w : World) (n : Int) (vreqs : Value) (reqs : List Int) (hreqs : RI w vreqs reqs)  :
    Calls Try.prog 28 ([(.int .i64 n), vreqs] : List Value).toArray w (fun e w' => ∃ i : Value, e = .returned (.tuple #[i, (.bool ((F_spec_CountsOf n reqs).2))]) ∧ Hp w [rowI 3 i ((F_spec_CountsOf n reqs).1)] w') := by
  obtain ⟨rz, hF⟩ : ∃ rz, (F_spec_CountsOf n reqs) = rz := ⟨_, rfl⟩
  rw [hF]
  unfold F_spec_CountsOf at hF
  have hlen_reqs := arg_len hreqs
  refine calls_tc Try.func28 rfl rfl rfl ?_
  change TC _ _ _ _ (Hp w []) [(0, (.int .i64 n)), (1, vreqs)]
  refine TC.seq ?_
  refine TC.region ?_
  refine TL.op (yq (y_assign ev_c)) rfl rfl rfl ?_
  refine TL.op (yq (y_assign ev_c)) rfl rfl rfl ?_
  refine TL.nil ?_
  refine TN.seq ?_
  refine TC.seq ?_
  refine TC.seq ?_
  refine TC.region ?_
  refine TL.op (yq (y_move (ev_t rfl))) rfl rfl rfl ?_
  refine TL.op (yq (y_move (ev_t rfl))) rfl rfl rfl ?_
  refine TL.op (y_call (vs := [(.int .i64 n), vreqs]) (v := (.bool (F_spec_l3Good n reqs))) en_72 ⟨(ev_t rfl), (ev_t rfl), trivial⟩ (fun w hw => spec_l3Good_ok w n vreqs reqs ((ri_arg hreqs) w hw))) rfl rfl rfl ?_
  refine TL.op (yq (y_not (ev_t rfl))) rfl rfl rfl ?_
  refine TL.nil ?_
  refine TN.seq ?_
  refine TC.cond (b := !(F_spec_l3Good n reqs)) (ev_t rfl) (fun h3 => ?_) (fun h3 => ?_)
  · rw [bif_pos h3] at hF
    have q4 := (not_t h3)
    refine TC.seq ?_
    refine TC.region ?_
    refine TL.buildI (zs := []) (qs := []) slT_34 rfl trivial rfl (by decide) rfl (fun v2_0 => ?_)
    refine TL.op (yq (y_assign (ev_t rfl))) rfl rfl rfl ?_
    refine TL.op (yq (y_assign ev_c)) rfl rfl rfl ?_
    refine TL.nil ?_
    refine TN.seq ?_
    refine TC.ret ?_
    refine TN.thenR ?_
    subst hF
    exact TN.ret2 rfl (ev_t rfl) (ev_t rfl) (fun w' hw => ⟨v2_0, rfl, hw⟩)
  · rw [bif_neg h3] at hF
    have q4 := (l3Good_t (not_f h3))
    have hrq := q4
    have hrq1 := hrq.1
    have hrq2 := hrq.2.1
    have hrq3 := hrq.2.2
    refine TC.skip ?_
    refine TN.seq ?_
    refine TC.seq ?_
    refine TC.region ?_
    refine TL.op (yq (y_move (ev_t rfl))) rfl rfl rfl ?_
    refine TL.op (yq (y_move (ev_t rfl))) rfl rfl rfl ?_
    refine TL.callr (ι := Value) (vs := [(.int .i64 n), vreqs]) (fun i => i) (fun i => [rowI 3 i (F_spec_l3Counts n reqs)]) en_82 ⟨(ev_t rfl), (ev_t rfl), trivial⟩ rfl (fun w hw => spec_l3Counts_ok w n vreqs reqs ((ri_arg hreqs) w hw) (by first | assumption | omega | grind) (by first | assumption | omega | grind) (by first | assumption | omega | grind)) (fun r3_2 => ?_)
    refine TL.op (yq (y_assign (ev_t rfl))) rfl rfl rfl ?_
    refine TL.op (yq (y_assign ev_c)) rfl rfl rfl ?_
    refine TL.nil ?_
    refine TN.seq ?_
    refine TC.ret ?_
    subst hF
    exact TN.ret2 rfl (ev_t rfl) (ev_t rfl) (fun w' hw => ⟨r3_2, rfl, hw⟩)


end Go.Proofs.Ytcmhgkcifejgcaa
namespace Go.Proofs.Ytcmhgkcifejgcaa
set_option linter.unusedVariables false
set_option linter.unusedSimpArgs false
open Go Go.RowKit
set_option linter.unusedVariables false

set_option maxRecDepth 4000 in
set_option maxHeartbeats 1000000 in
theorem spec_l1Most_ok (w : World) (a : Int) (b : Int)  :
    Calls Try.prog 74 ([(.int .i64 a), (.int .i64 b)] : List Value).toArray w (Ret (.int .i64 (F_spec_l1Most a b)) (Hp w [])) := by
  obtain ⟨rz, hF⟩ : ∃ rz, (F_spec_l1Most a b) = rz := ⟨_, rfl⟩
  rw [hF]
  unfold F_spec_l1Most at hF
  refine calls_tc Try.func74 rfl rfl rfl ?_
  change TC _ _ _ _ (Hp w []) [(0, (.int .i64 a)), (1, (.int .i64 b))]
  refine TC.seq ?_
  refine TC.region ?_
  refine TL.op (yq (y_assign ev_c)) rfl rfl rfl ?_
  refine TL.nil ?_
  refine TN.seq ?_
  refine TC.seq ?_
  refine TC.seq ?_
  refine TC.region ?_
  refine TL.op (yq (y_move (ev_t rfl))) rfl rfl rfl ?_
  refine TL.op (yq (y_move (ev_t rfl))) rfl rfl rfl ?_
  refine TL.op (yq (y_gtr (ev_t rfl) (ev_t rfl))) rfl rfl rfl ?_
  refine TL.nil ?_
  refine TN.seq ?_
  refine TC.cond (b := decide (b < a)) (ev_t rfl) (fun h3 => ?_) (fun h3 => ?_)
  · rw [bif_pos h3] at hF
    have q4 := (of_decide_eq_true h3)
    refine TC.seq ?_
    refine TC.region ?_
    refine TL.op (yq (y_move (ev_t rfl))) rfl rfl rfl ?_
    refine TL.op (yq (y_assign (ev_t rfl))) rfl rfl rfl ?_
    refine TL.nil ?_
    refine TN.seq ?_
    refine TC.ret ?_
    refine TN.thenR ?_
    subst hF
    exact TN.ret1 rfl (ev_t rfl) (fun w' hw => ⟨rfl, hw⟩)
  · rw [bif_neg h3] at hF
    have q4 := (of_decide_eq_false h3)
    refine TC.skip ?_
    refine TN.seq ?_
    refine TC.seq ?_
    refine TC.region ?_
    refine TL.op (yq (y_move (ev_t rfl))) rfl rfl rfl ?_
    refine TL.op (yq (y_assign (ev_t rfl))) rfl rfl rfl ?_
    refine TL.nil ?_
    refine TN.seq ?_
    refine TC.ret ?_
    subst hF
    exact TN.ret1 rfl (ev_t rfl) (fun w' hw => ⟨rfl, hw⟩)

set_option maxRecDepth 4000 in
set_option maxHeartbeats 1000000 in
theorem spec_l1Least_ok (w : World) (a : Int) (b : Int)  :
    Calls Try.prog 75 ([(.int .i64 a), (.int .i64 b)] : List Value).toArray w (Ret (.int .i64 (F_spec_l1Least a b)) (Hp w [])) := by
  obtain ⟨rz, hF⟩ : ∃ rz, (F_spec_l1Least a b) = rz := ⟨_, rfl⟩
  rw [hF]
  unfold F_spec_l1Least at hF
  refine calls_tc Try.func75 rfl rfl rfl ?_
  change TC _ _ _ _ (Hp w []) [(0, (.int .i64 a)), (1, (.int .i64 b))]
  refine TC.seq ?_
  refine TC.region ?_
  refine TL.op (yq (y_assign ev_c)) rfl rfl rfl ?_
  refine TL.nil ?_
  refine TN.seq ?_
  refine TC.seq ?_
  refine TC.seq ?_
  refine TC.region ?_
  refine TL.op (yq (y_move (ev_t rfl))) rfl rfl rfl ?_
  refine TL.op (yq (y_move (ev_t rfl))) rfl rfl rfl ?_
  refine TL.op (yq (y_lss (ev_t rfl) (ev_t rfl))) rfl rfl rfl ?_
  refine TL.nil ?_
  refine TN.seq ?_
  refine TC.cond (b := decide (a < b)) (ev_t rfl) (fun h3 => ?_) (fun h3 => ?_)
  · rw [bif_pos h3] at hF
    have q4 := (of_decide_eq_true h3)
    refine TC.seq ?_
    refine TC.region ?_
    refine TL.op (yq (y_move (ev_t rfl))) rfl rfl rfl ?_
    refine TL.op (yq (y_assign (ev_t rfl))) rfl rfl rfl ?_
    refine TL.nil ?_
    refine TN.seq ?_
    refine TC.ret ?_
    refine TN.thenR ?_
    subst hF
    exact TN.ret1 rfl (ev_t rfl) (fun w' hw => ⟨rfl, hw⟩)
  · rw [bif_neg h3] at hF
    have q4 := (of_decide_eq_false h3)
    refine TC.skip ?_
    refine TN.seq ?_
    refine TC.seq ?_
    refine TC.region ?_
    refine TL.op (yq (y_move (ev_t rfl))) rfl rfl rfl ?_
    refine TL.op (yq (y_assign (ev_t rfl))) rfl rfl rfl ?_
    refine TL.nil ?_
    refine TN.seq ?_
    refine TC.ret ?_
    subst hF
    exact TN.ret1 rfl (ev_t rfl) (fun w' hw => ⟨rfl, hw⟩)

set_option maxRecDepth 4000 in
set_option maxHeartbeats 1000000 in
theorem spec_l1Cur_next_ok (w0 w : World) (fr : List Ck) (gc : Nat) (vc : Value) (code : List Int) (hcode : RB w0 vc code) (at_ : Int) (seed : Int) (hw : Hp w0 (.blk gc 75 [vc, (.int .i64 at_), (.int .u64 seed)] :: fr) w) (hp0 : 0 ≤ at_) (hp1 : at_ ≤ 4000000000) (hp2 : 0 ≤ seed) (hp3 : seed < 18446744073709551616) :
    Calls Try.prog 116 ([(.pointer (some ⟨gc, 0, none⟩))] : List Value).toArray w (fun e w' => True ∧ ∃ _i : Unit, e = .returned (.int .i64 ((F_spec_l1Cur_next code at_ seed).1)) ∧ Hp w0 ([.blk gc 75 [vc, (.int .i64 ((F_spec_l1Cur_next code at_ seed).2.1)), (.int .u64 ((F_spec_l1Cur_next code at_ seed).2.2))]] ++ fr) w') := by
  obtain ⟨rz, hF⟩ : ∃ rz, (F_spec_l1Cur_next code at_ seed) = rz := ⟨_, rfl⟩
  rw [hF]
  unfold F_spec_l1Cur_next at hF
  have hlen_code := argB_len hcode
  refine calls_tcm Try.func116 rfl rfl rfl hw ?_
  change TC _ _ _ _ (Hp w0 ([.blk gc 75 [vc, (.int .i64 at_), (.int .u64 seed)]] ++ fr)) [(0, (.pointer (some ⟨gc, 0, none⟩)))]
  refine TC.seq ?_
  refine TC.region ?_
  refine TL.op (yq (y_assign ev_c)) rfl rfl rfl ?_
  refine TL.nil ?_
  refine TN.seq ?_
  refine TC.seq ?_
  refine TC.region ?_
  refine TL.op (yq (y_assign ev_c)) rfl rfl rfl ?_
  refine TL.nil ?_
  refine TN.seq ?_
  refine TC.seq ?_
  refine TC.seq ?_
  refine TC.regionQ (by kernel_rfl) (by kernel_rfl) dr_hp ?_
  refine TQ.op (yq (y_move (ev_t rfl))) rfl rfl rfl ?_
  refine TQ.op (yq (y_nilp (ev_t rfl))) rfl rfl rfl ?_
  refine TQ.op (yq (y_fa (fa_75_1 gc) (ev_t rfl))) rfl rfl rfl ?_
  refine TQ.op (yq (y_ldb 0 (ev_t rfl) one_3 rfl rfl)) rfl rfl rfl ?_
  refine TQ.op (yq (y_move (ev_t rfl))) rfl rfl rfl ?_
  refine TQ.op (yq (y_nilp (ev_t rfl))) rfl rfl rfl ?_
  refine TQ.op (yq (y_fa (fa_75_0 gc) (ev_t rfl))) rfl rfl rfl ?_
  refine TQ.op (yq (y_ldb 0 (ev_t rfl) one_22 rfl rfl)) rfl rfl rfl ?_
  refine TQ.op (yq (y_len (ev_t rfl) Try.underlying22 (fun w hw => ((ru_arg hcode) w hw).ln))) rfl rfl rfl ?_
  refine TQ.op (yq (y_lss (ev_t rfl) (ev_t rfl))) rfl rfl rfl ?_
  refine TQ.nil ?_
  refine TN.seq ?_
  refine TC.cond (b := decide (at_ < (code.length : Int))) (ev_t rfl) (fun h9 => ?_) (fun h9 => ?_)
  · rw [bif_pos h9] at hF
    have q10 := (of_decide_eq_true h9)
    refine TC.regionQ (by kernel_rfl) (by kernel_rfl) dr_hp ?_
    refine TQ.op (yq (y_move (ev_t rfl))) rfl rfl rfl ?_
    refine TQ.op (yq (y_nilp (ev_t rfl))) rfl rfl rfl ?_
    refine TQ.op (yq (y_fa (fa_75_0 gc) (ev_t rfl))) rfl rfl rfl ?_
    refine TQ.op (yq (y_ldb 0 (ev_t rfl) one_22 rfl rfl)) rfl rfl rfl ?_
    refine TQ.op (yq (y_move (ev_t rfl))) rfl rfl rfl ?_
    refine TQ.op (yq (y_nilp (ev_t rfl))) rfl rfl rfl ?_
    refine TQ.op (yq (y_fa (fa_75_1 gc) (ev_t rfl))) rfl rfl rfl ?_
    refine TQ.op (yq (y_ldb 0 (ev_t rfl) one_3 rfl rfl)) rfl rfl rfl ?_
    have hb11 : (at_).toNat < code.length := (by first | omega | (simp only [List.length_set, List.length_append, List.length_cons, List.length_nil, List.length_replicate]; omega) | (rw [sortI_length]; simp only [List.length_cons, List.length_nil]; omega))
    refine TQ.op (yq (y_idx (k := (at_).toNat) (ev_t rfl) (ev_t rfl) (by first | omega | simp) slT_22 (ru_arg hcode) hb11)) rfl rfl rfl ?_
    have hu12 := hcode.2 ((at_).toNat)
    refine TQ.op (yq (y_ld8 (ev_t rfl) one_5 (rd_arg hcode.1) hb11)) rfl rfl rfl ?_
    refine TQ.op (yq (y_conv_i64 (ev_t rfl) Try.underlying5 Try.underlying3 (by first | omega | (simp only [List.length_set, List.length_append, List.length_cons, List.length_nil, List.length_replicate]; omega) | (rw [sortI_length]; simp only [List.length_cons, List.length_nil]; omega)))) rfl rfl rfl ?_
    refine TQ.op (yq (y_assign (ev_t rfl))) rfl rfl rfl ?_
    refine TQ.nil ?_
    refine TN.seq ?_
    refine TC.seq ?_
    refine TC.region ?_
    refine TL.op (yq (y_move (ev_t rfl))) rfl rfl rfl ?_
    refine TL.op (yq (y_nilp (ev_t rfl))) rfl rfl rfl ?_
    refine TL.op (yq (y_fa (fa_75_1 gc) (ev_t rfl))) rfl rfl rfl ?_
    refine TL.op (yq (y_ldb 0 (ev_t rfl) one_3 rfl rfl)) rfl rfl rfl ?_
    refine TL.op (yq (y_add (ev_t rfl) ev_c (by unfold In64; constructor <;> omega))) rfl rfl rfl ?_
    refine TL.op (yq (y_nilp (ev_t rfl))) rfl rfl rfl ?_
    refine TL.op (yq (y_fa (fa_75_1 gc) (ev_t rfl))) rfl rfl rfl ?_
    refine TL.storeB 0 (ev_t rfl) (ev_t rfl) one_3 rfl (by first | decide | simp) (fun w hw => rfl) ?_
    refine TL.nil ?_
    refine TN.seq ?_
    refine TC.seq ?_
    refine TC.region ?_
    refine TL.op (yq (y_move (ev_t rfl))) rfl rfl rfl ?_
    refine TL.op (yq (y_move (ev_t rfl))) rfl rfl rfl ?_
    refine TL.op (yq (y_nilp (ev_t rfl))) rfl rfl rfl ?_
    refine TL.op (yq (y_fa (fa_75_2 gc) (ev_t rfl))) rfl rfl rfl ?_
    refine TL.op (yq (y_ldb 0 (ev_t rfl) one_73 rfl rfl)) rfl rfl rfl ?_
    refine TL.op (yq (y_mulu (ev_t rfl) ev_c)) rfl rfl rfl ?_
    refine TL.op (yq (y_move (ev_t rfl))) rfl rfl rfl ?_
    refine TL.op (yq (y_conv_u64 (ev_t rfl) Try.underlying3 Try.underlying73 (by first | omega | (simp only [List.length_set, List.length_append, List.length_cons, List.length_nil, List.length_replicate]; omega) | (rw [sortI_length]; simp only [List.length_cons, List.length_nil]; omega)))) rfl rfl rfl ?_
    refine TL.op (yq (y_addu (ev_t rfl) (ev_t rfl))) rfl rfl rfl ?_
    refine TL.op (yq (y_addu (ev_t rfl) ev_c)) rfl rfl rfl ?_
    refine TL.op (yq (y_nilp (ev_t rfl))) rfl rfl rfl ?_
    refine TL.op (yq (y_fa (fa_75_2 gc) (ev_t rfl))) rfl rfl rfl ?_
    refine TL.storeB 0 (ev_t rfl) (ev_t rfl) one_73 rfl (by first | decide | simp) (fun w hw => rfl) ?_
    refine TL.nil ?_
    refine TN.seq ?_
    refine TC.seq ?_
    refine TC.seq ?_
    refine TC.regionQ (by kernel_rfl) (by kernel_rfl) dr_hp ?_
    refine TQ.op (yq (y_move (ev_t rfl))) rfl rfl rfl ?_
    refine TQ.op (yq (y_nilp (ev_t rfl))) rfl rfl rfl ?_
    refine TQ.op (yq (y_fa (fa_75_1 gc) (ev_t rfl))) rfl rfl rfl ?_
    refine TQ.op (yq (y_ldb 0 (ev_t rfl) one_3 rfl rfl)) rfl rfl rfl ?_
    refine TQ.op (yq (y_move (ev_t rfl))) rfl rfl rfl ?_
    refine TQ.op (yq (y_nilp (ev_t rfl))) rfl rfl rfl ?_
    refine TQ.op (yq (y_fa (fa_75_0 gc) (ev_t rfl))) rfl rfl rfl ?_
    refine TQ.op (yq (y_ldb 0 (ev_t rfl) one_22 rfl rfl)) rfl rfl rfl ?_
    refine TQ.op (yq (y_len (ev_t rfl) Try.underlying22 (fun w hw => ((ru_arg hcode) w hw).ln))) rfl rfl rfl ?_
    refine TQ.op (yq (y_leq (ev_t rfl) (ev_t rfl))) rfl rfl rfl ?_
    refine TQ.nil ?_
    refine TN.seq ?_
    refine TC.cond (b := decide (at_ + 1 ≤ (code.length : Int))) (ev_t rfl) (fun h13 => ?_) (fun h13 => ?_)
    · rw [bif_pos h13] at hF
      have q14 := (of_decide_eq_true h13)
      refine TC.seq ?_
      refine TC.region ?_
      refine TL.op (yq (y_move (ev_t rfl))) rfl rfl rfl ?_
      refine TL.op (yq (y_assign (ev_t rfl))) rfl rfl rfl ?_
      refine TL.nil ?_
      refine TN.seq ?_
      refine TC.ret ?_
      refine TN.thenR ?_
      subst hF
      exact TN.ret1 rfl (ev_t rfl) (fun w' hw => ⟨trivial, (), rfl, hw⟩)
    · rw [bif_neg h13] at hF
      have q14 := (of_decide_eq_false h13)
      refine TC.skip ?_
      refine TN.seq ?_
      refine TC.seq ?_
      refine TC.region ?_
      refine TL.op (yq (y_move (ev_t rfl))) rfl rfl rfl ?_
      refine TL.op (yq (y_nilp (ev_t rfl))) rfl rfl rfl ?_
      refine TL.op (yq (y_fa (fa_75_2 gc) (ev_t rfl))) rfl rfl rfl ?_
      refine TL.op (yq (y_ldb 0 (ev_t rfl) one_73 rfl rfl)) rfl rfl rfl ?_
      refine TL.op (yq (y_shr40 (ev_t rfl) ev_c (by omega))) rfl rfl rfl ?_
      refine TL.op (yq (y_and255 (ev_t rfl) ev_c (by omega) (by omega))) rfl rfl rfl ?_
      refine TL.op (yq (y_conv_i64 (ev_t rfl) Try.underlying73 Try.underlying3 (by first | omega | (simp only [List.length_set, List.length_append, List.length_cons, List.length_nil, List.length_replicate]; omega) | (rw [sortI_length]; simp only [List.length_cons, List.length_nil]; omega)))) rfl rfl rfl ?_
      refine TL.op (yq (y_assign (ev_t rfl))) rfl rfl rfl ?_
      refine TL.nil ?_
      refine TN.seq ?_
      refine TC.ret ?_
      subst hF
      exact TN.ret1 rfl (ev_t rfl) (fun w' hw => ⟨trivial, (), rfl, hw⟩)
  · rw [bif_neg h9] at hF
    have q10 := (of_decide_eq_false h9)
    refine TC.skip ?_
    refine TN.seq ?_
    refine TC.seq ?_
    refine TC.region ?_
    refine TL.op (yq (y_move (ev_t rfl))) rfl rfl rfl ?_
    refine TL.op (yq (y_nilp (ev_t rfl))) rfl rfl rfl ?_
    refine TL.op (yq (y_fa (fa_75_1 gc) (ev_t rfl))) rfl rfl rfl ?_
    refine TL.op (yq (y_ldb 0 (ev_t rfl) one_3 rfl rfl)) rfl rfl rfl ?_
    refine TL.op (yq (y_add (ev_t rfl) ev_c (by unfold In64; constructor <;> omega))) rfl rfl rfl ?_
    refine TL.op (yq (y_nilp (ev_t rfl))) rfl rfl rfl ?_
    refine TL.op (yq (y_fa (fa_75_1 gc) (ev_t rfl))) rfl rfl rfl ?_
    refine TL.storeB 0 (ev_t rfl) (ev_t rfl) one_3 rfl (by first | decide | simp) (fun w hw => rfl) ?_
    refine TL.nil ?_
    refine TN.seq ?_
    refine TC.seq ?_
    refine TC.region ?_
    refine TL.op (yq (y_move (ev_t rfl))) rfl rfl rfl ?_
    refine TL.op (yq (y_move (ev_t rfl))) rfl rfl rfl ?_
    refine TL.op (yq (y_nilp (ev_t rfl))) rfl rfl rfl ?_
    refine TL.op (yq (y_fa (fa_75_2 gc) (ev_t rfl))) rfl rfl rfl ?_
    refine TL.op (yq (y_ldb 0 (ev_t rfl) one_73 rfl rfl)) rfl rfl rfl ?_
    refine TL.op (yq (y_mulu (ev_t rfl) ev_c)) rfl rfl rfl ?_
    refine TL.op (yq (y_move (ev_t rfl))) rfl rfl rfl ?_
    refine TL.op (yq (y_conv_u64 (ev_t rfl) Try.underlying3 Try.underlying73 (by first | omega | (simp only [List.length_set, List.length_append, List.length_cons, List.length_nil, List.length_replicate]; omega) | (rw [sortI_length]; simp only [List.length_cons, List.length_nil]; omega)))) rfl rfl rfl ?_
    refine TL.op (yq (y_addu (ev_t rfl) (ev_t rfl))) rfl rfl rfl ?_
    refine TL.op (yq (y_addu (ev_t rfl) ev_c)) rfl rfl rfl ?_
    refine TL.op (yq (y_nilp (ev_t rfl))) rfl rfl rfl ?_
    refine TL.op (yq (y_fa (fa_75_2 gc) (ev_t rfl))) rfl rfl rfl ?_
    refine TL.storeB 0 (ev_t rfl) (ev_t rfl) one_73 rfl (by first | decide | simp) (fun w hw => rfl) ?_
    refine TL.nil ?_
    refine TN.seq ?_
    refine TC.seq ?_
    refine TC.seq ?_
    refine TC.regionQ (by kernel_rfl) (by kernel_rfl) dr_hp ?_
    refine TQ.op (yq (y_move (ev_t rfl))) rfl rfl rfl ?_
    refine TQ.op (yq (y_nilp (ev_t rfl))) rfl rfl rfl ?_
    refine TQ.op (yq (y_fa (fa_75_1 gc) (ev_t rfl))) rfl rfl rfl ?_
    refine TQ.op (yq (y_ldb 0 (ev_t rfl) one_3 rfl rfl)) rfl rfl rfl ?_
    refine TQ.op (yq (y_move (ev_t rfl))) rfl rfl rfl ?_
    refine TQ.op (yq (y_nilp (ev_t rfl))) rfl rfl rfl ?_
    refine TQ.op (yq (y_fa (fa_75_0 gc) (ev_t rfl))) rfl rfl rfl ?_
    refine TQ.op (yq (y_ldb 0 (ev_t rfl) one_22 rfl rfl)) rfl rfl rfl ?_
    refine TQ.op (yq (y_len (ev_t rfl) Try.underlying22 (fun w hw => ((ru_arg hcode) w hw).ln))) rfl rfl rfl ?_
    refine TQ.op (yq (y_leq (ev_t rfl) (ev_t rfl))) rfl rfl rfl ?_
    refine TQ.nil ?_
    refine TN.seq ?_
    refine TC.cond (b := decide (at_ + 1 ≤ (code.length : Int))) (ev_t rfl) (fun h15 => ?_) (fun h15 => ?_)
    · rw [bif_pos h15] at hF
      have q16 := (of_decide_eq_true h15)
      refine TC.seq ?_
      refine TC.region ?_
      refine TL.op (yq (y_move (ev_t rfl))) rfl rfl rfl ?_
      refine TL.op (yq (y_assign (ev_t rfl))) rfl rfl rfl ?_
      refine TL.nil ?_
      refine TN.seq ?_
      refine TC.ret ?_
      refine TN.thenR ?_
      subst hF
      exact TN.ret1 rfl (ev_t rfl) (fun w' hw => ⟨trivial, (), rfl, hw⟩)
    · rw [bif_neg h15] at hF
      have q16 := (of_decide_eq_false h15)
      refine TC.skip ?_
      refine TN.seq ?_
      refine TC.seq ?_
      refine TC.region ?_
      refine TL.op (yq (y_move (ev_t rfl))) rfl rfl rfl ?_
      refine TL.op (yq (y_nilp (ev_t rfl))) rfl rfl rfl ?_
      refine TL.op (yq (y_fa (fa_75_2 gc) (ev_t rfl))) rfl rfl rfl ?_
      refine TL.op (yq (y_ldb 0 (ev_t rfl) one_73 rfl rfl)) rfl rfl rfl ?_
      refine TL.op (yq (y_shr40 (ev_t rfl) ev_c (by omega))) rfl rfl rfl ?_
      refine TL.op (yq (y_and255 (ev_t rfl) ev_c (by omega) (by omega))) rfl rfl rfl ?_
      refine TL.op (yq (y_conv_i64 (ev_t rfl) Try.underlying73 Try.underlying3 (by first | omega | (simp only [List.length_set, List.length_append, List.length_cons, List.length_nil, List.length_replicate]; omega) | (rw [sortI_length]; simp only [List.length_cons, List.length_nil]; omega)))) rfl rfl rfl ?_
      refine TL.op (yq (y_assign (ev_t rfl))) rfl rfl rfl ?_
      refine TL.nil ?_
      refine TN.seq ?_
      refine TC.ret ?_
      subst hF
      exact TN.ret1 rfl (ev_t rfl) (fun w' hw => ⟨trivial, (), rfl, hw⟩)

set_option maxRecDepth 4000 in
set_option maxHeartbeats 1000000 in
theorem spec_l1Cur_pick_ok (w0 w : World) (fr : List Ck) (gc : Nat) (vc : Value) (code : List Int) (hcode : RB w0 vc code) (at_ : Int) (seed : Int) (hw : Hp w0 (.blk gc 75 [vc, (.int .i64 at_), (.int .u64 seed)] :: fr) w) (n : Int) (hp0 : 0 ≤ at_) (hp1 : at_ ≤ 3000000000) (hp2 : 0 ≤ seed) (hp3 : seed < 18446744073709551616) :
    Calls Try.prog 65 ([(.pointer (some ⟨gc, 0, none⟩)), (.int .i64 n)] : List Value).toArray w (fun e w' => True ∧ ∃ _i : Unit, e = .returned (.int .i64 ((F_spec_l1Cur_pick code at_ seed n).1)) ∧ Hp w0 ([.blk gc 75 [vc, (.int .i64 ((F_spec_l1Cur_pick code at_ seed n).2.1)), (.int .u64 ((F_spec_l1Cur_pick code at_ seed n).2.2))]] ++ fr) w') := by
  obtain ⟨rz, hF⟩ : ∃ rz, (F_spec_l1Cur_pick code at_ seed n) = rz := ⟨_, rfl⟩
  rw [hF]
  unfold F_spec_l1Cur_pick at hF
  have hlen_code := argB_len hcode
  refine calls_tcm Try.func65 rfl rfl rfl hw ?_
  change TC _ _ _ _ (Hp w0 ([.blk gc 75 [vc, (.int .i64 at_), (.int .u64 seed)]] ++ fr)) [(0, (.pointer (some ⟨gc, 0, none⟩))), (1, (.int .i64 n))]
  refine TC.seq ?_
  refine TC.region ?_
  refine TL.op (yq (y_assign ev_c)) rfl rfl rfl ?_
  refine TL.nil ?_
  refine TN.seq ?_
  refine TC.seq ?_
  refine TC.seq ?_
  refine TC.region ?_
  refine TL.op (yq (y_move (ev_t rfl))) rfl rfl rfl ?_
  refine TL.op (yq (y_leq (ev_t rfl) ev_c)) rfl rfl rfl ?_
  refine TL.nil ?_
  refine TN.seq ?_
  refine TC.cond (b := decide (n ≤ 1)) (ev_t rfl) (fun h9 => ?_) (fun h9 => ?_)
  · rw [bif_pos h9] at hF
    have q10 := (of_decide_eq_true h9)
    refine TC.seq ?_
    refine TC.region ?_
    refine TL.op (yq (y_assign ev_c)) rfl rfl rfl ?_
    refine TL.nil ?_
    refine TN.seq ?_
    refine TC.ret ?_
    refine TN.thenR ?_
    subst hF
    exact TN.ret1 rfl (ev_t rfl) (fun w' hw => ⟨trivial, (), rfl, hw⟩)
  · rw [bif_neg h9] at hF
    have q10 := (of_decide_eq_false h9)
    refine TC.skip ?_
    refine TN.seq ?_
    refine TC.seq ?_
    refine TC.region ?_
    refine TL.op (yq (y_move (ev_t rfl))) rfl rfl rfl ?_
    refine TL.callmX (ι := Unit) (p := True) 0 (vs := [(.pointer (some ⟨gc, 0, none⟩))]) (fun _ => (.int .i64 ((F_spec_l1Cur_next code at_ seed).1))) (fun _ => .blk gc 75 [vc, (.int .i64 (((F_spec_l1Cur_next code at_ seed).2).1)), (.int .u64 (((F_spec_l1Cur_next code at_ seed).2).2))]) (fun _ => []) en_116 ⟨(ev_t rfl), trivial⟩ rfl rfl (fun w1 _ hw => spec_l1Cur_next_ok w0 w1 _ gc vc code hcode at_ seed hw (by first | assumption | omega | grind) (by first | assumption | omega | grind) (by first | assumption | omega | grind) (by first | assumption | omega | grind)) (fun hpo11 _ => ?_)
    replace hpo11 := next_post hcode.2 code at_ seed
    obtain ⟨q3_1, hq12⟩ : ∃ q, (F_spec_l1Cur_next code at_ seed) = q := ⟨_, rfl⟩
    rw [hq12] at hF hpo11 ⊢
    try dsimp only at hF
    refine TL.op (yq (y_assign (ev_t rfl))) rfl rfl rfl ?_
    refine TL.nil ?_
    refine TN.seq ?_
    refine TC.seq ?_
    refine TC.seq ?_
    refine TC.region ?_
    refine TL.op (yq (y_move (ev_t rfl))) rfl rfl rfl ?_
    refine TL.op (yq (y_gtr (ev_t rfl) ev_c)) rfl rfl rfl ?_
    refine TL.nil ?_
    refine TN.seq ?_
    refine TC.cond (b := decide (200 < n)) (ev_t rfl) (fun h13 => ?_) (fun h13 => ?_)
    · rw [bif_pos h13] at hF
      have q14 := (of_decide_eq_true h13)
      refine TC.region ?_
      refine TL.op (yq (y_move (ev_t rfl))) rfl rfl rfl ?_
      refine TL.op (yq (y_mul (ev_t rfl) ev_c (by unfold In64; constructor <;> omega))) rfl rfl rfl ?_
      refine TL.op (yq (y_move (ev_t rfl))) rfl rfl rfl ?_
      refine TL.callmX (ι := Unit) (p := True) 0 (vs := [(.pointer (some ⟨gc, 0, none⟩))]) (fun _ => (.int .i64 ((F_spec_l1Cur_next code ((q3_1.2).1) ((q3_1.2).2)).1))) (fun _ => .blk gc 75 [vc, (.int .i64 (((F_spec_l1Cur_next code ((q3_1.2).1) ((q3_1.2).2)).2).1)), (.int .u64 (((F_spec_l1Cur_next code ((q3_1.2).1) ((q3_1.2).2)).2).2))]) (fun _ => []) en_116 ⟨(ev_t rfl), trivial⟩ rfl rfl (fun w1 _ hw => spec_l1Cur_next_ok w0 w1 _ gc vc code hcode ((q3_1.2).1) ((q3_1.2).2) hw (by first | assumption | omega | grind) (by first | assumption | omega | grind) (by first | assumption | omega | grind) (by first | assumption | omega | grind)) (fun hpo15 _ => ?_)
      replace hpo15 := next_post hcode.2 code ((q3_1.2).1) ((q3_1.2).2)
      obtain ⟨q5_3, hq16⟩ : ∃ q, (F_spec_l1Cur_next code ((q3_1.2).1) ((q3_1.2).2)) = q := ⟨_, rfl⟩
      rw [hq16] at hF hpo15 ⊢
      try dsimp only at hF
      refine TL.op (yq (y_add (ev_t rfl) (ev_t rfl) (by unfold In64; constructor <;> omega))) rfl rfl rfl ?_
      refine TL.op (yq (y_assign (ev_t rfl))) rfl rfl rfl ?_
      refine TL.nil ?_
      refine TN.seq ?_
      refine TC.seq ?_
      refine TC.region ?_
      refine TL.op (yq (y_move (ev_t rfl))) rfl rfl rfl ?_
      refine TL.op (yq (y_move (ev_t rfl))) rfl rfl rfl ?_
      refine TL.op (yq (y_rem (ev_t rfl) (ev_t rfl) (by first | omega | (simp only [Int.natCast_ediv] at *; omega)) (by first | omega | (simp only [Int.natCast_ediv] at *; omega)))) rfl rfl rfl ?_
      refine TL.op (yq (y_assign (ev_t rfl))) rfl rfl rfl ?_
      refine TL.nil ?_
      refine TN.seq ?_
      refine TC.ret ?_
      subst hF
      exact TN.ret1 rfl (ev_t rfl) (fun w' hw => ⟨trivial, (), rfl, hw⟩)
    · rw [bif_neg h13] at hF
      have q14 := (of_decide_eq_false h13)
      refine TC.skip ?_
      refine TN.seq ?_
      refine TC.seq ?_
      refine TC.region ?_
      refine TL.op (yq (y_move (ev_t rfl))) rfl rfl rfl ?_
      refine TL.op (yq (y_move (ev_t rfl))) rfl rfl rfl ?_
      refine TL.op (yq (y_rem (ev_t rfl) (ev_t rfl) (by first | omega | (simp only [Int.natCast_ediv] at *; omega)) (by first | omega | (simp only [Int.natCast_ediv] at *; omega)))) rfl rfl rfl ?_
      refine TL.op (yq (y_assign (ev_t rfl))) rfl rfl rfl ?_
      refine TL.nil ?_
      refine TN.seq ?_
      refine TC.ret ?_
      subst hF
      exact TN.ret1 rfl (ev_t rfl) (fun w' hw => ⟨trivial, (), rfl, hw⟩)

set_option maxRecDepth 4000 in
set_option maxHeartbeats 1000000 in
theorem spec_l1Cur_one_ok (w0 w : World) (fr : List Ck) (gc : Nat) (vc : Value) (code : List Int) (hcode : RB w0 vc code) (at_ : Int) (seed : Int) (hw : Hp w0 (.blk gc 75 [vc, (.int .i64 at_), (.int .u64 seed)] :: fr) w) (n : Int) (hp0 : 0 ≤ at_) (hp1 : at_ ≤ 2000000000) (hp2 : 0 ≤ seed) (hp3 : seed < 18446744073709551616) :
    Calls Try.prog 66 ([(.pointer (some ⟨gc, 0, none⟩)), (.int .i64 n)] : List Value).toArray w (fun e w' => True ∧ ∃ _i : Unit, e = .returned (.bool ((F_spec_l1Cur_one code at_ seed n).1)) ∧ Hp w0 ([.blk gc 75 [vc, (.int .i64 ((F_spec_l1Cur_one code at_ seed n).2.1)), (.int .u64 ((F_spec_l1Cur_one code at_ seed n).2.2))]] ++ fr) w') := by
  obtain ⟨rz, hF⟩ : ∃ rz, (F_spec_l1Cur_one code at_ seed n) = rz := ⟨_, rfl⟩
  rw [hF]
  unfold F_spec_l1Cur_one at hF
  have hlen_code := argB_len hcode
  refine calls_tcm Try.func66 rfl rfl rfl hw ?_
  change TC _ _ _ _ (Hp w0 ([.blk gc 75 [vc, (.int .i64 at_), (.int .u64 seed)]] ++ fr)) [(0, (.pointer (some ⟨gc, 0, none⟩))), (1, (.int .i64 n))]
  refine TC.seq ?_
  refine TC.region ?_
  refine TL.op (yq (y_assign ev_c)) rfl rfl rfl ?_
  refine TL.nil ?_
  refine TN.seq ?_
  refine TC.seq ?_
  refine TC.region ?_
  refine TL.op (yq (y_move (ev_t rfl))) rfl rfl rfl ?_
  refine TL.op (yq (y_move (ev_t rfl))) rfl rfl rfl ?_
  refine TL.callmX (ι := Unit) (p := True) 0 (vs := [(.pointer (some ⟨gc, 0, none⟩)), (.int .i64 n)]) (fun _ => (.int .i64 ((F_spec_l1Cur_pick code at_ seed n).1))) (fun _ => .blk gc 75 [vc, (.int .i64 (((F_spec_l1Cur_pick code at_ seed n).2).1)), (.int .u64 (((F_spec_l1Cur_pick code at_ seed n).2).2))]) (fun _ => []) en_65 ⟨(ev_t rfl), (ev_t rfl), trivial⟩ rfl rfl (fun w1 _ hw => spec_l1Cur_pick_ok w0 w1 _ gc vc code hcode at_ seed hw n (by first | assumption | omega | grind) (by first | assumption | omega | grind) (by first | assumption | omega | grind) (by first | assumption | omega | grind)) (fun hpo3 _ => ?_)
  replace hpo3 := pick_post hcode.2 code at_ seed n (by omega)
  obtain ⟨q1_2, hq4⟩ : ∃ q, (F_spec_l1Cur_pick code at_ seed n) = q := ⟨_, rfl⟩
  rw [hq4] at hF hpo3 ⊢
  try dsimp only at hF
  refine TL.op (yq (y_eql (ev_t rfl) ev_c)) rfl rfl rfl ?_
  refine TL.op (yq (y_assign (ev_t rfl))) rfl rfl rfl ?_
  refine TL.nil ?_
  refine TN.seq ?_
  refine TC.ret ?_
  subst hF
  exact TN.ret1 rfl (ev_t rfl) (fun w' hw => ⟨trivial, (), rfl, hw⟩)

set_option maxRecDepth 4000 in
set_option maxHeartbeats 1000000 in
theorem spec_l1Cur_among_ok (w0 w : World) (fr : List Ck) (gc : Nat) (vc : Value) (code : List Int) (hcode : RB w0 vc code) (at_ : Int) (seed : Int) (hw : Hp w0 (.blk gc 75 [vc, (.int .i64 at_), (.int .u64 seed)] :: fr) w) (vlist : Value) (list : List Int) (hlist : ∀ (w' : World) (c : Ck), Hp w0 (c :: fr) w' → RI w' vlist list) (hp0 : 0 ≤ at_) (hp1 : at_ ≤ 1900000000) (hp2 : 0 ≤ seed) (hp3 : seed < 18446744073709551616) (hp4 : 1 ≤ list.length) (hp5 : list.length ≤ 1000) :
    Calls Try.prog 76 ([(.pointer (some ⟨gc, 0, none⟩)), vlist] : List Value).toArray w (fun e w' => (at_ ≤ ((F_spec_l1Cur_among code at_ seed list).2).1 ∧ ((F_spec_l1Cur_among code at_ seed list).2).1 ≤ at_ + 2 ∧ 0 ≤ ((F_spec_l1Cur_among code at_ seed list).2).2 ∧ ((F_spec_l1Cur_among code at_ seed list).2).2 < 18446744073709551616) ∧ ∃ _i : Unit, e = .returned (.int .i64 ((F_spec_l1Cur_among code at_ seed list).1)) ∧ Hp w0 ([.blk gc 75 [vc, (.int .i64 ((F_spec_l1Cur_among code at_ seed list).2.1)), (.int .u64 ((F_spec_l1Cur_among code at_ seed list).2.2))]] ++ fr) w') := by
  obtain ⟨rz, hF⟩ : ∃ rz, (F_spec_l1Cur_among code at_ seed list) = rz := ⟨_, rfl⟩
  rw [hF]
  unfold F_spec_l1Cur_among at hF
  have hlen_code := argB_len hcode
  have hlen_list := arg_len (hlist w _ hw)
  refine calls_tcm Try.func76 rfl rfl rfl hw ?_
  change TC _ _ _ _ (Hp w0 ([.blk gc 75 [vc, (.int .i64 at_), (.int .u64 seed)]] ++ fr)) [(0, (.pointer (some ⟨gc, 0, none⟩))), (1, vlist)]
  refine TC.seq ?_
  refine TC.region ?_
  refine TL.op (yq (y_assign ev_c)) rfl rfl rfl ?_
  refine TL.nil ?_
  refine TN.seq ?_
  refine TC.seq ?_
  refine TC.region ?_
  refine TL.op (yq (y_move (ev_t rfl))) rfl rfl rfl ?_
  refine TL.op (yq (y_move (ev_t rfl))) rfl rfl rfl ?_
  refine TL.op (yq (y_move (ev_t rfl))) rfl rfl rfl ?_
  refine TL.op (yq (y_len (ev_t rfl) Try.underlying34 (fun w hw => ((fun w hw => hlist w _ (hw)) w hw).ln))) rfl rfl rfl ?_
  refine TL.callmX (ι := Unit) (p := True) 0 (vs := [(.pointer (some ⟨gc, 0, none⟩)), (.int .i64 (list.length : Int))]) (fun _ => (.int .i64 ((F_spec_l1Cur_pick code at_ seed (list.length : Int)).1))) (fun _ => .blk gc 75 [vc, (.int .i64 (((F_spec_l1Cur_pick code at_ seed (list.length : Int)).2).1)), (.int .u64 (((F_spec_l1Cur_pick code at_ seed (list.length : Int)).2).2))]) (fun _ => []) en_65 ⟨(ev_t rfl), (ev_t rfl), trivial⟩ rfl rfl (fun w1 _ hw => spec_l1Cur_pick_ok w0 w1 _ gc vc code hcode at_ seed hw (list.length : Int) (by first | assumption | omega | grind) (by first | assumption | omega | grind) (by first | assumption | omega | grind) (by first | assumption | omega | grind)) (fun hpo4 _ => ?_)
  replace hpo4 := pick_post hcode.2 code at_ seed (list.length : Int) (by omega)
  obtain ⟨q1_4, hq5⟩ : ∃ q, (F_spec_l1Cur_pick code at_ seed (list.length : Int)) = q := ⟨_, rfl⟩
  rw [hq5] at hF hpo4 ⊢
  try dsimp only at hF
  have hb6 : (q1_4.1).toNat < list.length := (by first | omega | (simp only [List.length_set, List.length_append, List.length_cons, List.length_nil, List.length_replicate]; omega) | (rw [sortI_length]; simp only [List.length_cons, List.length_nil]; omega))
  refine TL.op (yq (y_idx (k := (q1_4.1).toNat) (ev_t rfl) (ev_t rfl) (by first | omega | simp) slT_34 (fun w hw => hlist w _ (hw)) hb6)) rfl rfl rfl ?_
  refine TL.op (yq (y_ldi (ev_t rfl) one_3 (fun w hw => hlist w _ (hw)) hb6)) rfl rfl rfl ?_
  refine TL.op (yq (y_assign (ev_t rfl))) rfl rfl rfl ?_
  refine TL.nil ?_
  refine TN.seq ?_
  refine TC.ret ?_
  subst hF
  exact TN.ret1 rfl (ev_t rfl) (fun w' hw => ⟨(by dsimp only; omega), (), rfl, hw⟩)

set_option maxRecDepth 4000 in
set_option maxHeartbeats 1000000 in
theorem spec_l1Cur_items_ok (w0 w : World) (fr : List Ck) (gc : Nat) (vc : Value) (code : List Int) (hcode : RB w0 vc code) (at_ : Int) (seed : Int) (hw : Hp w0 (.blk gc 75 [vc, (.int .i64 at_), (.int .u64 seed)] :: fr) w) (hp0 : 0 ≤ at_) (hp1 : at_ ≤ 1800000000) (hp2 : 0 ≤ seed) (hp3 : seed < 18446744073709551616) :
    Calls Try.prog 73 ([(.pointer (some ⟨gc, 0, none⟩))] : List Value).toArray w (fun e w' => (at_ ≤ ((F_spec_l1Cur_items code at_ seed).2).1 ∧ ((F_spec_l1Cur_items code at_ seed).2).1 ≤ at_ + 6 ∧ 0 ≤ ((F_spec_l1Cur_items code at_ seed).2).2 ∧ ((F_spec_l1Cur_items code at_ seed).2).2 < 18446744073709551616) ∧ ∃ _i : Unit, e = .returned (.int .i64 ((F_spec_l1Cur_items code at_ seed).1)) ∧ Hp w0 ([.blk gc 75 [vc, (.int .i64 ((F_spec_l1Cur_items code at_ seed).2.1)), (.int .u64 ((F_spec_l1Cur_items code at_ seed).2.2))]] ++ fr) w') := by
  obtain ⟨rz, hF⟩ : ∃ rz, (F_spec_l1Cur_items code at_ seed) = rz := ⟨_, rfl⟩
  rw [hF]
  unfold F_spec_l1Cur_items at hF
  have hlen_code := argB_len hcode
  refine calls_tcm Try.func73 rfl rfl rfl hw ?_
  change TC _ _ _ _ (Hp w0 ([.blk gc 75 [vc, (.int .i64 at_), (.int .u64 seed)]] ++ fr)) [(0, (.pointer (some ⟨gc, 0, none⟩)))]
  refine TC.seq ?_
  refine TC.region ?_
  refine TL.op (yq (y_assign ev_c)) rfl rfl rfl ?_
  refine TL.nil ?_
  refine TN.seq ?_
  refine TC.seq ?_
  refine TC.region ?_
  refine TL.op (yq (y_move (ev_t rfl))) rfl rfl rfl ?_
  refine TL.buildI (zs := [.const (.int .i64 3), .const (.int .i64 4), .const (.int .i64 5), .const (.int .i64 2), .const (.int .i64 6), .const (.int .i64 8), .const (.int .i64 1), .const (.int .i64 0), .const (.int .i64 9), .const (.int .i64 (-1))]) (qs := [3, 4, 5, 2, 6, 8, 1, 0, 9, -1]) slT_34 rfl ⟨ev_c, ev_c, ev_c, ev_c, ev_c, ev_c, ev_c, ev_c, ev_c, ev_c, trivial⟩ rfl (by decide) rfl (fun v1_1 => ?_)
  refine TL.op (yq (y_move (ev_t rfl))) rfl rfl rfl ?_
  refine TL.callmX (ι := Unit) (p := True) 1 (vs := [(.pointer (some ⟨gc, 0, none⟩)), (.int .i64 24)]) (fun _ => (.int .i64 ((F_spec_l1Cur_pick code at_ seed 24).1))) (fun _ => .blk gc 75 [vc, (.int .i64 (((F_spec_l1Cur_pick code at_ seed 24).2).1)), (.int .u64 (((F_spec_l1Cur_pick code at_ seed 24).2).2))]) (fun _ => []) en_65 ⟨(ev_t rfl), ev_c, trivial⟩ rfl rfl (fun w1 _ hw => spec_l1Cur_pick_ok w0 w1 _ gc vc code hcode at_ seed hw 24 (by first | assumption | omega | grind) (by first | assumption | omega | grind) (by first | assumption | omega | grind) (by first | assumption | omega | grind)) (fun hpo7 _ => ?_)
  replace hpo7 := pick_post hcode.2 code at_ seed 24 (by omega)
  obtain ⟨q1_3, hq8⟩ : ∃ q, (F_spec_l1Cur_pick code at_ seed 24) = q := ⟨_, rfl⟩
  rw [hq8] at hF hpo7 ⊢
  try dsimp only at hF
  refine TL.op (yq (y_quo (ev_t rfl) ev_c (by first | omega | (simp only [Int.natCast_ediv] at *; omega)) (by first | omega | (simp only [Int.natCast_ediv] at *; omega)))) rfl rfl rfl ?_
  refine TL.op (yq (y_add ev_c (ev_t rfl) (by unfold In64; constructor <;> omega))) rfl rfl rfl ?_
  have hs9 : 0 ≤ (7 + (q1_3.1 / 8)).toNat := (by first | omega | (simp only [List.length_set, List.length_append, List.length_cons, List.length_nil, List.length_replicate]; omega) | (rw [sortI_length]; simp only [List.length_cons, List.length_nil]; omega))
  have hs10 : (7 + (q1_3.1 / 8)).toNat ≤ [3, 4, 5, 2, 6, 8, 1, 0, 9, -1].length := (by first | omega | (simp only [List.length_set, List.length_append, List.length_cons, List.length_nil, List.length_replicate]; omega) | (rw [sortI_length]; simp only [List.length_cons, List.length_nil]; omega))
  refine TL.op (yq (y_slice_hi (ev_t rfl) (ev_t rfl) (hi := (7 + (q1_3.1 / 8)).toNat) (by omega) slT_34 (ri_row 0 rfl) hs10)) rfl rfl rfl ?_
  refine TL.callmX (ι := Unit) (p := ((q1_3.2).1 ≤ ((F_spec_l1Cur_among code ((q1_3.2).1) ((q1_3.2).2) ((([3, 4, 5, 2, 6, 8, 1, 0, 9, -1]).take ((7 + (q1_3.1 / 8)).toNat)).drop 0)).2).1 ∧ ((F_spec_l1Cur_among code ((q1_3.2).1) ((q1_3.2).2) ((([3, 4, 5, 2, 6, 8, 1, 0, 9, -1]).take ((7 + (q1_3.1 / 8)).toNat)).drop 0)).2).1 ≤ ((q1_3.2).1) + 2 ∧ 0 ≤ ((F_spec_l1Cur_among code ((q1_3.2).1) ((q1_3.2).2) ((([3, 4, 5, 2, 6, 8, 1, 0, 9, -1]).take ((7 + (q1_3.1 / 8)).toNat)).drop 0)).2).2 ∧ ((F_spec_l1Cur_among code ((q1_3.2).1) ((q1_3.2).2) ((([3, 4, 5, 2, 6, 8, 1, 0, 9, -1]).take ((7 + (q1_3.1 / 8)).toNat)).drop 0)).2).2 < 18446744073709551616)) 1 (vs := [(.pointer (some ⟨gc, 0, none⟩)), (resl v1_1 0 ((7 + (q1_3.1 / 8)).toNat) 1)]) (fun _ => (.int .i64 ((F_spec_l1Cur_among code ((q1_3.2).1) ((q1_3.2).2) ((([3, 4, 5, 2, 6, 8, 1, 0, 9, -1]).take ((7 + (q1_3.1 / 8)).toNat)).drop 0)).1))) (fun _ => .blk gc 75 [vc, (.int .i64 (((F_spec_l1Cur_among code ((q1_3.2).1) ((q1_3.2).2) ((([3, 4, 5, 2, 6, 8, 1, 0, 9, -1]).take ((7 + (q1_3.1 / 8)).toNat)).drop 0)).2).1)), (.int .u64 (((F_spec_l1Cur_among code ((q1_3.2).1) ((q1_3.2).2) ((([3, 4, 5, 2, 6, 8, 1, 0, 9, -1]).take ((7 + (q1_3.1 / 8)).toNat)).drop 0)).2).2))]) (fun _ => []) en_76 ⟨(ev_t rfl), (ev_t rfl), trivial⟩ rfl rfl (fun w1 _ hw => spec_l1Cur_among_ok w0 w1 _ gc vc code hcode ((q1_3.2).1) ((q1_3.2).2) hw (resl v1_1 0 ((7 + (q1_3.1 / 8)).toNat) 1) ((([3, 4, 5, 2, 6, 8, 1, 0, 9, -1]).take ((7 + (q1_3.1 / 8)).toNat)).drop 0) (fun w2 _ hw2 => (fun w hw => ri_resl ((ri_row 1 rfl) w hw) hs9 hs10) w2 hw2) (by first | assumption | omega | decide | (simp only [List.length_cons, List.length_nil]; omega) | grind) (by first | assumption | omega | decide | (simp only [List.length_cons, List.length_nil]; omega) | grind) (by first | assumption | omega | decide | (simp only [List.length_cons, List.length_nil]; omega) | grind) (by first | assumption | omega | decide | (simp only [List.length_cons, List.length_nil]; omega) | grind) (by first | assumption | omega | decide | (simp only [List.length_cons, List.length_nil]; omega) | grind) (by first | assumption | omega | decide | (simp only [List.length_cons, List.length_nil]; omega) | grind)) (fun hpo11 _ => ?_)
  obtain ⟨q1_7, hq12⟩ : ∃ q, (F_spec_l1Cur_among code ((q1_3.2).1) ((q1_3.2).2) ((([3, 4, 5, 2, 6, 8, 1, 0, 9, -1]).take ((7 + (q1_3.1 / 8)).toNat)).drop 0)) = q := ⟨_, rfl⟩
  rw [hq12] at hF hpo11 ⊢
  try dsimp only at hF
  refine TL.op (yq (y_assign (ev_t rfl))) rfl rfl rfl ?_
  refine TL.nil ?_
  refine TN.seq ?_
  refine TC.ret ?_
  subst hF
  exact TN.ret1 rfl (ev_t rfl) (fun w' hw => ⟨(by dsimp only; omega), (), rfl, Hp.sublist hw (.cons _ (.cons_cons _ (List.Sublist.refl _)))⟩)

set_option maxRecDepth 4000 in
set_option maxHeartbeats 1000000 in
theorem spec_l1Cur_requests_ok (w0 w : World) (fr : List Ck) (gc : Nat) (vc : Value) (code : List Int) (hcode : RB w0 vc code) (at_ : Int) (seed : Int) (hw : Hp w0 (.blk gc 75 [vc, (.int .i64 at_), (.int .u64 seed)] :: fr) w) (n : Int) (hp0 : 0 ≤ at_) (hp1 : at_ ≤ 1500000000) (hp2 : 0 ≤ seed) (hp3 : seed < 18446744073709551616) :
    Calls Try.prog 121 ([(.pointer (some ⟨gc, 0, none⟩)), (.int .i64 n)] : List Value).toArray w (fun e w' => (at_ ≤ ((F_spec_l1Cur_requests code at_ seed n).2).1 ∧ ((F_spec_l1Cur_requests code at_ seed n).2).1 ≤ at_ + 2000 ∧ 0 ≤ ((F_spec_l1Cur_requests code at_ seed n).2).2 ∧ ((F_spec_l1Cur_requests code at_ seed n).2).2 < 18446744073709551616 ∧ ((F_spec_l1Cur_requests code at_ seed n)).1.length ≤ 70) ∧ ∃ i : Value, e = .returned i ∧ Hp w0 ([.blk gc 75 [vc, (.int .i64 ((F_spec_l1Cur_requests code at_ seed n).2.1)), (.int .u64 ((F_spec_l1Cur_requests code at_ seed n).2.2))], rowI 3 i ((F_spec_l1Cur_requests code at_ seed n).1)] ++ fr) w') := by
  obtain ⟨rz, hF⟩ : ∃ rz, (F_spec_l1Cur_requests code at_ seed n) = rz := ⟨_, rfl⟩
  rw [hF]
  unfold F_spec_l1Cur_requests at hF
  have hmb := most_bd n
  have hlen_code := argB_len hcode
  refine calls_tcm Try.func121 rfl rfl rfl hw ?_
  change TC _ _ _ _ (Hp w0 ([.blk gc 75 [vc, (.int .i64 at_), (.int .u64 seed)]] ++ fr)) [(0, (.pointer (some ⟨gc, 0, none⟩))), (1, (.int .i64 n))]
  refine TC.seq ?_
  refine TC.region ?_
  refine TL.op (yq (y_assign ev_c)) rfl rfl rfl ?_
  refine TL.nil ?_
  refine TN.seq ?_
  refine TC.seq ?_
  refine TC.region ?_
  refine TL.buildI (zs := []) (qs := []) slT_34 rfl trivial rfl (by decide) rfl (fun v1_0 => ?_)
  refine TL.op (yq (y_move (ev_t rfl))) rfl rfl rfl ?_
  refine TL.op (y_call (vs := [(.int .i64 n), (.int .i64 8)]) (v := (.int .i64 (F_spec_l1Least n 8))) en_75 ⟨(ev_t rfl), ev_c, trivial⟩ (fun w hw => spec_l1Least_ok w n 8)) rfl rfl rfl ?_
  refine TL.op (y_call (vs := [(.int .i64 1), (.int .i64 (F_spec_l1Least n 8))]) (v := (.int .i64 (F_spec_l1Most 1 (F_spec_l1Least n 8)))) en_74 ⟨ev_c, (ev_t rfl), trivial⟩ (fun w hw => spec_l1Most_ok w 1 (F_spec_l1Least n 8))) rfl rfl rfl ?_
  refine TL.op (yq (y_assign (ev_t rfl))) rfl rfl rfl ?_
  refine TL.op (yq (y_assign (ev_t rfl))) rfl rfl rfl ?_
  refine TL.nil ?_
  refine TN.seq ?_
  refine TC.seq ?_
  refine TC.region ?_
  refine TL.op (yq (y_move (ev_t rfl))) rfl rfl rfl ?_
  refine TL.buildI (zs := [.const (.int .i64 6), .const (.int .i64 9), .const (.int .i64 12), .const (.int .i64 4), .const (.int .i64 16), .const (.int .i64 2), .const (.int .i64 24), .const (.int .i64 1), .const (.int .i64 0)]) (qs := [6, 9, 12, 4, 16, 2, 24, 1, 0]) slT_34 rfl ⟨ev_c, ev_c, ev_c, ev_c, ev_c, ev_c, ev_c, ev_c, ev_c, trivial⟩ rfl (by decide) rfl (fun v2_1 => ?_)
  refine TL.callmX (ι := Unit) (p := (at_ ≤ ((F_spec_l1Cur_among code at_ seed ([6, 9, 12, 4, 16, 2, 24, 1, 0])).2).1 ∧ ((F_spec_l1Cur_among code at_ seed ([6, 9, 12, 4, 16, 2, 24, 1, 0])).2).1 ≤ at_ + 2 ∧ 0 ≤ ((F_spec_l1Cur_among code at_ seed ([6, 9, 12, 4, 16, 2, 24, 1, 0])).2).2 ∧ ((F_spec_l1Cur_among code at_ seed ([6, 9, 12, 4, 16, 2, 24, 1, 0])).2).2 < 18446744073709551616)) 2 (vs := [(.pointer (some ⟨gc, 0, none⟩)), v2_1]) (fun _ => (.int .i64 ((F_spec_l1Cur_among code at_ seed ([6, 9, 12, 4, 16, 2, 24, 1, 0])).1))) (fun _ => .blk gc 75 [vc, (.int .i64 (((F_spec_l1Cur_among code at_ seed ([6, 9, 12, 4, 16, 2, 24, 1, 0])).2).1)), (.int .u64 (((F_spec_l1Cur_among code at_ seed ([6, 9, 12, 4, 16, 2, 24, 1, 0])).2).2))]) (fun _ => []) en_76 ⟨(ev_t rfl), (ev_t rfl), trivial⟩ rfl rfl (fun w1 _ hw => spec_l1Cur_among_ok w0 w1 _ gc vc code hcode at_ seed hw v2_1 ([6, 9, 12, 4, 16, 2, 24, 1, 0]) (fun w2 _ hw2 => (ri_row 1 rfl) w2 hw2) (by first | assumption | omega | decide | (simp only [List.length_cons, List.length_nil]; omega) | grind) (by first | assumption | omega | decide | (simp only [List.length_cons, List.length_nil]; omega) | grind) (by first | assumption | omega | decide | (simp only [List.length_cons, List.length_nil]; omega) | grind) (by first | assumption | omega | decide | (simp only [List.length_cons, List.length_nil]; omega) | grind) (by first | assumption | omega | decide | (simp only [List.length_cons, List.length_nil]; omega) | grind) (by first | assumption | omega | decide | (simp only [List.length_cons, List.length_nil]; omega) | grind)) (fun hpo132 _ => ?_)
  have hr134 := among_rng hcode.2 code at_ seed ([6, 9, 12, 4, 16, 2, 24, 1, 0]) (0) (24) (by decide) (by decide) (by omega)
  obtain ⟨q2_2, hq133⟩ : ∃ q, (F_spec_l1Cur_among code at_ seed ([6, 9, 12, 4, 16, 2, 24, 1, 0])) = q := ⟨_, rfl⟩
  rw [hq133] at hF hpo132 hr134 ⊢
  try dsimp only at hF
  refine TL.op (yq (y_assign (ev_t rfl))) rfl rfl rfl ?_
  refine TL.nil ?_
  refine TN.seq ?_
  refine TC.seq ?_
  refine TC.region ?_
  refine TL.op (yq (y_move (ev_t rfl))) rfl rfl rfl ?_
  refine TL.callmX (ι := Unit) (p := True) 2 (vs := [(.pointer (some ⟨gc, 0, none⟩)), (.int .i64 3)]) (fun _ => (.int .i64 ((F_spec_l1Cur_pick code ((q2_2.2).1) ((q2_2.2).2) 3).1))) (fun _ => .blk gc 75 [vc, (.int .i64 (((F_spec_l1Cur_pick code ((q2_2.2).1) ((q2_2.2).2) 3).2).1)), (.int .u64 (((F_spec_l1Cur_pick code ((q2_2.2).1) ((q2_2.2).2) 3).2).2))]) (fun _ => []) en_65 ⟨(ev_t rfl), ev_c, trivial⟩ rfl rfl (fun w1 _ hw => spec_l1Cur_pick_ok w0 w1 _ gc vc code hcode ((q2_2.2).1) ((q2_2.2).2) hw 3 (by first | assumption | omega | grind) (by first | assumption | omega | grind) (by first | assumption | omega | grind) (by first | assumption | omega | grind)) (fun hpo135 _ => ?_)
  replace hpo135 := pick_post hcode.2 code ((q2_2.2).1) ((q2_2.2).2) 3 (by omega)
  obtain ⟨q3_1, hq136⟩ : ∃ q, (F_spec_l1Cur_pick code ((q2_2.2).1) ((q2_2.2).2) 3) = q := ⟨_, rfl⟩
  rw [hq136] at hF hpo135 ⊢
  try dsimp only at hF
  refine TL.op (yq (y_assign (ev_t rfl))) rfl rfl rfl ?_
  refine TL.nil ?_
  refine TN.seq ?_
  refine TC.seq ?_
  refine TC.block ?_
  obtain ⟨c137, hc138⟩ : ∃ c, F_spec_l1Cur_requests_L1 code n q2_2 q3_1 (((q2_2.1).toNat - ([] : List Int).length) + 1) (([] : List Int), ((q3_1.2).1), ((q3_1.2).2)) = c := ⟨_, rfl⟩
  rw [hc138] at hF
  refine TC.loop (ι := Nat × List Int × Int × Int × Value) (fun (fu1, k5_1, zP_1_1, zP_2_1, vk5_1) => [(0, (.pointer (some ⟨gc, 0, none⟩))), (1, (.int .i64 n)), (5, vk5_1), (6, (.int .i64 (F_spec_l1Most 1 (F_spec_l1Least n 8)))), (7, (.int .i64 q2_2.1)), (8, (.int .i64 q3_1.1))]) (fun (fu1, k5_1, zP_1_1, zP_2_1, vk5_1) => Hp w0 ([rowI 3 vk5_1 k5_1, .blk gc 75 [vc, (.int .i64 zP_1_1), (.int .u64 zP_2_1)]] ++ fr)) (fun (fu1, k5_1, zP_1_1, zP_2_1, vk5_1) => (at_ ≤ zP_1_1) ∧ (zP_1_1 ≤ at_ + 10 + 6 * (k5_1.length : Int)) ∧ (0 ≤ zP_2_1) ∧ (zP_2_1 < 18446744073709551616) ∧ (k5_1.length ≤ 24) ∧ (∀ i : Nat, 0 ≤ k5_1.getD i 0 ∧ k5_1.getD i 0 ≤ 8) ∧ (q2_2.1).toNat - k5_1.length < fu1 ∧ F_spec_l1Cur_requests_L1 code n q2_2 q3_1 fu1 (k5_1, zP_1_1, zP_2_1) = c137) (fun (fu1, k5_1, zP_1_1, zP_2_1, vk5_1) => fu1) (((q2_2.1).toNat - ([] : List Int).length) + 1, ([] : List Int), (q3_1.2).1, (q3_1.2).2, v1_0) ⟨(by first | omega | (simp [-List.getD_eq_getElem?_getD] <;> omega)), (by first | omega | (simp [-List.getD_eq_getElem?_getD] <;> omega)), (by first | omega | (simp [-List.getD_eq_getElem?_getD] <;> omega)), (by first | omega | (simp [-List.getD_eq_getElem?_getD] <;> omega)), (by first | omega | (simp [-List.getD_eq_getElem?_getD] <;> omega)), (fun i => by simp), (by omega), hc138⟩ ⟨rfl, rfl, rfl, rfl, rfl, rfl, trivial⟩ (fun w hw => Hp.sublist hw (.cons _ (.cons_cons _ (.cons_cons _ (List.Sublist.refl _))))) ?_
  rintro ⟨fu1, k5_1, zP_1_1, zP_2_1, vk5_1⟩ hJ1
  obtain ⟨hi1_0, hi1_1, hi1_2, hi1_3, hi1_4, hi1_5, hmu1, hL1⟩ : (at_ ≤ zP_1_1) ∧ (zP_1_1 ≤ at_ + 10 + 6 * (k5_1.length : Int)) ∧ (0 ≤ zP_2_1) ∧ (zP_2_1 < 18446744073709551616) ∧ (k5_1.length ≤ 24) ∧ (∀ i : Nat, 0 ≤ k5_1.getD i 0 ∧ k5_1.getD i 0 ≤ 8) ∧ (q2_2.1).toNat - k5_1.length < fu1 ∧ F_spec_l1Cur_requests_L1 code n q2_2 q3_1 fu1 (k5_1, zP_1_1, zP_2_1) = c137 := hJ1
  change TC _ _ _ _ (Hp w0 ([rowI 3 vk5_1 k5_1, .blk gc 75 [vc, (.int .i64 zP_1_1), (.int .u64 zP_2_1)]] ++ fr)) [(0, (.pointer (some ⟨gc, 0, none⟩))), (1, (.int .i64 n)), (5, vk5_1), (6, (.int .i64 (F_spec_l1Most 1 (F_spec_l1Least n 8)))), (7, (.int .i64 q2_2.1)), (8, (.int .i64 q3_1.1))]
  obtain ⟨mf1, rfl⟩ : ∃ m, fu1 = m + 1 := ⟨fu1 - 1, by omega⟩
  rw [F_spec_l1Cur_requests_L1_s] at hL1
  have hmo := fun a : Int => emod_bd a hmb
  have he1 := hi1_5 (((k5_1.length : Nat) : Int) - 1).toNat
  refine TC.seq ?_
  refine TC.seq ?_
  refine TC.region ?_
  refine TL.op (yq (y_move (ev_t rfl))) rfl rfl rfl ?_
  refine TL.op (yq (y_len (ev_t rfl) Try.underlying34 (fun w hw => ((ri_row 0 rfl) w hw).ln))) rfl rfl rfl ?_
  refine TL.op (yq (y_move (ev_t rfl))) rfl rfl rfl ?_
  refine TL.op (yq (y_lss (ev_t rfl) (ev_t rfl))) rfl rfl rfl ?_
  refine TL.nil ?_
  refine TN.seq ?_
  refine TC.cond (b := decide ((k5_1.length : Int) < q2_2.1)) (ev_t rfl) (fun h139 => ?_) (fun h139 => ?_)
  · rw [bif_pos h139] at hL1
    have q140 := (of_decide_eq_true h139)
    refine TC.skip ?_
    refine TN.seq ?_
    refine TC.block ?_
    refine TC.block ?_
    refine TC.seq ?_
    refine TC.region ?_
    refine TL.op (yq (y_move (ev_t rfl))) rfl rfl rfl ?_
    refine TL.op (yq (y_eql (ev_t rfl) ev_c)) rfl rfl rfl ?_
    refine TL.op (yq (y_move (ev_t rfl))) rfl rfl rfl ?_
    refine TL.opw (w_t rfl rfl rfl) (fun hg => yq (y_move (ev_t rfl))) rfl rfl ?_
    refine TL.opw (w_t rfl rfl rfl) (fun hg => yq (y_len (ev_g rfl hg) Try.underlying34 (fun w hw => ((ri_row 0 rfl) w hw).ln))) rfl rfl ?_
    refine TL.opw (w_t rfl rfl rfl) (fun hg => yq (y_gtr (ev_g rfl hg) ev_c)) rfl rfl ?_
    refine TL.op (yq (y_and (ev_t rfl) (fun hq => (ev_g rfl hq)))) rfl rfl rfl ?_
    refine TL.op (yq (y_assign (ev_t rfl))) rfl rfl rfl ?_
    refine TL.nil ?_
    refine TN.seq ?_
    refine TC.cond (b := ((decide (q3_1.1 = 0)) && (decide (0 < (k5_1.length : Int))))) (ev_t rfl) (fun h141 => ?_) (fun h141 => ?_)
    · rw [bif_pos h141] at hL1
      have q142 := (and_imp (and_t h141) (fun h => (of_decide_eq_true h)) (fun h => (of_decide_eq_true h)))
      refine TC.mid (fun a' w' => ∃ v7_13 : Value, Slots 107 [(0, (.pointer (some ⟨gc, 0, none⟩))), (1, (.int .i64 n)), (5, v7_13), (6, (.int .i64 (F_spec_l1Most 1 (F_spec_l1Least n 8)))), (7, (.int .i64 q2_2.1)), (8, (.int .i64 q3_1.1))] a' ∧ Hp w0 ([rowI 3 v7_13 (k5_1 ++ ([((k5_1.getD (((k5_1.length : Int) - 1).toNat) 0) + ((F_spec_l1Cur_pick code zP_1_1 zP_2_1 2).1)) % (F_spec_l1Most 1 (F_spec_l1Least n 8))])), .blk gc 75 [vc, (.int .i64 (((F_spec_l1Cur_pick code zP_1_1 zP_2_1 2).2).1)), (.int .u64 (((F_spec_l1Cur_pick code zP_1_1 zP_2_1 2).2).2))]] ++ fr) w') ?_ ?_
      · refine TC.regionH 15 (Hp w0 ([] ++ fr)) rfl (by kernel_rfl) dr_hp (fun w hw => Hp.sublist hw (.cons _ (.cons _ (List.Sublist.refl _)))) ?_
        refine TH.take 0 rfl (by kernel_rfl) (y_move (ev_t rfl)) rfl rfl rfl ?_
        refine TH.take 1 rfl (by kernel_rfl) (y_move (ev_t rfl)) rfl rfl rfl ?_
        refine TH.take 2 rfl (by kernel_rfl) (y_move (ev_t rfl)) rfl rfl rfl ?_
        refine TH.take 7 rfl (by kernel_rfl) (y_move (ev_t rfl)) rfl rfl rfl ?_
        refine TH.take 10 rfl (by kernel_rfl) (y_move (ev_t rfl)) rfl rfl rfl ?_
        refine TH.loud2 3 8 rfl rfl (by kernel_rfl) ?_ ?_
        · refine TL.op (yq (y_len (ev_t rfl) Try.underlying34 (fun w hw => ((ri_row 0 rfl) w hw).ln))) rfl rfl rfl ?_
          refine TL.nil ?_
          refine TH.back (fun w hw => Hp.sublist hw (.cons _ (.cons _ (List.Sublist.refl _)))) ?_
          refine TH.take 4 rfl (by kernel_rfl) (y_sub (ev_t rfl) ev_c (by unfold In64; constructor <;> omega)) rfl rfl rfl ?_
          refine TH.loud2 5 8 rfl rfl (by kernel_rfl) ?_ ?_
          · have hb149 : ((k5_1.length : Int) - 1).toNat < k5_1.length := (by first | omega | (simp only [List.length_set, List.length_append, List.length_cons, List.length_nil, List.length_replicate]; omega) | (rw [sortI_length]; simp only [List.length_cons, List.length_nil]; omega))
            refine TL.op (yq (y_idx (k := ((k5_1.length : Int) - 1).toNat) (ev_t rfl) (ev_t rfl) (by first | omega | simp) slT_34 (ri_row 0 rfl) hb149)) rfl rfl rfl ?_
            refine TL.nil ?_
            refine TH.back (fun w hw => Hp.sublist hw (.cons _ (.cons _ (List.Sublist.refl _)))) ?_
            refine TH.loud2 6 8 rfl rfl (by kernel_rfl) ?_ ?_
            · refine TL.op (yq (y_ldi (ev_t rfl) one_3 (ri_row 0 rfl) hb149)) rfl rfl rfl ?_
              refine TL.nil ?_
              refine TH.back (fun w hw => Hp.sublist hw (.cons _ (.cons _ (List.Sublist.refl _)))) ?_
              refine TH.loud 8 rfl (by kernel_rfl) ?_
              refine TL.callmX (ι := Unit) (p := True) 1 (vs := [(.pointer (some ⟨gc, 0, none⟩)), (.int .i64 2)]) (fun _ => (.int .i64 ((F_spec_l1Cur_pick code zP_1_1 zP_2_1 2).1))) (fun _ => .blk gc 75 [vc, (.int .i64 (((F_spec_l1Cur_pick code zP_1_1 zP_2_1 2).2).1)), (.int .u64 (((F_spec_l1Cur_pick code zP_1_1 zP_2_1 2).2).2))]) (fun _ => []) en_65 ⟨(ev_t rfl), ev_c, trivial⟩ rfl rfl (fun w1 _ hw => spec_l1Cur_pick_ok w0 w1 _ gc vc code hcode zP_1_1 zP_2_1 hw 2 (by first | assumption | omega | grind) (by first | assumption | omega | grind) (by first | assumption | omega | grind) (by first | assumption | omega | grind)) (fun hpo150 _ => ?_)
              replace hpo150 := pick_post hcode.2 code zP_1_1 zP_2_1 2 (by omega)
              refine TL.nil ?_
              refine TH.back (fun w hw => Hp.sublist hw (.cons _ (.cons _ (List.Sublist.refl _)))) ?_
              refine TH.take 9 rfl (by kernel_rfl) (y_add (ev_t rfl) (ev_t rfl) (by unfold In64; constructor <;> omega)) rfl rfl rfl ?_
              refine TH.take 11 rfl (by kernel_rfl) (y_rem (ev_t rfl) (ev_t rfl) (by first | omega | (simp only [Int.natCast_ediv] at *; omega)) (by first | omega | (simp only [Int.natCast_ediv] at *; omega))) rfl rfl rfl ?_
              refine TH.loud 12 rfl (by kernel_rfl) ?_
              refine TL.buildI (zs := [.tmp 47]) (qs := [((k5_1.getD (((k5_1.length : Int) - 1).toNat) 0) + ((F_spec_l1Cur_pick code zP_1_1 zP_2_1 2).1)) % (F_spec_l1Most 1 (F_spec_l1Least n 8))]) slT_34 rfl ⟨(ev_t rfl), trivial⟩ rfl (by decide) rfl (fun v7_12 => ?_)
              refine TL.nil ?_
              refine TH.back (fun w hw => Hp.sublist hw (.cons _ (.cons _ (.cons _ (List.Sublist.refl _))))) ?_
              refine TH.loud 13 rfl (by kernel_rfl) ?_
              refine TL.appendI 1 (ev_t rfl) (ev_t rfl) rfl slT_34 (ri_row 0 rfl) (by first | omega | (simp [-List.getD_eq_getElem?_getD] <;> omega)) rfl (fun v7_13 => ?_)
              refine TL.nil ?_
              refine TH.back (fun w hw => Hp.sublist hw (.cons _ (.cons _ (.cons _ (List.Sublist.refl _))))) ?_
              refine TH.take 14 rfl (by kernel_rfl) (y_assign (ev_t rfl)) rfl rfl rfl ?_
              refine TH.done (by kernel_rfl) ?_
              exact fun a' w' hs hw => ⟨v7_13, hs.sub ⟨rfl, rfl, rfl, rfl, rfl, rfl, trivial⟩, Hp.sublist hw (.cons _ (.cons_cons _ (.cons_cons _ (List.Sublist.refl _))))⟩
            · refine TL.callmX (ι := Unit) (p := True) 1 (vs := [(.pointer (some ⟨gc, 0, none⟩)), (.int .i64 2)]) (fun _ => (.int .i64 ((F_spec_l1Cur_pick code zP_1_1 zP_2_1 2).1))) (fun _ => .blk gc 75 [vc, (.int .i64 (((F_spec_l1Cur_pick code zP_1_1 zP_2_1 2).2).1)), (.int .u64 (((F_spec_l1Cur_pick code zP_1_1 zP_2_1 2).2).2))]) (fun _ => []) en_65 ⟨(ev_t rfl), ev_c, trivial⟩ rfl rfl (fun w1 _ hw => spec_l1Cur_pick_ok w0 w1 _ gc vc code hcode zP_1_1 zP_2_1 hw 2 (by first | assumption | omega | grind) (by first | assumption | omega | grind) (by first | assumption | omega | grind) (by first | assumption | omega | grind)) (fun hpo152 _ => ?_)
              replace hpo152 := pick_post hcode.2 code zP_1_1 zP_2_1 2 (by omega)
              refine TL.nil ?_
              refine TH.back (fun w hw => Hp.sublist hw (.cons _ (.cons _ (List.Sublist.refl _)))) ?_
              refine TH.loud 6 rfl (by kernel_rfl) ?_
              refine TL.op (yq (y_ldi (ev_t rfl) one_3 (ri_row 0 rfl) hb149)) rfl rfl rfl ?_
              refine TL.nil ?_
              refine TH.back (fun w hw => Hp.sublist hw (.cons _ (.cons _ (List.Sublist.refl _)))) ?_
              refine TH.take 9 rfl (by kernel_rfl) (y_add (ev_t rfl) (ev_t rfl) (by unfold In64; constructor <;> omega)) rfl rfl rfl ?_
              refine TH.take 11 rfl (by kernel_rfl) (y_rem (ev_t rfl) (ev_t rfl) (by first | omega | (simp only [Int.natCast_ediv] at *; omega)) (by first | omega | (simp only [Int.natCast_ediv] at *; omega))) rfl rfl rfl ?_
              refine TH.loud 12 rfl (by kernel_rfl) ?_
              refine TL.buildI (zs := [.tmp 47]) (qs := [((k5_1.getD (((k5_1.length : Int) - 1).toNat) 0) + ((F_spec_l1Cur_pick code zP_1_1 zP_2_1 2).1)) % (F_spec_l1Most 1 (F_spec_l1Least n 8))]) slT_34 rfl ⟨(ev_t rfl), trivial⟩ rfl (by decide) rfl (fun v7_12 => ?_)
              refine TL.nil ?_
              refine TH.back (fun w hw => Hp.sublist hw (.cons _ (.cons _ (.cons _ (List.Sublist.refl _))))) ?_
              refine TH.loud 13 rfl (by kernel_rfl) ?_
              refine TL.appendI 1 (ev_t rfl) (ev_t rfl) rfl slT_34 (ri_row 0 rfl) (by first | omega | (simp [-List.getD_eq_getElem?_getD] <;> omega)) rfl (fun v7_13 => ?_)
              refine TL.nil ?_
              refine TH.back (fun w hw => Hp.sublist hw (.cons _ (.cons _ (.cons _ (List.Sublist.refl _))))) ?_
              refine TH.take 14 rfl (by kernel_rfl) (y_assign (ev_t rfl)) rfl rfl rfl ?_
              refine TH.done (by kernel_rfl) ?_
              exact fun a' w' hs hw => ⟨v7_13, hs.sub ⟨rfl, rfl, rfl, rfl, rfl, rfl, trivial⟩, Hp.sublist hw (.cons _ (.cons_cons _ (.cons_cons _ (List.Sublist.refl _))))⟩
          · refine TL.callmX (ι := Unit) (p := True) 1 (vs := [(.pointer (some ⟨gc, 0, none⟩)), (.int .i64 2)]) (fun _ => (.int .i64 ((F_spec_l1Cur_pick code zP_1_1 zP_2_1 2).1))) (fun _ => .blk gc 75 [vc, (.int .i64 (((F_spec_l1Cur_pick code zP_1_1 zP_2_1 2).2).1)), (.int .u64 (((F_spec_l1Cur_pick code zP_1_1 zP_2_1 2).2).2))]) (fun _ => []) en_65 ⟨(ev_t rfl), ev_c, trivial⟩ rfl rfl (fun w1 _ hw => spec_l1Cur_pick_ok w0 w1 _ gc vc code hcode zP_1_1 zP_2_1 hw 2 (by first | assumption | omega | grind) (by first | assumption | omega | grind) (by first | assumption | omega | grind) (by first | assumption | omega | grind)) (fun hpo154 _ => ?_)
            replace hpo154 := pick_post hcode.2 code zP_1_1 zP_2_1 2 (by omega)
            refine TL.nil ?_
            refine TH.back (fun w hw => Hp.sublist hw (.cons _ (.cons _ (List.Sublist.refl _)))) ?_
            refine TH.loud 5 rfl (by kernel_rfl) ?_
            have hb156 : ((k5_1.length : Int) - 1).toNat < k5_1.length := (by first | omega | (simp only [List.length_set, List.length_append, List.length_cons, List.length_nil, List.length_replicate]; omega) | (rw [sortI_length]; simp only [List.length_cons, List.length_nil]; omega))
            refine TL.op (yq (y_idx (k := ((k5_1.length : Int) - 1).toNat) (ev_t rfl) (ev_t rfl) (by first | omega | simp) slT_34 (ri_row 0 rfl) hb156)) rfl rfl rfl ?_
            refine TL.nil ?_
            refine TH.back (fun w hw => Hp.sublist hw (.cons _ (.cons _ (List.Sublist.refl _)))) ?_
            refine TH.loud 6 rfl (by kernel_rfl) ?_
            refine TL.op (yq (y_ldi (ev_t rfl) one_3 (ri_row 0 rfl) hb156)) rfl rfl rfl ?_
            refine TL.nil ?_
            refine TH.back (fun w hw => Hp.sublist hw (.cons _ (.cons _ (List.Sublist.refl _)))) ?_
            refine TH.take 9 rfl (by kernel_rfl) (y_add (ev_t rfl) (ev_t rfl) (by unfold In64; constructor <;> omega)) rfl rfl rfl ?_
            refine TH.take 11 rfl (by kernel_rfl) (y_rem (ev_t rfl) (ev_t rfl) (by first | omega | (simp only [Int.natCast_ediv] at *; omega)) (by first | omega | (simp only [Int.natCast_ediv] at *; omega))) rfl rfl rfl ?_
            refine TH.loud 12 rfl (by kernel_rfl) ?_
            refine TL.buildI (zs := [.tmp 47]) (qs := [((k5_1.getD (((k5_1.length : Int) - 1).toNat) 0) + ((F_spec_l1Cur_pick code zP_1_1 zP_2_1 2).1)) % (F_spec_l1Most 1 (F_spec_l1Least n 8))]) slT_34 rfl ⟨(ev_t rfl), trivial⟩ rfl (by decide) rfl (fun v7_12 => ?_)
            refine TL.nil ?_
            refine TH.back (fun w hw => Hp.sublist hw (.cons _ (.cons _ (.cons _ (List.Sublist.refl _))))) ?_
            refine TH.loud 13 rfl (by kernel_rfl) ?_
            refine TL.appendI 1 (ev_t rfl) (ev_t rfl) rfl slT_34 (ri_row 0 rfl) (by first | omega | (simp [-List.getD_eq_getElem?_getD] <;> omega)) rfl (fun v7_13 => ?_)
            refine TL.nil ?_
            refine TH.back (fun w hw => Hp.sublist hw (.cons _ (.cons _ (.cons _ (List.Sublist.refl _))))) ?_
            refine TH.take 14 rfl (by kernel_rfl) (y_assign (ev_t rfl)) rfl rfl rfl ?_
            refine TH.done (by kernel_rfl) ?_
            exact fun a' w' hs hw => ⟨v7_13, hs.sub ⟨rfl, rfl, rfl, rfl, rfl, rfl, trivial⟩, Hp.sublist hw (.cons _ (.cons_cons _ (.cons_cons _ (List.Sublist.refl _))))⟩
        · refine TL.callmX (ι := Unit) (p := True) 1 (vs := [(.pointer (some ⟨gc, 0, none⟩)), (.int .i64 2)]) (fun _ => (.int .i64 ((F_spec_l1Cur_pick code zP_1_1 zP_2_1 2).1))) (fun _ => .blk gc 75 [vc, (.int .i64 (((F_spec_l1Cur_pick code zP_1_1 zP_2_1 2).2).1)), (.int .u64 (((F_spec_l1Cur_pick code zP_1_1 zP_2_1 2).2).2))]) (fun _ => []) en_65 ⟨(ev_t rfl), ev_c, trivial⟩ rfl rfl (fun w1 _ hw => spec_l1Cur_pick_ok w0 w1 _ gc vc code hcode zP_1_1 zP_2_1 hw 2 (by first | assumption | omega | grind) (by first | assumption | omega | grind) (by first | assumption | omega | grind) (by first | assumption | omega | grind)) (fun hpo157 _ => ?_)
          replace hpo157 := pick_post hcode.2 code zP_1_1 zP_2_1 2 (by omega)
          refine TL.nil ?_
          refine TH.back (fun w hw => Hp.sublist hw (.cons _ (.cons _ (List.Sublist.refl _)))) ?_
          refine TH.loud 3 rfl (by kernel_rfl) ?_
          refine TL.op (yq (y_len (ev_t rfl) Try.underlying34 (fun w hw => ((ri_row 0 rfl) w hw).ln))) rfl rfl rfl ?_
          refine TL.nil ?_
          refine TH.back (fun w hw => Hp.sublist hw (.cons _ (.cons _ (List.Sublist.refl _)))) ?_
          refine TH.take 4 rfl (by kernel_rfl) (y_sub (ev_t rfl) ev_c (by unfold In64; constructor <;> omega)) rfl rfl rfl ?_
          refine TH.loud 5 rfl (by kernel_rfl) ?_
          have hb159 : ((k5_1.length : Int) - 1).toNat < k5_1.length := (by first | omega | (simp only [List.length_set, List.length_append, List.length_cons, List.length_nil, List.length_replicate]; omega) | (rw [sortI_length]; simp only [List.length_cons, List.length_nil]; omega))
          refine TL.op (yq (y_idx (k := ((k5_1.length : Int) - 1).toNat) (ev_t rfl) (ev_t rfl) (by first | omega | simp) slT_34 (ri_row 0 rfl) hb159)) rfl rfl rfl ?_
          refine TL.nil ?_
          refine TH.back (fun w hw => Hp.sublist hw (.cons _ (.cons _ (List.Sublist.refl _)))) ?_
          refine TH.loud 6 rfl (by kernel_rfl) ?_
          refine TL.op (yq (y_ldi (ev_t rfl) one_3 (ri_row 0 rfl) hb159)) rfl rfl rfl ?_
          refine TL.nil ?_
          refine TH.back (fun w hw => Hp.sublist hw (.cons _ (.cons _ (List.Sublist.refl _)))) ?_
          refine TH.take 9 rfl (by kernel_rfl) (y_add (ev_t rfl) (ev_t rfl) (by unfold In64; constructor <;> omega)) rfl rfl rfl ?_
          refine TH.take 11 rfl (by kernel_rfl) (y_rem (ev_t rfl) (ev_t rfl) (by first | omega | (simp only [Int.natCast_ediv] at *; omega)) (by first | omega | (simp only [Int.natCast_ediv] at *; omega))) rfl rfl rfl ?_
          refine TH.loud 12 rfl (by kernel_rfl) ?_
          refine TL.buildI (zs := [.tmp 47]) (qs := [((k5_1.getD (((k5_1.length : Int) - 1).toNat) 0) + ((F_spec_l1Cur_pick code zP_1_1 zP_2_1 2).1)) % (F_spec_l1Most 1 (F_spec_l1Least n 8))]) slT_34 rfl ⟨(ev_t rfl), trivial⟩ rfl (by decide) rfl (fun v7_12 => ?_)
          refine TL.nil ?_
          refine TH.back (fun w hw => Hp.sublist hw (.cons _ (.cons _ (.cons _ (List.Sublist.refl _))))) ?_
          refine TH.loud 13 rfl (by kernel_rfl) ?_
          refine TL.appendI 1 (ev_t rfl) (ev_t rfl) rfl slT_34 (ri_row 0 rfl) (by first | omega | (simp [-List.getD_eq_getElem?_getD] <;> omega)) rfl (fun v7_13 => ?_)
          refine TL.nil ?_
          refine TH.back (fun w hw => Hp.sublist hw (.cons _ (.cons _ (.cons _ (List.Sublist.refl _))))) ?_
          refine TH.take 14 rfl (by kernel_rfl) (y_assign (ev_t rfl)) rfl rfl rfl ?_
          refine TH.done (by kernel_rfl) ?_
          exact fun a' w' hs hw => ⟨v7_13, hs.sub ⟨rfl, rfl, rfl, rfl, rfl, rfl, trivial⟩, Hp.sublist hw (.cons _ (.cons_cons _ (.cons_cons _ (List.Sublist.refl _))))⟩
      · rintro a' w' ⟨v7_13, hs', hw'⟩
        refine (?_ : TN _ .normal 107 (Hp w0 ([rowI 3 v7_13 (k5_1 ++ ([((k5_1.getD (((k5_1.length : Int) - 1).toNat) 0) + ((F_spec_l1Cur_pick code zP_1_1 zP_2_1 2).1)) % (F_spec_l1Most 1 (F_spec_l1Least n 8))])), .blk gc 75 [vc, (.int .i64 (((F_spec_l1Cur_pick code zP_1_1 zP_2_1 2).2).1)), (.int .u64 (((F_spec_l1Cur_pick code zP_1_1 zP_2_1 2).2).2))]] ++ fr)) [(0, (.pointer (some ⟨gc, 0, none⟩))), (1, (.int .i64 n)), (5, v7_13), (6, (.int .i64 (F_spec_l1Most 1 (F_spec_l1Least n 8)))), (7, (.int .i64 q2_2.1)), (8, (.int .i64 q3_1.1))]) a' w' hs' hw'
        clear hs' hw'
        have hpo157 := pick_post hcode.2 code zP_1_1 zP_2_1 2 (by omega)
        obtain ⟨q7_8, hq158⟩ : ∃ q, (F_spec_l1Cur_pick code zP_1_1 zP_2_1 2) = q := ⟨_, rfl⟩
        rw [hq158] at hL1 hpo157 ⊢
        try dsimp only at hL1
        refine TN.blockN ?_
        refine TN.blockN ?_
        exact TN.hand (mf1, (k5_1 ++ ([((k5_1.getD (((k5_1.length : Int) - 1).toNat) 0) + q7_8.1) % (F_spec_l1Most 1 (F_spec_l1Least n 8))])), (q7_8.2).1, (q7_8.2).2, v7_13) ⟨(by first | omega | (simp [-List.getD_eq_getElem?_getD] <;> omega)), (by first | omega | (simp [-List.getD_eq_getElem?_getD] <;> omega)), (by first | omega | (simp [-List.getD_eq_getElem?_getD] <;> omega)), (by first | omega | (simp [-List.getD_eq_getElem?_getD] <;> omega)), (by first | omega | (simp [-List.getD_eq_getElem?_getD] <;> omega)), (by first | exact bd_app hi1_5 (hmo _) | exact bd_app hi1_5 (hi1_5 _) | exact bd_app hi1_5 (by omega) | exact bd_set (bd_app hi1_5 (hi1_5 _)) (by omega)), (by simp only [List.length_append, List.length_set, List.length_cons, List.length_nil]; omega), hL1⟩ (Nat.lt_succ_self _) ⟨rfl, rfl, rfl, rfl, rfl, rfl, trivial⟩ (fun w hw => hw)
    · rw [bif_neg h141] at hL1
      have q142 := ((and_f h141).imp (fun h => (of_decide_eq_false h)) (fun h => (of_decide_eq_false h)))
      refine TC.seq ?_
      refine TC.region ?_
      refine TL.op (yq (y_move (ev_t rfl))) rfl rfl rfl ?_
      refine TL.op (yq (y_eql (ev_t rfl) ev_c)) rfl rfl rfl ?_
      refine TL.op (yq (y_move (ev_t rfl))) rfl rfl rfl ?_
      refine TL.opw (w_t rfl rfl rfl) (fun hg => yq (y_move (ev_t rfl))) rfl rfl ?_
      refine TL.opw (w_t rfl rfl rfl) (fun hg => yq (y_len (ev_g rfl hg) Try.underlying34 (fun w hw => ((ri_row 0 rfl) w hw).ln))) rfl rfl ?_
      refine TL.opw (w_t rfl rfl rfl) (fun hg => yq (y_gtr (ev_g rfl hg) ev_c)) rfl rfl ?_
      refine TL.op (yq (y_and (ev_t rfl) (fun hq => (ev_g rfl hq)))) rfl rfl rfl ?_
      refine TL.op (yq (y_assign (ev_t rfl))) rfl rfl rfl ?_
      refine TL.nil ?_
      refine TN.seq ?_
      refine TC.cond (b := ((decide (q3_1.1 = 1)) && (decide (2 < (k5_1.length : Int))))) (ev_t rfl) (fun h160 => ?_) (fun h160 => ?_)
      · rw [bif_pos h160] at hL1
        have q161 := (and_imp (and_t h160) (fun h => (of_decide_eq_true h)) (fun h => (of_decide_eq_true h)))
        refine TC.seq ?_
        refine TC.region ?_
        refine TL.op (yq (y_move (ev_t rfl))) rfl rfl rfl ?_
        refine TL.op (yq (y_move (ev_t rfl))) rfl rfl rfl ?_
        refine TL.op (yq (y_move (ev_t rfl))) rfl rfl rfl ?_
        refine TL.op (yq (y_len (ev_t rfl) Try.underlying34 (fun w hw => ((ri_row 0 rfl) w hw).ln))) rfl rfl rfl ?_
        refine TL.op (yq (y_sub (ev_t rfl) ev_c (by unfold In64; constructor <;> omega))) rfl rfl rfl ?_
        refine TL.op (yq (y_move (ev_t rfl))) rfl rfl rfl ?_
        refine TL.callmX (ι := Unit) (p := True) 1 (vs := [(.pointer (some ⟨gc, 0, none⟩)), (.int .i64 3)]) (fun _ => (.int .i64 ((F_spec_l1Cur_pick code zP_1_1 zP_2_1 3).1))) (fun _ => .blk gc 75 [vc, (.int .i64 (((F_spec_l1Cur_pick code zP_1_1 zP_2_1 3).2).1)), (.int .u64 (((F_spec_l1Cur_pick code zP_1_1 zP_2_1 3).2).2))]) (fun _ => []) en_65 ⟨(ev_t rfl), ev_c, trivial⟩ rfl rfl (fun w1 _ hw => spec_l1Cur_pick_ok w0 w1 _ gc vc code hcode zP_1_1 zP_2_1 hw 3 (by first | assumption | omega | grind) (by first | assumption | omega | grind) (by first | assumption | omega | grind) (by first | assumption | omega | grind)) (fun hpo162 _ => ?_)
        replace hpo162 := pick_post hcode.2 code zP_1_1 zP_2_1 3 (by omega)
        obtain ⟨q9_6, hq163⟩ : ∃ q, (F_spec_l1Cur_pick code zP_1_1 zP_2_1 3) = q := ⟨_, rfl⟩
        rw [hq163] at hL1 hpo162 ⊢
        try dsimp only at hL1
        refine TL.op (yq (y_sub (ev_t rfl) (ev_t rfl) (by unfold In64; constructor <;> omega))) rfl rfl rfl ?_
        have hb164 : (((k5_1.length : Int) - 1) - q9_6.1).toNat < k5_1.length := (by first | omega | (simp only [List.length_set, List.length_append, List.length_cons, List.length_nil, List.length_replicate]; omega) | (rw [sortI_length]; simp only [List.length_cons, List.length_nil]; omega))
        refine TL.op (yq (y_idx (k := (((k5_1.length : Int) - 1) - q9_6.1).toNat) (ev_t rfl) (ev_t rfl) (by first | omega | simp) slT_34 (ri_row 0 rfl) hb164)) rfl rfl rfl ?_
        refine TL.op (yq (y_ldi (ev_t rfl) one_3 (ri_row 0 rfl) hb164)) rfl rfl rfl ?_
        refine TL.buildI (zs := [.tmp 67]) (qs := [(k5_1.getD ((((k5_1.length : Int) - 1) - q9_6.1).toNat) 0)]) slT_34 rfl ⟨(ev_t rfl), trivial⟩ rfl (by decide) rfl (fun v9_10 => ?_)
        refine TL.appendI 1 (ev_t rfl) (ev_t rfl) rfl slT_34 (ri_row 0 rfl) (by first | omega | (simp [-List.getD_eq_getElem?_getD] <;> omega)) rfl (fun v9_11 => ?_)
        refine TL.op (yq (y_assign (ev_t rfl))) rfl rfl rfl ?_
        refine TL.nil ?_
        refine TN.seq ?_
        refine TC.seq ?_
        refine TC.region ?_
        refine TL.op (yq (y_move (ev_t rfl))) rfl rfl rfl ?_
        refine TL.callmX (ι := Unit) (p := True) 2 (vs := [(.pointer (some ⟨gc, 0, none⟩)), (.int .i64 3)]) (fun _ => (.bool ((F_spec_l1Cur_one code ((q9_6.2).1) ((q9_6.2).2) 3).1))) (fun _ => .blk gc 75 [vc, (.int .i64 (((F_spec_l1Cur_one code ((q9_6.2).1) ((q9_6.2).2) 3).2).1)), (.int .u64 (((F_spec_l1Cur_one code ((q9_6.2).1) ((q9_6.2).2) 3).2).2))]) (fun _ => []) en_66 ⟨(ev_t rfl), ev_c, trivial⟩ rfl rfl (fun w1 _ hw => spec_l1Cur_one_ok w0 w1 _ gc vc code hcode ((q9_6.2).1) ((q9_6.2).2) hw 3 (by first | assumption | omega | grind) (by first | assumption | omega | grind) (by first | assumption | omega | grind) (by first | assumption | omega | grind)) (fun hpo165 _ => ?_)
        replace hpo165 := one_post hcode.2 code ((q9_6.2).1) ((q9_6.2).2) 3 (by omega)
        obtain ⟨q10_1, hq166⟩ : ∃ q, (F_spec_l1Cur_one code ((q9_6.2).1) ((q9_6.2).2) 3) = q := ⟨_, rfl⟩
        rw [hq166] at hL1 hpo165 ⊢
        try dsimp only at hL1
        refine TL.nil ?_
        refine TN.seq ?_
        refine TC.cond (b := q10_1.1) (ev_t rfl) (fun h167 => ?_) (fun h167 => ?_)
        · rw [bif_pos h167] at hL1
          have q168 := h167
          refine TC.region ?_
          refine TL.op (yq (y_move (ev_t rfl))) rfl rfl rfl ?_
          refine TL.op (yq (y_move (ev_t rfl))) rfl rfl rfl ?_
          refine TL.op (yq (y_len (ev_t rfl) Try.underlying34 (fun w hw => ((ri_row 1 rfl) w hw).ln))) rfl rfl rfl ?_
          refine TL.op (yq (y_sub (ev_t rfl) ev_c (by simp only [List.length_append, List.length_cons, List.length_nil]; unfold In64; constructor <;> omega))) rfl rfl rfl ?_
          refine TL.op (yq (y_move (ev_t rfl))) rfl rfl rfl ?_
          refine TL.op (yq (y_move (ev_t rfl))) rfl rfl rfl ?_
          refine TL.callmX (ι := Unit) (p := True) 2 (vs := [(.pointer (some ⟨gc, 0, none⟩)), (.int .i64 (F_spec_l1Most 1 (F_spec_l1Least n 8)))]) (fun _ => (.int .i64 ((F_spec_l1Cur_pick code ((q10_1.2).1) ((q10_1.2).2) (F_spec_l1Most 1 (F_spec_l1Least n 8))).1))) (fun _ => .blk gc 75 [vc, (.int .i64 (((F_spec_l1Cur_pick code ((q10_1.2).1) ((q10_1.2).2) (F_spec_l1Most 1 (F_spec_l1Least n 8))).2).1)), (.int .u64 (((F_spec_l1Cur_pick code ((q10_1.2).1) ((q10_1.2).2) (F_spec_l1Most 1 (F_spec_l1Least n 8))).2).2))]) (fun _ => []) en_65 ⟨(ev_t rfl), (ev_t rfl), trivial⟩ rfl rfl (fun w1 _ hw => spec_l1Cur_pick_ok w0 w1 _ gc vc code hcode ((q10_1.2).1) ((q10_1.2).2) hw (F_spec_l1Most 1 (F_spec_l1Least n 8)) (by first | assumption | omega | grind) (by first | assumption | omega | grind) (by first | assumption | omega | grind) (by first | assumption | omega | grind)) (fun hpo169 _ => ?_)
          replace hpo169 := pick_post hcode.2 code ((q10_1.2).1) ((q10_1.2).2) (F_spec_l1Most 1 (F_spec_l1Least n 8)) (by omega)
          obtain ⟨q11_6, hq170⟩ : ∃ q, (F_spec_l1Cur_pick code ((q10_1.2).1) ((q10_1.2).2) (F_spec_l1Most 1 (F_spec_l1Least n 8))) = q := ⟨_, rfl⟩
          rw [hq170] at hL1 hpo169 ⊢
          try dsimp only at hL1
          have hb171 : (((k5_1 ++ ([(k5_1.getD ((((k5_1.length : Int) - 1) - q9_6.1).toNat) 0)])).length : Int) - 1).toNat < (k5_1 ++ ([(k5_1.getD ((((k5_1.length : Int) - 1) - q9_6.1).toNat) 0)])).length := (by first | (simp only [List.length_set, List.length_append, List.length_cons, List.length_nil, List.length_replicate]; omega) | omega | (rw [sortI_length]; simp only [List.length_cons, List.length_nil]; omega))
          refine TL.op (yq (y_idx (k := (((k5_1 ++ ([(k5_1.getD ((((k5_1.length : Int) - 1) - q9_6.1).toNat) 0)])).length : Int) - 1).toNat) (ev_t rfl) (ev_t rfl) (by first | omega | simp) slT_34 (ri_row 1 rfl) hb171)) rfl rfl rfl ?_
          refine TL.storeI 1 (ev_t rfl) (ev_t rfl) one_3 rfl hb171 ?_
          refine TL.nil ?_
          refine TN.blockN ?_
          refine TN.blockN ?_
          exact TN.hand (mf1, ((k5_1 ++ ([(k5_1.getD ((((k5_1.length : Int) - 1) - q9_6.1).toNat) 0)])).set ((((k5_1 ++ ([(k5_1.getD ((((k5_1.length : Int) - 1) - q9_6.1).toNat) 0)])).length : Int) - 1).toNat) q11_6.1), (q11_6.2).1, (q11_6.2).2, v9_11) ⟨(by first | omega | (simp [-List.getD_eq_getElem?_getD] <;> omega)), (by first | omega | (simp [-List.getD_eq_getElem?_getD] <;> omega)), (by first | omega | (simp [-List.getD_eq_getElem?_getD] <;> omega)), (by first | omega | (simp [-List.getD_eq_getElem?_getD] <;> omega)), (by first | omega | (simp [-List.getD_eq_getElem?_getD] <;> omega)), (by first | exact bd_app hi1_5 (hmo _) | exact bd_app hi1_5 (hi1_5 _) | exact bd_app hi1_5 (by omega) | exact bd_set (bd_app hi1_5 (hi1_5 _)) (by omega)), (by simp only [List.length_append, List.length_set, List.length_cons, List.length_nil]; omega), hL1⟩ (Nat.lt_succ_self _) ⟨rfl, rfl, rfl, rfl, rfl, rfl, trivial⟩ (fun w hw => Hp.sublist hw (.cons _ (.cons_cons _ (.cons_cons _ (List.Sublist.refl _)))))
        · rw [bif_neg h167] at hL1
          have q168 := h167
          refine TC.skip ?_
          refine TN.blockN ?_
          refine TN.blockN ?_
          exact TN.hand (mf1, (k5_1 ++ ([(k5_1.getD ((((k5_1.length : Int) - 1) - q9_6.1).toNat) 0)])), (q10_1.2).1, (q10_1.2).2, v9_11) ⟨(by first | omega | (simp [-List.getD_eq_getElem?_getD] <;> omega)), (by first | omega | (simp [-List.getD_eq_getElem?_getD] <;> omega)), (by first | omega | (simp [-List.getD_eq_getElem?_getD] <;> omega)), (by first | omega | (simp [-List.getD_eq_getElem?_getD] <;> omega)), (by first | omega | (simp [-List.getD_eq_getElem?_getD] <;> omega)), (by first | exact bd_app hi1_5 (hmo _) | exact bd_app hi1_5 (hi1_5 _) | exact bd_app hi1_5 (by omega) | exact bd_set (bd_app hi1_5 (hi1_5 _)) (by omega)), (by simp only [List.length_append, List.length_set, List.length_cons, List.length_nil]; omega), hL1⟩ (Nat.lt_succ_self _) ⟨rfl, rfl, rfl, rfl, rfl, rfl, trivial⟩ (fun w hw => Hp.sublist hw (.cons _ (.cons_cons _ (.cons_cons _ (List.Sublist.refl _)))))
      · rw [bif_neg h160] at hL1
        have q161 := ((and_f h160).imp (fun h => (of_decide_eq_false h)) (fun h => (of_decide_eq_false h)))
        refine TC.region ?_
        refine TL.op (yq (y_move (ev_t rfl))) rfl rfl rfl ?_
        refine TL.op (yq (y_move (ev_t rfl))) rfl rfl rfl ?_
        refine TL.op (yq (y_move (ev_t rfl))) rfl rfl rfl ?_
        refine TL.callmX (ι := Unit) (p := True) 1 (vs := [(.pointer (some ⟨gc, 0, none⟩)), (.int .i64 (F_spec_l1Most 1 (F_spec_l1Least n 8)))]) (fun _ => (.int .i64 ((F_spec_l1Cur_pick code zP_1_1 zP_2_1 (F_spec_l1Most 1 (F_spec_l1Least n 8))).1))) (fun _ => .blk gc 75 [vc, (.int .i64 (((F_spec_l1Cur_pick code zP_1_1 zP_2_1 (F_spec_l1Most 1 (F_spec_l1Least n 8))).2).1)), (.int .u64 (((F_spec_l1Cur_pick code zP_1_1 zP_2_1 (F_spec_l1Most 1 (F_spec_l1Least n 8))).2).2))]) (fun _ => []) en_65 ⟨(ev_t rfl), (ev_t rfl), trivial⟩ rfl rfl (fun w1 _ hw => spec_l1Cur_pick_ok w0 w1 _ gc vc code hcode zP_1_1 zP_2_1 hw (F_spec_l1Most 1 (F_spec_l1Least n 8)) (by first | assumption | omega | grind) (by first | assumption | omega | grind) (by first | assumption | omega | grind) (by first | assumption | omega | grind)) (fun hpo172 _ => ?_)
        replace hpo172 := pick_post hcode.2 code zP_1_1 zP_2_1 (F_spec_l1Most 1 (F_spec_l1Least n 8)) (by omega)
        obtain ⟨q5_3, hq173⟩ : ∃ q, (F_spec_l1Cur_pick code zP_1_1 zP_2_1 (F_spec_l1Most 1 (F_spec_l1Least n 8))) = q := ⟨_, rfl⟩
        rw [hq173] at hL1 hpo172 ⊢
        try dsimp only at hL1
        refine TL.buildI (zs := [.tmp 25]) (qs := [q5_3.1]) slT_34 rfl ⟨(ev_t rfl), trivial⟩ rfl (by decide) rfl (fun v5_4 => ?_)
        refine TL.appendI 1 (ev_t rfl) (ev_t rfl) rfl slT_34 (ri_row 0 rfl) (by first | omega | (simp [-List.getD_eq_getElem?_getD] <;> omega)) rfl (fun v5_5 => ?_)
        refine TL.op (yq (y_assign (ev_t rfl))) rfl rfl rfl ?_
        refine TL.nil ?_
        refine TN.blockN ?_
        refine TN.blockN ?_
        exact TN.hand (mf1, (k5_1 ++ ([q5_3.1])), (q5_3.2).1, (q5_3.2).2, v5_5) ⟨(by first | omega | (simp [-List.getD_eq_getElem?_getD] <;> omega)), (by first | omega | (simp [-List.getD_eq_getElem?_getD] <;> omega)), (by first | omega | (simp [-List.getD_eq_getElem?_getD] <;> omega)), (by first | omega | (simp [-List.getD_eq_getElem?_getD] <;> omega)), (by first | omega | (simp [-List.getD_eq_getElem?_getD] <;> omega)), (by first | exact bd_app hi1_5 (hmo _) | exact bd_app hi1_5 (hi1_5 _) | exact bd_app hi1_5 (by omega) | exact bd_set (bd_app hi1_5 (hi1_5 _)) (by omega)), (by simp only [List.length_append, List.length_set, List.length_cons, List.length_nil]; omega), hL1⟩ (Nat.lt_succ_self _) ⟨rfl, rfl, rfl, rfl, rfl, rfl, trivial⟩ (fun w hw => Hp.sublist hw (.cons _ (.cons_cons _ (.cons_cons _ (List.Sublist.refl _)))))
  · rw [bif_neg h139] at hL1
    have q140 := (of_decide_eq_false h139)
    refine TC.exit ?_
    refine TN.thenE ?_
    refine TN.thenE ?_
    rw [← hL1, elim_next] at hF
    try dsimp only at hF
    refine TN.blockH ?_
    refine TN.seq ?_
    refine TC.seq ?_
    refine TC.seq ?_
    refine TC.region ?_
    refine TL.op (yq (y_move (ev_t rfl))) rfl rfl rfl ?_
    refine TL.callmX (ι := Unit) (p := True) 1 (vs := [(.pointer (some ⟨gc, 0, none⟩)), (.int .i64 48)]) (fun _ => (.int .i64 ((F_spec_l1Cur_pick code zP_1_1 zP_2_1 48).1))) (fun _ => .blk gc 75 [vc, (.int .i64 (((F_spec_l1Cur_pick code zP_1_1 zP_2_1 48).2).1)), (.int .u64 (((F_spec_l1Cur_pick code zP_1_1 zP_2_1 48).2).2))]) (fun _ => []) en_65 ⟨(ev_t rfl), ev_c, trivial⟩ rfl rfl (fun w1 _ hw => spec_l1Cur_pick_ok w0 w1 _ gc vc code hcode zP_1_1 zP_2_1 hw 48 (by first | assumption | omega | grind) (by first | assumption | omega | grind) (by first | assumption | omega | grind) (by first | assumption | omega | grind)) (fun hpo174 _ => ?_)
    replace hpo174 := pick_post hcode.2 code zP_1_1 zP_2_1 48 (by omega)
    obtain ⟨q12_1, hq175⟩ : ∃ q, (F_spec_l1Cur_pick code zP_1_1 zP_2_1 48) = q := ⟨_, rfl⟩
    rw [hq175] at hF hpo174 ⊢
    try dsimp only at hF
    refine TL.nil ?_
    refine TN.seq ?_
    refine TC.block ?_
    refine TC.seq ?_
    refine TC.region ?_
    refine TL.op (yq (y_eql (ev_t rfl) ev_c)) rfl rfl rfl ?_
    refine TL.op (yq (y_assign (ev_t rfl))) rfl rfl rfl ?_
    refine TL.nil ?_
    refine TN.seq ?_
    refine TC.cond (b := decide (q12_1.1 = 0)) (ev_t rfl) (fun h176 => ?_) (fun h176 => ?_)
    · rw [bif_pos h176] at hF
      have q177 := (of_decide_eq_true h176)
      refine TC.region ?_
      refine TL.op (yq (y_move (ev_t rfl))) rfl rfl rfl ?_
      refine TL.op (yq (y_move (ev_t rfl))) rfl rfl rfl ?_
      refine TL.op (yq (y_move (ev_t rfl))) rfl rfl rfl ?_
      refine TL.buildI (zs := [.const (.int .i64 (-1)), .tmp 86, .const (.int .i64 8)]) (qs := [-1, n, 8]) slT_34 rfl ⟨ev_c, (ev_t rfl), ev_c, trivial⟩ rfl (by decide) rfl (fun v14_3 => ?_)
      refine TL.callmX (ι := Unit) (p := ((q12_1.2).1 ≤ ((F_spec_l1Cur_among code ((q12_1.2).1) ((q12_1.2).2) ([-1, n, 8])).2).1 ∧ ((F_spec_l1Cur_among code ((q12_1.2).1) ((q12_1.2).2) ([-1, n, 8])).2).1 ≤ ((q12_1.2).1) + 2 ∧ 0 ≤ ((F_spec_l1Cur_among code ((q12_1.2).1) ((q12_1.2).2) ([-1, n, 8])).2).2 ∧ ((F_spec_l1Cur_among code ((q12_1.2).1) ((q12_1.2).2) ([-1, n, 8])).2).2 < 18446744073709551616)) 2 (vs := [(.pointer (some ⟨gc, 0, none⟩)), v14_3]) (fun _ => (.int .i64 ((F_spec_l1Cur_among code ((q12_1.2).1) ((q12_1.2).2) ([-1, n, 8])).1))) (fun _ => .blk gc 75 [vc, (.int .i64 (((F_spec_l1Cur_among code ((q12_1.2).1) ((q12_1.2).2) ([-1, n, 8])).2).1)), (.int .u64 (((F_spec_l1Cur_among code ((q12_1.2).1) ((q12_1.2).2) ([-1, n, 8])).2).2))]) (fun _ => []) en_76 ⟨(ev_t rfl), (ev_t rfl), trivial⟩ rfl rfl (fun w1 _ hw => spec_l1Cur_among_ok w0 w1 _ gc vc code hcode ((q12_1.2).1) ((q12_1.2).2) hw v14_3 ([-1, n, 8]) (fun w2 _ hw2 => (ri_row 1 rfl) w2 hw2) (by first | assumption | omega | decide | (simp only [List.length_cons, List.length_nil]; omega) | grind) (by first | assumption | omega | decide | (simp only [List.length_cons, List.length_nil]; omega) | grind) (by first | assumption | omega | decide | (simp only [List.length_cons, List.length_nil]; omega) | grind) (by first | assumption | omega | decide | (simp only [List.length_cons, List.length_nil]; omega) | grind) (by first | assumption | omega | decide | (simp only [List.length_cons, List.length_nil]; omega) | grind) (by first | assumption | omega | decide | (simp only [List.length_cons, List.length_nil]; omega) | grind)) (fun hpo178 _ => ?_)
      obtain ⟨q14_4, hq179⟩ : ∃ q, (F_spec_l1Cur_among code ((q12_1.2).1) ((q12_1.2).2) ([-1, n, 8])) = q := ⟨_, rfl⟩
      rw [hq179] at hF hpo178 ⊢
      try dsimp only at hF
      refine TL.buildI (zs := [.tmp 88]) (qs := [q14_4.1]) slT_34 rfl ⟨(ev_t rfl), trivial⟩ rfl (by decide) rfl (fun v14_5 => ?_)
      refine TL.appendI 2 (ev_t rfl) (ev_t rfl) rfl slT_34 (ri_row 0 rfl) (by first | omega | (simp [-List.getD_eq_getElem?_getD] <;> omega)) rfl (fun v14_6 => ?_)
      refine TL.op (yq (y_assign (ev_t rfl))) rfl rfl rfl ?_
      refine TL.nil ?_
      refine TN.blockN ?_
      refine TN.seq ?_
      refine TC.seq ?_
      refine TC.region ?_
      refine TL.op (yq (y_move (ev_t rfl))) rfl rfl rfl ?_
      refine TL.op (yq (y_assign (ev_t rfl))) rfl rfl rfl ?_
      refine TL.nil ?_
      refine TN.seq ?_
      refine TC.ret ?_
      subst hF
      exact TN.ret1 rfl (ev_t rfl) (fun w' hw => ⟨(by dsimp only; first | omega | (simp only [List.length_append, List.length_cons, List.length_nil]; omega)), v14_6, rfl, Hp.picksF (ks := [rowI 3 v14_5 ([q14_4.1]), rowI 3 v14_3 ([-1, n, 8]), rowI 3 v14_6 (k5_1 ++ ([q14_4.1])), .blk gc 75 [vc, (.int .i64 ((q14_4.2).1)), (.int .u64 ((q14_4.2).2))]]) (fr := fr) [3, 2] (by decide) rfl hw⟩)
    · rw [bif_neg h176] at hF
      have q177 := (of_decide_eq_false h176)
      refine TC.seq ?_
      refine TC.region ?_
      refine TL.op (yq (y_eql (ev_t rfl) ev_c)) rfl rfl rfl ?_
      refine TL.op (yq (y_assign (ev_t rfl))) rfl rfl rfl ?_
      refine TL.nil ?_
      refine TN.seq ?_
      refine TC.cond (b := decide (q12_1.1 = 1)) (ev_t rfl) (fun h180 => ?_) (fun h180 => ?_)
      · rw [bif_pos h180] at hF
        have q181 := (of_decide_eq_true h180)
        refine TC.block ?_
        obtain ⟨c182, hc183⟩ : ∃ c, F_spec_l1Cur_requests_L2 code n ((62 - k5_1.length) + 1) (k5_1, ((q12_1.2).1), ((q12_1.2).2)) = c := ⟨_, rfl⟩
        rw [hc183] at hF
        refine TC.loop (ι := Nat × List Int × Int × Int × Value) (fun (fu2, k5_2, zP_1_2, zP_2_2, vk5_2) => [(0, (.pointer (some ⟨gc, 0, none⟩))), (5, vk5_2), (6, (.int .i64 (F_spec_l1Most 1 (F_spec_l1Least n 8))))]) (fun (fu2, k5_2, zP_1_2, zP_2_2, vk5_2) => Hp w0 ([rowI 3 vk5_2 k5_2, .blk gc 75 [vc, (.int .i64 zP_1_2), (.int .u64 zP_2_2)]] ++ fr)) (fun (fu2, k5_2, zP_1_2, zP_2_2, vk5_2) => (at_ ≤ zP_1_2) ∧ (zP_1_2 ≤ at_ + 200 + 2 * (k5_2.length : Int)) ∧ (0 ≤ zP_2_2) ∧ (zP_2_2 < 18446744073709551616) ∧ (k5_2.length ≤ 62) ∧ 62 - k5_2.length < fu2 ∧ F_spec_l1Cur_requests_L2 code n fu2 (k5_2, zP_1_2, zP_2_2) = c182) (fun (fu2, k5_2, zP_1_2, zP_2_2, vk5_2) => fu2) ((62 - k5_1.length) + 1, k5_1, (q12_1.2).1, (q12_1.2).2, vk5_1) ⟨(by first | omega | (simp [-List.getD_eq_getElem?_getD] <;> omega)), (by first | omega | (simp [-List.getD_eq_getElem?_getD] <;> omega)), (by first | omega | (simp [-List.getD_eq_getElem?_getD] <;> omega)), (by first | omega | (simp [-List.getD_eq_getElem?_getD] <;> omega)), (by first | omega | (simp [-List.getD_eq_getElem?_getD] <;> omega)), (by omega), hc183⟩ ⟨rfl, rfl, rfl, trivial⟩ (fun w hw => hw) ?_
        rintro ⟨fu2, k5_2, zP_1_2, zP_2_2, vk5_2⟩ hJ2
        obtain ⟨hi2_0, hi2_1, hi2_2, hi2_3, hi2_4, hmu2, hL2⟩ : (at_ ≤ zP_1_2) ∧ (zP_1_2 ≤ at_ + 200 + 2 * (k5_2.length : Int)) ∧ (0 ≤ zP_2_2) ∧ (zP_2_2 < 18446744073709551616) ∧ (k5_2.length ≤ 62) ∧ 62 - k5_2.length < fu2 ∧ F_spec_l1Cur_requests_L2 code n fu2 (k5_2, zP_1_2, zP_2_2) = c182 := hJ2
        change TC _ _ _ _ (Hp w0 ([rowI 3 vk5_2 k5_2, .blk gc 75 [vc, (.int .i64 zP_1_2), (.int .u64 zP_2_2)]] ++ fr)) [(0, (.pointer (some ⟨gc, 0, none⟩))), (5, vk5_2), (6, (.int .i64 (F_spec_l1Most 1 (F_spec_l1Least n 8))))]
        obtain ⟨mf2, rfl⟩ : ∃ m, fu2 = m + 1 := ⟨fu2 - 1, by omega⟩
        rw [F_spec_l1Cur_requests_L2_s] at hL2
        refine TC.seq ?_
        refine TC.seq ?_
        refine TC.region ?_
        refine TL.op (yq (y_move (ev_t rfl))) rfl rfl rfl ?_
        refine TL.op (yq (y_len (ev_t rfl) Try.underlying34 (fun w hw => ((ri_row 0 rfl) w hw).ln))) rfl rfl rfl ?_
        refine TL.op (yq (y_move (ev_t rfl))) rfl rfl rfl ?_
        refine TL.callmX (ι := Unit) (p := True) 1 (vs := [(.pointer (some ⟨gc, 0, none⟩)), (.int .i64 2)]) (fun _ => (.int .i64 ((F_spec_l1Cur_pick code zP_1_2 zP_2_2 2).1))) (fun _ => .blk gc 75 [vc, (.int .i64 (((F_spec_l1Cur_pick code zP_1_2 zP_2_2 2).2).1)), (.int .u64 (((F_spec_l1Cur_pick code zP_1_2 zP_2_2 2).2).2))]) (fun _ => []) en_65 ⟨(ev_t rfl), ev_c, trivial⟩ rfl rfl (fun w1 _ hw => spec_l1Cur_pick_ok w0 w1 _ gc vc code hcode zP_1_2 zP_2_2 hw 2 (by first | assumption | omega | grind) (by first | assumption | omega | grind) (by first | assumption | omega | grind) (by first | assumption | omega | grind)) (fun hpo184 _ => ?_)
        replace hpo184 := pick_post hcode.2 code zP_1_2 zP_2_2 2 (by omega)
        obtain ⟨q16_3, hq185⟩ : ∃ q, (F_spec_l1Cur_pick code zP_1_2 zP_2_2 2) = q := ⟨_, rfl⟩
        rw [hq185] at hL2 hpo184 ⊢
        try dsimp only at hL2
        refine TL.op (yq (y_add ev_c (ev_t rfl) (by unfold In64; constructor <;> omega))) rfl rfl rfl ?_
        refine TL.op (yq (y_lss (ev_t rfl) (ev_t rfl))) rfl rfl rfl ?_
        refine TL.nil ?_
        refine TN.seq ?_
        refine TC.cond (b := decide ((k5_2.length : Int) < 60 + q16_3.1)) (ev_t rfl) (fun h186 => ?_) (fun h186 => ?_)
        · rw [bif_pos h186] at hL2
          have q187 := (of_decide_eq_true h186)
          refine TC.skip ?_
          refine TN.seq ?_
          refine TC.block ?_
          refine TC.region ?_
          refine TL.op (yq (y_move (ev_t rfl))) rfl rfl rfl ?_
          refine TL.op (yq (y_move (ev_t rfl))) rfl rfl rfl ?_
          refine TL.op (yq (y_len (ev_t rfl) Try.underlying34 (fun w hw => ((ri_row 0 rfl) w hw).ln))) rfl rfl rfl ?_
          refine TL.op (yq (y_move (ev_t rfl))) rfl rfl rfl ?_
          refine TL.op (yq (y_rem (ev_t rfl) (ev_t rfl) (by first | omega | (simp only [Int.natCast_ediv] at *; omega)) (by first | omega | (simp only [Int.natCast_ediv] at *; omega)))) rfl rfl rfl ?_
          refine TL.buildI (zs := [.tmp 103]) (qs := [(k5_2.length : Int) % (F_spec_l1Most 1 (F_spec_l1Least n 8))]) slT_34 rfl ⟨(ev_t rfl), trivial⟩ rfl (by decide) rfl (fun v17_5 => ?_)
          refine TL.appendI 1 (ev_t rfl) (ev_t rfl) rfl slT_34 (ri_row 0 rfl) (by first | omega | (simp [-List.getD_eq_getElem?_getD] <;> omega)) rfl (fun v17_6 => ?_)
          refine TL.op (yq (y_assign (ev_t rfl))) rfl rfl rfl ?_
          refine TL.nil ?_
          refine TN.blockN ?_
          exact TN.hand (mf2, (k5_2 ++ ([(k5_2.length : Int) % (F_spec_l1Most 1 (F_spec_l1Least n 8))])), (q16_3.2).1, (q16_3.2).2, v17_6) ⟨(by first | omega | (simp [-List.getD_eq_getElem?_getD] <;> omega)), (by first | omega | (simp [-List.getD_eq_getElem?_getD] <;> omega)), (by first | omega | (simp [-List.getD_eq_getElem?_getD] <;> omega)), (by first | omega | (simp [-List.getD_eq_getElem?_getD] <;> omega)), (by first | omega | (simp [-List.getD_eq_getElem?_getD] <;> omega)), (by simp only [List.length_append, List.length_set, List.length_cons, List.length_nil]; omega), hL2⟩ (Nat.lt_succ_self _) ⟨rfl, rfl, rfl, trivial⟩ (fun w hw => Hp.sublist hw (.cons _ (.cons_cons _ (.cons_cons _ (List.Sublist.refl _)))))
        · rw [bif_neg h186] at hL2
          have q187 := (of_decide_eq_false h186)
          refine TC.exit ?_
          refine TN.thenE ?_
          refine TN.thenE ?_
          rw [← hL2, elim_next] at hF
          try dsimp only at hF
          refine TN.blockH ?_
          refine TN.blockN ?_
          refine TN.seq ?_
          refine TC.seq ?_
          refine TC.region ?_
          refine TL.op (yq (y_move (ev_t rfl))) rfl rfl rfl ?_
          refine TL.op (yq (y_assign (ev_t rfl))) rfl rfl rfl ?_
          refine TL.nil ?_
          refine TN.seq ?_
          refine TC.ret ?_
          subst hF
          exact TN.ret1 rfl (ev_t rfl) (fun w' hw => ⟨(by dsimp only; first | omega | (simp only [List.length_append, List.length_cons, List.length_nil]; omega)), vk5_2, rfl, Hp.picksF (ks := [rowI 3 vk5_2 k5_2, .blk gc 75 [vc, (.int .i64 ((q16_3.2).1)), (.int .u64 ((q16_3.2).2))]]) (fr := fr) [1, 0] (by decide) rfl hw⟩)
      · rw [bif_neg h180] at hF
        have q181 := (of_decide_eq_false h180)
        refine TC.skip ?_
        refine TN.blockN ?_
        refine TN.seq ?_
        refine TC.seq ?_
        refine TC.region ?_
        refine TL.op (yq (y_move (ev_t rfl))) rfl rfl rfl ?_
        refine TL.op (yq (y_assign (ev_t rfl))) rfl rfl rfl ?_
        refine TL.nil ?_
        refine TN.seq ?_
        refine TC.ret ?_
        subst hF
        exact TN.ret1 rfl (ev_t rfl) (fun w' hw => ⟨(by dsimp only; first | omega | (simp only [List.length_append, List.length_cons, List.length_nil]; omega)), vk5_1, rfl, Hp.picksF (ks := [rowI 3 vk5_1 k5_1, .blk gc 75 [vc, (.int .i64 ((q12_1.2).1)), (.int .u64 ((q12_1.2).2))]]) (fr := fr) [1, 0] (by decide) rfl hw⟩)

set_option maxRecDepth 4000 in
set_option maxHeartbeats 1000000 in
theorem spec_DrawIsRequests_ok (w : World) (vcode : Value) (code : List Int) (hcode : RB w vcode code)  :
    Calls Try.prog 70 ([vcode] : List Value).toArray w (fun e w' => ∃ i : Value, e = .returned (.tuple #[(.int .i64 ((F_spec_DrawIsRequests code).1)), i]) ∧ Hp w [rowI 3 i ((F_spec_DrawIsRequests code).2)] w') := by
  obtain ⟨rz, hF⟩ : ∃ rz, (F_spec_DrawIsRequests code) = rz := ⟨_, rfl⟩
  rw [hF]
  unfold F_spec_DrawIsRequests at hF
  have hlen_code := argB_len hcode
  refine calls_tc Try.func70 rfl rfl rfl ?_
  change TC _ _ _ _ (Hp w []) [(0, vcode)]
  refine TC.seq ?_
  refine TC.region ?_
  refine TL.op (yq (y_assign ev_c)) rfl rfl rfl ?_
  refine TL.op (yq (y_assign ev_c)) rfl rfl rfl ?_
  refine TL.nil ?_
  refine TN.seq ?_
  refine TC.seq ?_
  refine TC.region ?_
  refine TL.op (yq (y_move (ev_t rfl))) rfl rfl rfl ?_
  refine TL.op (yq (y_bldC (ev_t rfl) bd_75_c (fun w hw => ((ru_arg hcode) w hw).ln))) rfl rfl rfl ?_
  refine TL.boxCur (ev_t rfl) (fun w hw => ((ru_arg hcode) w hw).ln) rfl (fun g1_2 => ?_)
  refine TL.op (yq (y_assign (ev_t rfl))) rfl rfl rfl ?_
  refine TL.nil ?_
  refine TN.seq ?_
  refine TC.seq ?_
  refine TC.region ?_
  refine TL.op (yq (y_move (ev_t rfl))) rfl rfl rfl ?_
  refine TL.callmX (ι := Unit) (p := (0 ≤ ((F_spec_l1Cur_items code 0 0).2).1 ∧ ((F_spec_l1Cur_items code 0 0).2).1 ≤ 0 + 6 ∧ 0 ≤ ((F_spec_l1Cur_items code 0 0).2).2 ∧ ((F_spec_l1Cur_items code 0 0).2).2 < 18446744073709551616)) 0 (vs := [(.pointer (some ⟨g1_2, 0, none⟩))]) (fun _ => (.int .i64 ((F_spec_l1Cur_items code 0 0).1))) (fun _ => .blk g1_2 75 [vcode, (.int .i64 (((F_spec_l1Cur_items code 0 0).2).1)), (.int .u64 (((F_spec_l1Cur_items code 0 0).2).2))]) (fun _ => []) en_73 ⟨(ev_t rfl), trivial⟩ rfl rfl (fun w1 _ hw => spec_l1Cur_items_ok w w1 _ g1_2 vcode code hcode 0 0 hw (by first | assumption | omega | grind) (by first | assumption | omega | grind) (by first | assumption | omega | grind) (by first | assumption | omega | grind)) (fun hpo5 _ => ?_)
  obtain ⟨q2_1, hq6⟩ : ∃ q, (F_spec_l1Cur_items code 0 0) = q := ⟨_, rfl⟩
  rw [hq6] at hF hpo5 ⊢
  try dsimp only at hF
  refine TL.op (yq (y_assign (ev_t rfl))) rfl rfl rfl ?_
  refine TL.nil ?_
  refine TN.seq ?_
  refine TC.seq ?_
  refine TC.region ?_
  refine TL.op (yq (y_move (ev_t rfl))) rfl rfl rfl ?_
  refine TL.op (yq (y_move (ev_t rfl))) rfl rfl rfl ?_
  refine TL.op (yq (y_move (ev_t rfl))) rfl rfl rfl ?_
  refine TL.callmX (ι := Value) (p := ((q2_1.2).1 ≤ ((F_spec_l1Cur_requests code ((q2_1.2).1) ((q2_1.2).2) q2_1.1).2).1 ∧ ((F_spec_l1Cur_requests code ((q2_1.2).1) ((q2_1.2).2) q2_1.1).2).1 ≤ ((q2_1.2).1) + 2000 ∧ 0 ≤ ((F_spec_l1Cur_requests code ((q2_1.2).1) ((q2_1.2).2) q2_1.1).2).2 ∧ ((F_spec_l1Cur_requests code ((q2_1.2).1) ((q2_1.2).2) q2_1.1).2).2 < 18446744073709551616 ∧ ((F_spec_l1Cur_requests code ((q2_1.2).1) ((q2_1.2).2) q2_1.1)).1.length ≤ 70)) 0 (vs := [(.pointer (some ⟨g1_2, 0, none⟩)), (.int .i64 q2_1.1)]) (fun i => i) (fun _ => .blk g1_2 75 [vcode, (.int .i64 (((F_spec_l1Cur_requests code ((q2_1.2).1) ((q2_1.2).2) q2_1.1).2).1)), (.int .u64 (((F_spec_l1Cur_requests code ((q2_1.2).1) ((q2_1.2).2) q2_1.1).2).2))]) (fun i => [rowI 3 i ((F_spec_l1Cur_requests code ((q2_1.2).1) ((q2_1.2).2) q2_1.1).1)]) en_121 ⟨(ev_t rfl), (ev_t rfl), trivial⟩ rfl rfl (fun w1 _ hw => spec_l1Cur_requests_ok w w1 _ g1_2 vcode code hcode ((q2_1.2).1) ((q2_1.2).2) hw q2_1.1 (by first | assumption | omega | grind) (by first | assumption | omega | grind) (by first | assumption | omega | grind) (by first | assumption | omega | grind)) (fun hpo7 r3_3 => ?_)
  obtain ⟨q3_3, hq8⟩ : ∃ q, (F_spec_l1Cur_requests code ((q2_1.2).1) ((q2_1.2).2) q2_1.1) = q := ⟨_, rfl⟩
  rw [hq8] at hF hpo7 ⊢
  try dsimp only at hF
  refine TL.op (yq (y_assign (ev_t rfl))) rfl rfl rfl ?_
  refine TL.op (yq (y_assign (ev_t rfl))) rfl rfl rfl ?_
  refine TL.nil ?_
  refine TN.seq ?_
  refine TC.ret ?_
  subst hF
  exact TN.ret2 rfl (ev_t rfl) (ev_t rfl) (fun w' hw => ⟨r3_3, rfl, Hp.sublist hw (.cons_cons _ (.cons _ .slnil))⟩)

set_option maxRecDepth 4000 in
set_option maxHeartbeats 1000000 in
theorem spec_DrawRunsOf_ok (w : World) (vcode : Value) (code : List Int) (hcode : RB w vcode code)  :
    Calls Try.prog 20 ([vcode] : List Value).toArray w (fun e w' => ∃ i : Value, e = .returned (.tuple #[(.int .i64 ((F_spec_DrawRunsOf code).1)), i]) ∧ Hp w [rowI 3 i ((F_spec_DrawRunsOf code).2)] w') := by
  obtain ⟨rz, hF⟩ : ∃ rz, (F_spec_DrawRunsOf code) = rz := ⟨_, rfl⟩
  rw [hF]
  unfold F_spec_DrawRunsOf at hF
  have hlen_code := argB_len hcode
  refine calls_tc Try.func20 rfl rfl rfl ?_
  change TC _ _ _ _ (Hp w []) [(0, vcode)]
  refine TC.seq ?_
  refine TC.region ?_
  refine TL.op (yq (y_assign ev_c)) rfl rfl rfl ?_
  refine TL.op (yq (y_assign ev_c)) rfl rfl rfl ?_
  refine TL.nil ?_
  refine TN.seq ?_
  refine TC.seq ?_
  refine TC.region ?_
  refine TL.op (yq (y_move (ev_t rfl))) rfl rfl rfl ?_
  refine TL.callr (ι := Value) (vs := [vcode]) (fun i => (.tuple #[(.int .i64 ((F_spec_DrawIsRequests code).1)), i])) (fun i => [rowI 3 i ((F_spec_DrawIsRequests code).2)]) en_70 ⟨(ev_t rfl), trivial⟩ rfl (fun w hw => spec_DrawIsRequests_ok w vcode code (rb_arg hcode hw)) (fun r1_1 => ?_)
  refine TL.op (yq (y_extract (ev_t rfl) rfl)) rfl rfl rfl ?_
  refine TL.op (yq (y_extract (ev_t rfl) rfl)) rfl rfl rfl ?_
  refine TL.op (yq (y_assign (ev_t rfl))) rfl rfl rfl ?_
  refine TL.op (yq (y_assign (ev_t rfl))) rfl rfl rfl ?_
  refine TL.nil ?_
  refine TN.seq ?_
  refine TC.ret ?_
  subst hF
  exact TN.ret2 rfl (ev_t rfl) (ev_t rfl) (fun w' hw => ⟨r1_1, rfl, hw⟩)

set_option maxRecDepth 4000 in
set_option maxHeartbeats 1000000 in
theorem spec_DrawFromRuns_ok (w : World) (vcode : Value) (code : List Int) (hcode : RB w vcode code)  :
    Calls Try.prog 23 ([vcode] : List Value).toArray w (fun e w' => ∃ i : Value, e = .returned (.tuple #[(.int .i64 ((F_spec_DrawFromRuns code).1)), i]) ∧ Hp w [rowP 85 i ((F_spec_DrawFromRuns code).2)] w') := by
  obtain ⟨rz, hF⟩ : ∃ rz, (F_spec_DrawFromRuns code) = rz := ⟨_, rfl⟩
  rw [hF]
  unfold F_spec_DrawFromRuns at hF
  have hmb := fun n => most_bd n
  have hlen_code := argB_len hcode
  refine calls_tc Try.func23 rfl rfl rfl ?_
  change TC _ _ _ _ (Hp w []) [(0, vcode)]
  refine TC.seq ?_
  refine TC.region ?_
  refine TL.op (yq (y_assign ev_c)) rfl rfl rfl ?_
  refine TL.op (yq (y_assign ev_c)) rfl rfl rfl ?_
  refine TL.nil ?_
  refine TN.seq ?_
  refine TC.seq ?_
  refine TC.region ?_
  refine TL.op (yq (y_move (ev_t rfl))) rfl rfl rfl ?_
  refine TL.op (yq (y_bldC (ev_t rfl) bd_75_c (fun w hw => ((ru_arg hcode) w hw).ln))) rfl rfl rfl ?_
  refine TL.boxCur (ev_t rfl) (fun w hw => ((ru_arg hcode) w hw).ln) rfl (fun g1_2 => ?_)
  refine TL.op (yq (y_assign (ev_t rfl))) rfl rfl rfl ?_
  refine TL.nil ?_
  refine TN.seq ?_
  refine TC.seq ?_
  refine TC.region ?_
  refine TL.op (yq (y_move (ev_t rfl))) rfl rfl rfl ?_
  refine TL.callmX (ι := Unit) (p := (0 ≤ ((F_spec_l1Cur_items code 0 0).2).1 ∧ ((F_spec_l1Cur_items code 0 0).2).1 ≤ 0 + 6 ∧ 0 ≤ ((F_spec_l1Cur_items code 0 0).2).2 ∧ ((F_spec_l1Cur_items code 0 0).2).2 < 18446744073709551616)) 0 (vs := [(.pointer (some ⟨g1_2, 0, none⟩))]) (fun _ => (.int .i64 ((F_spec_l1Cur_items code 0 0).1))) (fun _ => .blk g1_2 75 [vcode, (.int .i64 (((F_spec_l1Cur_items code 0 0).2).1)), (.int .u64 (((F_spec_l1Cur_items code 0 0).2).2))]) (fun _ => []) en_73 ⟨(ev_t rfl), trivial⟩ rfl rfl (fun w1 _ hw => spec_l1Cur_items_ok w w1 _ g1_2 vcode code hcode 0 0 hw (by first | assumption | omega | grind) (by first | assumption | omega | grind) (by first | assumption | omega | grind) (by first | assumption | omega | grind)) (fun hpo36 _ => ?_)
  obtain ⟨q2_1, hq37⟩ : ∃ q, (F_spec_l1Cur_items code 0 0) = q := ⟨_, rfl⟩
  rw [hq37] at hF hpo36 ⊢
  try dsimp only at hF
  refine TL.op (yq (y_assign (ev_t rfl))) rfl rfl rfl ?_
  refine TL.nil ?_
  refine TN.seq ?_
  refine TC.seq ?_
  refine TC.region ?_
  refine TL.buildP (zs := []) (ps := ([] : List (Int × Int))) slT_37 rfl trivial rfl (by decide) rfl (fun v3_0 => ?_)
  refine TL.op (yq (y_assign (ev_t rfl))) rfl rfl rfl ?_
  refine TL.nil ?_
  refine TN.seq ?_
  refine TC.seq ?_
  refine TC.seq ?_
  refine TC.region ?_
  refine TL.op (yq (y_move (ev_t rfl))) rfl rfl rfl ?_
  refine TL.callmX (ι := Unit) (p := True) 1 (vs := [(.pointer (some ⟨g1_2, 0, none⟩)), (.int .i64 7)]) (fun _ => (.int .i64 ((F_spec_l1Cur_pick code ((q2_1.2).1) ((q2_1.2).2) 7).1))) (fun _ => .blk g1_2 75 [vcode, (.int .i64 (((F_spec_l1Cur_pick code ((q2_1.2).1) ((q2_1.2).2) 7).2).1)), (.int .u64 (((F_spec_l1Cur_pick code ((q2_1.2).1) ((q2_1.2).2) 7).2).2))]) (fun _ => []) en_65 ⟨(ev_t rfl), ev_c, trivial⟩ rfl rfl (fun w1 _ hw => spec_l1Cur_pick_ok w w1 _ g1_2 vcode code hcode ((q2_1.2).1) ((q2_1.2).2) hw 7 (by first | assumption | omega | grind) (by first | assumption | omega | grind) (by first | assumption | omega | grind) (by first | assumption | omega | grind)) (fun hpo38 _ => ?_)
  replace hpo38 := pick_post hcode.2 code ((q2_1.2).1) ((q2_1.2).2) 7 (by omega)
  obtain ⟨q4_1, hq39⟩ : ∃ q, (F_spec_l1Cur_pick code ((q2_1.2).1) ((q2_1.2).2) 7) = q := ⟨_, rfl⟩
  rw [hq39] at hF hpo38 ⊢
  try dsimp only at hF
  refine TL.op (yq (y_assign (ev_t rfl))) rfl rfl rfl ?_
  refine TL.nil ?_
  refine TN.seq ?_
  refine TC.block ?_
  obtain ⟨c40, hc41⟩ : ∃ c, F_spec_DrawFromRuns_L1 code q2_1 ((q4_1.1.toNat) + 1) (([] : List (Int × Int)), q4_1.1, ((q4_1.2).1), ((q4_1.2).2)) = c := ⟨_, rfl⟩
  rw [hc41] at hF
  refine TC.loop (ι := Nat × List (Int × Int) × Int × Int × Int × Value) (fun (fu1, out1, k1, zg1_2_1_1, zg1_2_2_1, vout1) => [(4, (.pointer (some ⟨g1_2, 0, none⟩))), (5, (.int .i64 q2_1.1)), (6, vout1), (7, (.int .i64 k1))]) (fun (fu1, out1, k1, zg1_2_1_1, zg1_2_2_1, vout1) => Hp w [rowP 85 vout1 out1, .blk g1_2 75 [vcode, (.int .i64 zg1_2_1_1), (.int .u64 zg1_2_2_1)]]) (fun (fu1, out1, k1, zg1_2_1_1, zg1_2_2_1, vout1) => (0 ≤ k1 ∧ k1 ≤ 7) ∧ (0 ≤ zg1_2_1_1) ∧ (zg1_2_1_1 ≤ 200 - 10 * k1) ∧ (0 ≤ zg1_2_2_1) ∧ (zg1_2_2_1 < 18446744073709551616) ∧ (out1.length + k1 ≤ 7) ∧ k1.toNat < fu1 ∧ F_spec_DrawFromRuns_L1 code q2_1 fu1 (out1, k1, zg1_2_1_1, zg1_2_2_1) = c40) (fun (fu1, out1, k1, zg1_2_1_1, zg1_2_2_1, vout1) => fu1) ((q4_1.1.toNat) + 1, ([] : List (Int × Int)), q4_1.1, (q4_1.2).1, (q4_1.2).2, v3_0) ⟨(by first | omega | (simp [-List.getD_eq_getElem?_getD] <;> omega)), (by first | omega | (simp [-List.getD_eq_getElem?_getD] <;> omega)), (by first | omega | (simp [-List.getD_eq_getElem?_getD] <;> omega)), (by first | omega | (simp [-List.getD_eq_getElem?_getD] <;> omega)), (by first | omega | (simp [-List.getD_eq_getElem?_getD] <;> omega)), (by first | omega | (simp [-List.getD_eq_getElem?_getD] <;> omega)), (by omega), hc41⟩ ⟨rfl, rfl, rfl, rfl, trivial⟩ (fun w hw => hw) ?_
  rintro ⟨fu1, out1, k1, zg1_2_1_1, zg1_2_2_1, vout1⟩ hJ1
  obtain ⟨hi1_0, hi1_1, hi1_2, hi1_3, hi1_4, hi1_5, hmu1, hL1⟩ : (0 ≤ k1 ∧ k1 ≤ 7) ∧ (0 ≤ zg1_2_1_1) ∧ (zg1_2_1_1 ≤ 200 - 10 * k1) ∧ (0 ≤ zg1_2_2_1) ∧ (zg1_2_2_1 < 18446744073709551616) ∧ (out1.length + k1 ≤ 7) ∧ k1.toNat < fu1 ∧ F_spec_DrawFromRuns_L1 code q2_1 fu1 (out1, k1, zg1_2_1_1, zg1_2_2_1) = c40 := hJ1
  change TC _ _ _ _ (Hp w [rowP 85 vout1 out1, .blk g1_2 75 [vcode, (.int .i64 zg1_2_1_1), (.int .u64 zg1_2_2_1)]]) [(4, (.pointer (some ⟨g1_2, 0, none⟩))), (5, (.int .i64 q2_1.1)), (6, vout1), (7, (.int .i64 k1))]
  obtain ⟨mf1, rfl⟩ : ∃ m, fu1 = m + 1 := ⟨fu1 - 1, by omega⟩
  rw [F_spec_DrawFromRuns_L1_s] at hL1
  refine TC.seq ?_
  refine TC.seq ?_
  refine TC.region ?_
  refine TL.op (yq (y_move (ev_t rfl))) rfl rfl rfl ?_
  refine TL.op (yq (y_gtr (ev_t rfl) ev_c)) rfl rfl rfl ?_
  refine TL.nil ?_
  refine TN.seq ?_
  refine TC.cond (b := decide (0 < k1)) (ev_t rfl) (fun h42 => ?_) (fun h42 => ?_)
  · rw [bif_pos h42] at hL1
    have q43 := (of_decide_eq_true h42)
    refine TC.skip ?_
    refine TN.seq ?_
    refine TC.seq ?_
    refine TC.block ?_
    refine TC.region ?_
    refine TL.op (yq (y_move (ev_t rfl))) rfl rfl rfl ?_
    refine TL.op (yq (y_move (ev_t rfl))) rfl rfl rfl ?_
    refine TL.op (yq (y_move (ev_t rfl))) rfl rfl rfl ?_
    refine TL.op (y_call (vs := [(.int .i64 q2_1.1), (.int .i64 8)]) (v := (.int .i64 (F_spec_l1Least q2_1.1 8))) en_75 ⟨(ev_t rfl), ev_c, trivial⟩ (fun w hw => spec_l1Least_ok w q2_1.1 8)) rfl rfl rfl ?_
    refine TL.op (y_call (vs := [(.int .i64 1), (.int .i64 (F_spec_l1Least q2_1.1 8))]) (v := (.int .i64 (F_spec_l1Most 1 (F_spec_l1Least q2_1.1 8)))) en_74 ⟨ev_c, (ev_t rfl), trivial⟩ (fun w hw => spec_l1Most_ok w 1 (F_spec_l1Least q2_1.1 8))) rfl rfl rfl ?_
    refine TL.callmX (ι := Unit) (p := True) 1 (vs := [(.pointer (some ⟨g1_2, 0, none⟩)), (.int .i64 (F_spec_l1Most 1 (F_spec_l1Least q2_1.1 8)))]) (fun _ => (.int .i64 ((F_spec_l1Cur_pick code zg1_2_1_1 zg1_2_2_1 (F_spec_l1Most 1 (F_spec_l1Least q2_1.1 8))).1))) (fun _ => .blk g1_2 75 [vcode, (.int .i64 (((F_spec_l1Cur_pick code zg1_2_1_1 zg1_2_2_1 (F_spec_l1Most 1 (F_spec_l1Least q2_1.1 8))).2).1)), (.int .u64 (((F_spec_l1Cur_pick code zg1_2_1_1 zg1_2_2_1 (F_spec_l1Most 1 (F_spec_l1Least q2_1.1 8))).2).2))]) (fun _ => []) en_65 ⟨(ev_t rfl), (ev_t rfl), trivial⟩ rfl rfl (fun w1 _ hw => spec_l1Cur_pick_ok w w1 _ g1_2 vcode code hcode zg1_2_1_1 zg1_2_2_1 hw (F_spec_l1Most 1 (F_spec_l1Least q2_1.1 8)) (by first | assumption | omega | grind) (by first | assumption | omega | grind) (by first | assumption | omega | grind) (by first | assumption | omega | grind)) (fun hpo44 _ => ?_)
    replace hpo44 := pick_post hcode.2 code zg1_2_1_1 zg1_2_2_1 (F_spec_l1Most 1 (F_spec_l1Least q2_1.1 8)) (by omega)
    obtain ⟨q7_5, hq45⟩ : ∃ q, (F_spec_l1Cur_pick code zg1_2_1_1 zg1_2_2_1 (F_spec_l1Most 1 (F_spec_l1Least q2_1.1 8))) = q := ⟨_, rfl⟩
    rw [hq45] at hL1 hpo44 ⊢
    try dsimp only at hL1
    refine TL.op (yq (y_move (ev_t rfl))) rfl rfl rfl ?_
    refine TL.buildI (zs := [.const (.int .i64 1), .const (.int .i64 2), .const (.int .i64 3), .const (.int .i64 1), .const (.int .i64 5), .const (.int .i64 20)]) (qs := [1, 2, 3, 1, 5, 20]) slT_34 rfl ⟨ev_c, ev_c, ev_c, ev_c, ev_c, ev_c, trivial⟩ rfl (by decide) rfl (fun v7_7 => ?_)
    refine TL.callmX (ι := Unit) (p := ((q7_5.2).1 ≤ ((F_spec_l1Cur_among code ((q7_5.2).1) ((q7_5.2).2) ([1, 2, 3, 1, 5, 20])).2).1 ∧ ((F_spec_l1Cur_among code ((q7_5.2).1) ((q7_5.2).2) ([1, 2, 3, 1, 5, 20])).2).1 ≤ ((q7_5.2).1) + 2 ∧ 0 ≤ ((F_spec_l1Cur_among code ((q7_5.2).1) ((q7_5.2).2) ([1, 2, 3, 1, 5, 20])).2).2 ∧ ((F_spec_l1Cur_among code ((q7_5.2).1) ((q7_5.2).2) ([1, 2, 3, 1, 5, 20])).2).2 < 18446744073709551616)) 2 (vs := [(.pointer (some ⟨g1_2, 0, none⟩)), v7_7]) (fun _ => (.int .i64 ((F_spec_l1Cur_among code ((q7_5.2).1) ((q7_5.2).2) ([1, 2, 3, 1, 5, 20])).1))) (fun _ => .blk g1_2 75 [vcode, (.int .i64 (((F_spec_l1Cur_among code ((q7_5.2).1) ((q7_5.2).2) ([1, 2, 3, 1, 5, 20])).2).1)), (.int .u64 (((F_spec_l1Cur_among code ((q7_5.2).1) ((q7_5.2).2) ([1, 2, 3, 1, 5, 20])).2).2))]) (fun _ => []) en_76 ⟨(ev_t rfl), (ev_t rfl), trivial⟩ rfl rfl (fun w1 _ hw => spec_l1Cur_among_ok w w1 _ g1_2 vcode code hcode ((q7_5.2).1) ((q7_5.2).2) hw v7_7 ([1, 2, 3, 1, 5, 20]) (fun w2 _ hw2 => (ri_row 1 rfl) w2 hw2) (by first | assumption | omega | decide | (simp only [List.length_cons, List.length_nil]; omega) | grind) (by first | assumption | omega | decide | (simp only [List.length_cons, List.length_nil]; omega) | grind) (by first | assumption | omega | decide | (simp only [List.length_cons, List.length_nil]; omega) | grind) (by first | assumption | omega | decide | (simp only [List.length_cons, List.length_nil]; omega) | grind) (by first | assumption | omega | decide | (simp only [List.length_cons, List.length_nil]; omega) | grind) (by first | assumption | omega | decide | (simp only [List.length_cons, List.length_nil]; omega) | grind)) (fun hpo46 _ => ?_)
    have hr48 := among_rng hcode.2 code ((q7_5.2).1) ((q7_5.2).2) ([1, 2, 3, 1, 5, 20]) (1) (20) (by decide) (by decide) (by omega)
    obtain ⟨q7_8, hq47⟩ : ∃ q, (F_spec_l1Cur_among code ((q7_5.2).1) ((q7_5.2).2) ([1, 2, 3, 1, 5, 20])) = q := ⟨_, rfl⟩
    rw [hq47] at hL1 hpo46 hr48 ⊢
    try dsimp only at hL1
    refine TL.op (yq (y_bldA (ev_t rfl) (ev_t rfl) bd_85_a)) rfl rfl rfl ?_
    refine TL.buildP (zs := [.tmp 29]) (ps := [(q7_5.1, q7_8.1)]) slT_37 rfl ⟨(ev_t rfl), trivial⟩ rfl (by decide) rfl (fun v7_10 => ?_)
    refine TL.appendP 2 (ev_t rfl) (ev_t rfl) rfl slT_37 (rp_row 0 rfl) (by first | omega | (simp [-List.getD_eq_getElem?_getD] <;> omega)) rfl (fun v7_11 => ?_)
    refine TL.op (yq (y_assign (ev_t rfl))) rfl rfl rfl ?_
    refine TL.nil ?_
    refine TN.blockN ?_
    refine TN.seq ?_
    refine TC.region ?_
    refine TL.op (yq (y_move (ev_t rfl))) rfl rfl rfl ?_
    refine TL.op (yq (y_sub (ev_t rfl) ev_c (by unfold In64; constructor <;> omega))) rfl rfl rfl ?_
    refine TL.op (yq (y_assign (ev_t rfl))) rfl rfl rfl ?_
    refine TL.nil ?_
    exact TN.hand (mf1, (out1 ++ ([(q7_5.1, q7_8.1)])), k1 - 1, (q7_8.2).1, (q7_8.2).2, v7_11) ⟨(by first | omega | (simp [-List.getD_eq_getElem?_getD] <;> omega)), (by first | omega | (simp [-List.getD_eq_getElem?_getD] <;> omega)), (by first | omega | (simp [-List.getD_eq_getElem?_getD] <;> omega)), (by first | omega | (simp [-List.getD_eq_getElem?_getD] <;> omega)), (by first | omega | (simp [-List.getD_eq_getElem?_getD] <;> omega)), (by first | omega | (simp [-List.getD_eq_getElem?_getD] <;> omega)), (by omega), hL1⟩ (Nat.lt_succ_self _) ⟨rfl, rfl, rfl, rfl, trivial⟩ (fun w hw => Hp.sublist hw (.cons _ (.cons _ (.cons_cons _ (.cons_cons _ .slnil)))))
  · rw [bif_neg h42] at hL1
    have q43 := (of_decide_eq_false h42)
    refine TC.exit ?_
    refine TN.thenE ?_
    refine TN.thenE ?_
    rw [← hL1, elim_next] at hF
    try dsimp only at hF
    refine TN.blockH ?_
    refine TN.seq ?_
    refine TC.seq ?_
    refine TC.seq ?_
    refine TC.region ?_
    refine TL.op (yq (y_move (ev_t rfl))) rfl rfl rfl ?_
    refine TL.callmX (ι := Unit) (p := True) 1 (vs := [(.pointer (some ⟨g1_2, 0, none⟩)), (.int .i64 12)]) (fun _ => (.bool ((F_spec_l1Cur_one code zg1_2_1_1 zg1_2_2_1 12).1))) (fun _ => .blk g1_2 75 [vcode, (.int .i64 (((F_spec_l1Cur_one code zg1_2_1_1 zg1_2_2_1 12).2).1)), (.int .u64 (((F_spec_l1Cur_one code zg1_2_1_1 zg1_2_2_1 12).2).2))]) (fun _ => []) en_66 ⟨(ev_t rfl), ev_c, trivial⟩ rfl rfl (fun w1 _ hw => spec_l1Cur_one_ok w w1 _ g1_2 vcode code hcode zg1_2_1_1 zg1_2_2_1 hw 12 (by first | assumption | omega | grind) (by first | assumption | omega | grind) (by first | assumption | omega | grind) (by first | assumption | omega | grind)) (fun hpo49 _ => ?_)
    replace hpo49 := one_post hcode.2 code zg1_2_1_1 zg1_2_2_1 12 (by omega)
    obtain ⟨q8_1, hq50⟩ : ∃ q, (F_spec_l1Cur_one code zg1_2_1_1 zg1_2_2_1 12) = q := ⟨_, rfl⟩
    rw [hq50] at hF hpo49 ⊢
    try dsimp only at hF
    refine TL.nil ?_
    refine TN.seq ?_
    refine TC.cond (b := q8_1.1) (ev_t rfl) (fun h51 => ?_) (fun h51 => ?_)
    · rw [bif_pos h51] at hF
      have q52 := h51
      refine TC.region ?_
      refine TL.op (yq (y_move (ev_t rfl))) rfl rfl rfl ?_
      refine TL.op (yq (y_move (ev_t rfl))) rfl rfl rfl ?_
      refine TL.buildI (zs := [.const (.int .i64 0), .const (.int .i64 (-1)), .const (.int .i64 8)]) (qs := [0, -1, 8]) slT_34 rfl ⟨ev_c, ev_c, ev_c, trivial⟩ rfl (by decide) rfl (fun v9_2 => ?_)
      refine TL.callmX (ι := Unit) (p := ((q8_1.2).1 ≤ ((F_spec_l1Cur_among code ((q8_1.2).1) ((q8_1.2).2) ([0, -1, 8])).2).1 ∧ ((F_spec_l1Cur_among code ((q8_1.2).1) ((q8_1.2).2) ([0, -1, 8])).2).1 ≤ ((q8_1.2).1) + 2 ∧ 0 ≤ ((F_spec_l1Cur_among code ((q8_1.2).1) ((q8_1.2).2) ([0, -1, 8])).2).2 ∧ ((F_spec_l1Cur_among code ((q8_1.2).1) ((q8_1.2).2) ([0, -1, 8])).2).2 < 18446744073709551616)) 2 (vs := [(.pointer (some ⟨g1_2, 0, none⟩)), v9_2]) (fun _ => (.int .i64 ((F_spec_l1Cur_among code ((q8_1.2).1) ((q8_1.2).2) ([0, -1, 8])).1))) (fun _ => .blk g1_2 75 [vcode, (.int .i64 (((F_spec_l1Cur_among code ((q8_1.2).1) ((q8_1.2).2) ([0, -1, 8])).2).1)), (.int .u64 (((F_spec_l1Cur_among code ((q8_1.2).1) ((q8_1.2).2) ([0, -1, 8])).2).2))]) (fun _ => []) en_76 ⟨(ev_t rfl), (ev_t rfl), trivial⟩ rfl rfl (fun w1 _ hw => spec_l1Cur_among_ok w w1 _ g1_2 vcode code hcode ((q8_1.2).1) ((q8_1.2).2) hw v9_2 ([0, -1, 8]) (fun w2 _ hw2 => (ri_row 1 rfl) w2 hw2) (by first | assumption | omega | decide | (simp only [List.length_cons, List.length_nil]; omega) | grind) (by first | assumption | omega | decide | (simp only [List.length_cons, List.length_nil]; omega) | grind) (by first | assumption | omega | decide | (simp only [List.length_cons, List.length_nil]; omega) | grind) (by first | assumption | omega | decide | (simp only [List.length_cons, List.length_nil]; omega) | grind) (by first | assumption | omega | decide | (simp only [List.length_cons, List.length_nil]; omega) | grind) (by first | assumption | omega | decide | (simp only [List.length_cons, List.length_nil]; omega) | grind)) (fun hpo53 _ => ?_)
      have hr55 := among_rng hcode.2 code ((q8_1.2).1) ((q8_1.2).2) ([0, -1, 8]) (-1) (8) (by decide) (by decide) (by omega)
      obtain ⟨q9_3, hq54⟩ : ∃ q, (F_spec_l1Cur_among code ((q8_1.2).1) ((q8_1.2).2) ([0, -1, 8])) = q := ⟨_, rfl⟩
      rw [hq54] at hF hpo53 hr55 ⊢
      try dsimp only at hF
      refine TL.op (yq (y_move (ev_t rfl))) rfl rfl rfl ?_
      refine TL.buildI (zs := [.const (.int .i64 0), .const (.int .i64 1), .const (.int .i64 (-1)), .const (.int .i64 60), .const (.int .i64 (-9223372036854775808))]) (qs := [0, 1, -1, 60, -9223372036854775808]) slT_34 rfl ⟨ev_c, ev_c, ev_c, ev_c, ev_c, trivial⟩ rfl (by decide) rfl (fun v9_5 => ?_)
      refine TL.callmX (ι := Unit) (p := ((q9_3.2).1 ≤ ((F_spec_l1Cur_among code ((q9_3.2).1) ((q9_3.2).2) ([0, 1, -1, 60, -9223372036854775808])).2).1 ∧ ((F_spec_l1Cur_among code ((q9_3.2).1) ((q9_3.2).2) ([0, 1, -1, 60, -9223372036854775808])).2).1 ≤ ((q9_3.2).1) + 2 ∧ 0 ≤ ((F_spec_l1Cur_among code ((q9_3.2).1) ((q9_3.2).2) ([0, 1, -1, 60, -9223372036854775808])).2).2 ∧ ((F_spec_l1Cur_among code ((q9_3.2).1) ((q9_3.2).2) ([0, 1, -1, 60, -9223372036854775808])).2).2 < 18446744073709551616)) 3 (vs := [(.pointer (some ⟨g1_2, 0, none⟩)), v9_5]) (fun _ => (.int .i64 ((F_spec_l1Cur_among code ((q9_3.2).1) ((q9_3.2).2) ([0, 1, -1, 60, -9223372036854775808])).1))) (fun _ => .blk g1_2 75 [vcode, (.int .i64 (((F_spec_l1Cur_among code ((q9_3.2).1) ((q9_3.2).2) ([0, 1, -1, 60, -9223372036854775808])).2).1)), (.int .u64 (((F_spec_l1Cur_among code ((q9_3.2).1) ((q9_3.2).2) ([0, 1, -1, 60, -9223372036854775808])).2).2))]) (fun _ => []) en_76 ⟨(ev_t rfl), (ev_t rfl), trivial⟩ rfl rfl (fun w1 _ hw => spec_l1Cur_among_ok w w1 _ g1_2 vcode code hcode ((q9_3.2).1) ((q9_3.2).2) hw v9_5 ([0, 1, -1, 60, -9223372036854775808]) (fun w2 _ hw2 => (ri_row 1 rfl) w2 hw2) (by first | assumption | omega | decide | (simp only [List.length_cons, List.length_nil]; omega) | grind) (by first | assumption | omega | decide | (simp only [List.length_cons, List.length_nil]; omega) | grind) (by first | assumption | omega | decide | (simp only [List.length_cons, List.length_nil]; omega) | grind) (by first | assumption | omega | decide | (simp only [List.length_cons, List.length_nil]; omega) | grind) (by first | assumption | omega | decide | (simp only [List.length_cons, List.length_nil]; omega) | grind) (by first | assumption | omega | decide | (simp only [List.length_cons, List.length_nil]; omega) | grind)) (fun hpo56 _ => ?_)
      have hr58 := among_rng hcode.2 code ((q9_3.2).1) ((q9_3.2).2) ([0, 1, -1, 60, -9223372036854775808]) (-9223372036854775808) (60) (by decide) (by decide) (by omega)
      obtain ⟨q9_6, hq57⟩ : ∃ q, (F_spec_l1Cur_among code ((q9_3.2).1) ((q9_3.2).2) ([0, 1, -1, 60, -9223372036854775808])) = q := ⟨_, rfl⟩
      rw [hq57] at hF hpo56 hr58 ⊢
      try dsimp only at hF
      refine TL.op (yq (y_bldA (ev_t rfl) (ev_t rfl) bd_85_a)) rfl rfl rfl ?_
      refine TL.buildP (zs := [.tmp 41]) (ps := [(q9_3.1, q9_6.1)]) slT_37 rfl ⟨(ev_t rfl), trivial⟩ rfl (by decide) rfl (fun v9_8 => ?_)
      refine TL.appendP 3 (ev_t rfl) (ev_t rfl) rfl slT_37 (rp_row 0 rfl) (by first | omega | (simp [-List.getD_eq_getElem?_getD] <;> omega)) rfl (fun v9_9 => ?_)
      refine TL.op (yq (y_assign (ev_t rfl))) rfl rfl rfl ?_
      refine TL.nil ?_
      refine TN.seq ?_
      refine TC.seq ?_
      refine TC.region ?_
      refine TL.op (yq (y_move (ev_t rfl))) rfl rfl rfl ?_
      refine TL.op (yq (y_move (ev_t rfl))) rfl rfl rfl ?_
      refine TL.op (yq (y_assign (ev_t rfl))) rfl rfl rfl ?_
      refine TL.op (yq (y_assign (ev_t rfl))) rfl rfl rfl ?_
      refine TL.nil ?_
      refine TN.seq ?_
      refine TC.ret ?_
      subst hF
      exact TN.ret2 rfl (ev_t rfl) (ev_t rfl) (fun w' hw => ⟨v9_9, rfl, Hp.sublist hw (.cons _ (.cons _ (.cons _ (.cons_cons _ (.cons _ .slnil)))))⟩)
    · rw [bif_neg h51] at hF
      have q52 := h51
      refine TC.skip ?_
      refine TN.seq ?_
      refine TC.seq ?_
      refine TC.region ?_
      refine TL.op (yq (y_move (ev_t rfl))) rfl rfl rfl ?_
      refine TL.op (yq (y_move (ev_t rfl))) rfl rfl rfl ?_
      refine TL.op (yq (y_assign (ev_t rfl))) rfl rfl rfl ?_
      refine TL.op (yq (y_assign (ev_t rfl))) rfl rfl rfl ?_
      refine TL.nil ?_
      refine TN.seq ?_
      refine TC.ret ?_
      subst hF
      exact TN.ret2 rfl (ev_t rfl) (ev_t rfl) (fun w' hw => ⟨vout1, rfl, Hp.sublist hw (.cons_cons _ (.cons _ .slnil))⟩)


end Go.Proofs.Ytcmhgkcifejgcaa
namespace Go.Proofs.Ytcmhgkcifejgcaa
set_option linter.unusedVariables false
set_option linter.unusedSimpArgs false
open Go Go.RowKit
set_option linter.unusedVariables false
set_option linter.unusedSimpArgs false

/-! equal lists pass -/
theorem vInts_refl (a : List Int) : F_laws_vInts a a = true := by
  unfold F_laws_vInts
  rw [bif_neg (by simp)]
  rcases scan (F_laws_vInts_L1 a a) a.length (fun i => !decide ((a.getD i 0) = (a.getD i 0))) (fun _ => false) (fun m i => F_laws_vInts_L1_s a a i m) (a.length - 0 + 1) 0 (by omega) with ⟨h1, _⟩ | ⟨j, _, _, _, h4, _⟩
  · rw [h1]; rfl
  · simp at h4
theorem vPairs_refl (a : List (Int × Int)) : F_laws_vPairs a a = true := by
  unfold F_laws_vPairs
  rw [bif_neg (by simp)]
  rcases scan (F_laws_vPairs_L1 a a) a.length (fun i => !(((a.getD i (0, 0)).1) == ((a.getD i (0, 0)).1) && ((a.getD i (0, 0)).2) == ((a.getD i (0, 0)).2))) (fun _ => false) (fun m i => F_laws_vPairs_L1_s a a i m) (a.length - 0 + 1) 0 (by omega) with ⟨h1, _⟩ | ⟨j, _, _, _, h4, _⟩
  · rw [h1]; rfl
  · simp at h4
theorem vSum_L1 (a : List Int) : ∀ (fuel i : Nat) (n : Int), a.length - i < fuel → i ≤ a.length → ∃ k, F_laws_vSum_L1 a fuel (n, i) = .next (n + (a.drop i).sum, k) := by
  intro fuel
  induction fuel with
  | zero => intro i n h; omega
  | succ m ih =>
    intro i n h hi
    rw [F_laws_vSum_L1_s]
    by_cases hl : i < a.length
    · rw [bif_pos (decide_eq_true (by omega))]
      obtain ⟨k, hk⟩ := ih (i + 1) (n + a.getD i 0) (by omega) (by omega)
      refine ⟨k, ?_⟩
      rw [hk]
      have : (a.drop i).sum = a.getD i 0 + (a.drop (i + 1)).sum := by
        rw [List.drop_eq_getElem_cons hl, List.sum_cons, getD_lt _ _ _ hl]
      rw [this, Int.add_assoc]
    · rw [bif_neg (decide_eq_false (by omega))]
      have : i = a.length := by omega
      subst this
      exact ⟨a.length, by simp⟩
theorem vSum_eq (a : List Int) : F_laws_vSum a = a.sum := by
  unfold F_laws_vSum
  obtain ⟨k, hk⟩ := vSum_L1 a (a.length - 0 + 1) 0 0 (by omega) (by omega)
  rw [hk, elim_next]
  simp

/-! runs -/
def decR (ps : List (Int × Int)) : List Int := ps.flatMap fun p => List.replicate p.2.toNat p.1
theorem decR_app (ps qs : List (Int × Int)) : decR (ps ++ qs) = decR ps ++ decR qs := by unfold decR; rw [List.flatMap_append]
theorem decR_one (a b : Int) : decR [(a, b)] = List.replicate b.toNat a := by simp [decR]
theorem decR_len (ps : List (Int × Int)) (h : ∀ p ∈ ps, 1 ≤ p.2) : ps.length ≤ (decR ps).length := by
  induction ps with
  | nil => simp
  | cons p r ih =>
    have h1 := h p (by simp)
    have h2 := ih fun q hq => h q (by simp [hq])
    have : decR (p :: r) = List.replicate p.2.toNat p.1 ++ decR r := rfl
    rw [this, List.length_append, List.length_replicate, List.length_cons]
    omega
theorem set_last {α : Type} (o : List α) (p q : α) : (o ++ [p]).set ((((o ++ [p]).length : Nat) : Int) - 1).toNat q = o ++ [q] := by
  have : ((((o ++ [p]).length : Nat) : Int) - 1).toNat = o.length := by rw [List.length_append]; simp
  rw [this]; simp
theorem get_last {α : Type} (o : List α) (p d : α) : (o ++ [p]).getD ((((o ++ [p]).length : Nat) : Int) - 1).toNat d = p := by
  have : ((((o ++ [p]).length : Nat) : Int) - 1).toNat = o.length := by rw [List.length_append]; simp
  rw [this]; simp
structure RInv (l : List Int) (i : Nat) (out : List (Int × Int)) : Prop where
  d : decR out = l.take i
  p : ∀ p ∈ out, 1 ≤ p.2
  e : 0 < i → ∃ o c, out = o ++ [(l.getD (((i : Int) - 1).toNat) 0, c)]
theorem runs_L1 (l : List Int) : ∀ (fuel i : Nat) (out : List (Int × Int)), l.length - i < fuel → i ≤ l.length → RInv l i out →
    ∃ out' k, F_spec_RunsOf_L1 l fuel (out, i) = .next (out', k) ∧ F_impl_RunsOf_L1 l fuel (out, i) = .next (out', k) ∧ RInv l l.length out' := by
  intro fuel
  induction fuel with
  | zero => intro i out h; omega
  | succ m ih =>
    intro i out h hi hr
    rw [F_spec_RunsOf_L1_s, F_impl_RunsOf_L1_s]
    by_cases hlt : i < l.length
    · rw [bif_pos (decide_eq_true (by omega)), bif_pos (decide_eq_true (by omega))]
      have htk : l.take (i + 1) = l.take i ++ [l.getD i 0] := by rw [List.take_succ_eq_append_getElem hlt, getD_lt _ _ _ hlt]
      have hip : (((i + 1 : Nat) : Int) - 1).toNat = i := by omega
      by_cases hc : 0 < i ∧ l.getD i 0 = l.getD (((i : Int) - 1).toNat) 0
      · rw [bif_pos (by rw [decide_eq_true (by omega), decide_eq_true hc.2]; rfl), bif_neg (by rw [decide_eq_false (by omega), decide_eq_true hc.2.symm]; rfl)]
        obtain ⟨o, c, rfl⟩ := hr.e hc.1
        rw [get_last, set_last]
        have h1 := hr.p (l.getD (((i : Int) - 1).toNat) 0, c) (by simp)
        refine ih (i + 1) _ (by omega) (by omega) ⟨?_, fun p hp => ?_, fun _ => ⟨o, c + 1, by rw [hip, hc.2]⟩⟩
        · rw [htk, ← hr.d, decR_app, decR_app, decR_one, decR_one, List.append_assoc]
          congr 1
          have : (c + 1).toNat = c.toNat + 1 := by
            have : 1 ≤ c := h1
            omega
          dsimp only
          rw [this, List.replicate_succ', hc.2]
        · rcases List.mem_append.1 hp with hp | hp
          · exact hr.p p (by simp [hp])
          · rw [List.mem_singleton.1 hp]
            have : 1 ≤ c := h1
            show 1 ≤ c + 1
            omega
      · rw [bif_neg (by
          rw [Bool.and_eq_false_iff, decide_eq_false_iff_not, decide_eq_false_iff_not]
          by_cases h0 : 0 < i
          · right; exact fun e => hc ⟨h0, e⟩
          · left; omega), bif_pos (by
          rw [Bool.or_eq_true, decide_eq_true_eq, Bool.not_eq_true', decide_eq_false_iff_not]
          by_cases h0 : 0 < i
          · right; exact fun e => hc ⟨h0, e.symm⟩
          · left; omega)]
        rw [get_last, set_last]
        refine ih (i + 1) _ (by omega) (by omega) ⟨?_, fun p hp => ?_, fun _ => ⟨out, 1, by rw [hip]⟩⟩
        · rw [htk, ← hr.d, decR_app, decR_one]; rfl
        · rcases List.mem_append.1 hp with hp | hp
          · exact hr.p p hp
          · rw [List.mem_singleton.1 hp]
            show (1 : Int) ≤ 1
            omega
    · rw [bif_neg (decide_eq_false (by omega)), bif_neg (decide_eq_false (by omega))]
      have : i = l.length := by omega
      subst this
      exact ⟨out, _, rfl, rfl, hr⟩
theorem runs_both (n : Int) (l : List Int) (h : F_impl_IsRequests n l = true) : ∃ ps, F_impl_RunsOf n l = (ps, true) ∧ F_spec_RunsOf n l = (ps, true) ∧ decR ps = l ∧ ∀ p ∈ ps, 1 ≤ p.2 := by
  have h' := h
  rw [requests_eq] at h'
  unfold F_impl_RunsOf F_spec_RunsOf
  rw [h, h', Bool.not_true, cond_false, cond_false]
  obtain ⟨ps, k, h1, h2, h3⟩ := runs_L1 l (l.length - 0 + 1) 0 [] (by omega) (by omega) ⟨rfl, by simp, by omega⟩
  rw [h1, h2, elim_next]
  exact ⟨ps, rfl, rfl, by rw [h3.d, List.take_length], h3.p⟩
theorem runs_eq (n : Int) (l : List Int) : F_impl_RunsOf n l = F_spec_RunsOf n l := by
  cases h : F_impl_IsRequests n l
  · have h' := h
    rw [requests_eq] at h'
    unfold F_impl_RunsOf F_spec_RunsOf
    rw [h, h']; rfl
  · obtain ⟨ps, h1, h2, _⟩ := runs_both n l h
    rw [h1, h2]

/-! lists of runs -/
theorem from_L2 (runs : List (Int × Int)) (k : Nat) : ∀ (fuel j : Nat) (o : List Int), (runs.getD k (0, 0)).2.toNat - j < fuel → j ≤ (runs.getD k (0, 0)).2.toNat →
    ∃ q, F_spec_FromRuns_L2 runs k fuel (o, j) = .next (o ++ List.replicate ((runs.getD k (0, 0)).2.toNat - j) (runs.getD k (0, 0)).1, q) := by
  intro fuel
  induction fuel with
  | zero => intro j o h; omega
  | succ m ih =>
    intro j o h hj
    rw [F_spec_FromRuns_L2_s]
    by_cases hl : j < (runs.getD k (0, 0)).2.toNat
    · rw [bif_pos (decide_eq_true (by omega))]
      obtain ⟨q, hq⟩ := ih (j + 1) (o ++ [(runs.getD k (0, 0)).1]) (by omega) (by omega)
      refine ⟨q, ?_⟩
      rw [hq, List.append_assoc, show (runs.getD k (0, 0)).2.toNat - j = ((runs.getD k (0, 0)).2.toNat - (j + 1)) + 1 by omega, List.replicate_succ]
      rfl
    · rw [bif_neg (decide_eq_false (by omega))]
      refine ⟨j, ?_⟩
      rw [show (runs.getD k (0, 0)).2.toNat - j = 0 by omega]
      simp
theorem from_L1 (n : Int) (runs : List (Int × Int)) : ∀ (fuel k : Nat) (o : List Int), F_impl_FromRuns_L1 n runs fuel (o, k) = F_spec_FromRuns_L1 n runs fuel (o, k) := by
  intro fuel
  induction fuel with
  | zero => intro k o; rfl
  | succ m ih =>
    intro k o
    rw [F_spec_FromRuns_L1_s, F_impl_FromRuns_L1_s]
    by_cases hl : k < runs.length
    · rw [bif_pos (decide_eq_true (by omega)), bif_pos (decide_eq_true (by omega))]
      cases hc : ((!((decide (0 ≤ ((runs.getD k (0, 0)).1))) && (decide (((runs.getD k (0, 0)).1) ≤ (n - 1))))) || (!((decide (1 ≤ ((runs.getD k (0, 0)).2))) && (decide (((runs.getD k (0, 0)).2) ≤ (60 - (o.length : Int)))))))
      · rw [bif_neg rfl, bif_neg rfl]
        simp only [Bool.or_eq_false_iff, Bool.not_eq_false', Bool.and_eq_true, decide_eq_true_eq] at hc
        obtain ⟨q, hq⟩ := from_L2 runs k ((runs.getD k (0, 0)).2.toNat - 0 + 1) 0 o (by omega) (by omega)
        rw [hq, elim_next, ih, repeat_eq _ _ (by omega) (by omega)]
        rfl
      · rfl
    · rw [bif_neg (decide_eq_false (by omega)), bif_neg (decide_eq_false (by omega))]
theorem from_eq (n : Int) (runs : List (Int × Int)) : F_impl_FromRuns n runs = F_spec_FromRuns n runs := by
  unfold F_impl_FromRuns F_spec_FromRuns
  rw [from_L1]
theorem from_ok_L1 (n : Int) (runs : List (Int × Int)) (hp : ∀ p ∈ runs, 1 ≤ p.2 ∧ 0 ≤ p.1 ∧ p.1 < n) (h60 : (decR runs).length ≤ 60) : ∀ (fuel k : Nat), runs.length - k < fuel → k ≤ runs.length →
    ∃ q, F_impl_FromRuns_L1 n runs fuel (decR (runs.take k), k) = .next (decR runs, q) := by
  intro fuel
  induction fuel with
  | zero => intro k h; omega
  | succ m ih =>
    intro k h hk
    rw [F_impl_FromRuns_L1_s]
    by_cases hl : k < runs.length
    · rw [bif_pos (decide_eq_true (by omega))]
      have hg : runs.getD k (0, 0) = runs[k] := getD_lt _ _ _ hl
      have hpk := hp runs[k] (List.getElem_mem hl)
      have htk : runs.take (k + 1) = runs.take k ++ [runs[k]] := List.take_succ_eq_append_getElem hl
      have hd : decR (runs.take (k + 1)) = decR (runs.take k) ++ List.replicate (runs[k]).2.toNat (runs[k]).1 := by rw [htk, decR_app, ← decR_one]
      have hlen : (decR (runs.take (k + 1))).length ≤ 60 := by
        have : decR runs = decR (runs.take (k + 1)) ++ decR (runs.drop (k + 1)) := by rw [← decR_app, List.take_append_drop]
        rw [this, List.length_append] at h60
        omega
      rw [hd, List.length_append, List.length_replicate] at hlen
      rw [hg]
      rw [bif_neg (by
        simp only [Bool.or_eq_false_iff, Bool.not_eq_false', Bool.and_eq_true, decide_eq_true_eq]
        omega), repeat_eq _ _ (by omega) (by omega), ← hd]
      exact ih (k + 1) (by omega) (by omega)
    · rw [bif_neg (decide_eq_false (by omega))]
      exact ⟨k, by rw [List.take_of_length_le (by omega)]⟩
theorem from_runs (n : Int) (l : List Int) (ps : List (Int × Int)) (h : F_impl_IsRequests n l = true) (hd : decR ps = l) (hp : ∀ p ∈ ps, 1 ≤ p.2) : F_impl_FromRuns n ps = (l, true) := by
  obtain ⟨hn, hl, hr⟩ := isRequests_t h
  have hlen := decR_len ps hp
  rw [hd] at hlen
  have hin : ∀ p ∈ ps, 1 ≤ p.2 ∧ 0 ≤ p.1 ∧ p.1 < n := fun p hm => by
    have h1 := hp p hm
    have hmem : p.1 ∈ l := by
      rw [← hd]
      exact List.mem_flatMap.2 ⟨p, hm, List.mem_replicate.2 ⟨by omega, rfl⟩⟩
    obtain ⟨i, hi, e⟩ := List.getElem_of_mem hmem
    have := hr i hi
    rw [getD_lt _ _ _ hi, e] at this
    exact ⟨h1, this⟩
  unfold F_impl_FromRuns
  rw [bif_neg (by
    simp only [Bool.or_eq_false_iff, Bool.not_eq_false', Bool.and_eq_true, decide_eq_true_eq, decide_eq_false_iff_not]
    omega)]
  obtain ⟨q, hq⟩ := from_ok_L1 n ps hin (by rw [hd]; exact hl) (ps.length - 0 + 1) 0 (by omega) (by omega)
  have h0 : decR (ps.take 0) = [] := rfl
  rw [h0] at hq
  rw [hq, elim_next, hd]
end Go.Proofs.Ytcmhgkcifejgcaa
namespace Go.Proofs.Ytcmhgkcifejgcaa
set_option linter.unusedVariables false
set_option linter.unusedSimpArgs false
open Go Go.RowKit
set_option linter.unusedVariables false
set_option linter.unusedSimpArgs false

/-! counts -/
theorem ru_sum_set (xs : List Int) (k : Nat) (hk : k < xs.length) : (xs.set k (xs.getD k 0 + 1)).sum = xs.sum + 1 := by
  induction xs generalizing k with
  | nil => simp at hk
  | cons a r ih =>
    cases k with
    | zero => simp; omega
    | succ k =>
      have := ih k (by simpa using hk)
      simp only [List.set_cons_succ, List.getD_cons_succ, List.sum_cons]
      rw [this]; omega
theorem counts_L1 (n : Int) (l : List Int) (hr : ∀ i, i < l.length → 0 ≤ l.getD i 0 ∧ l.getD i 0 < n) : ∀ (fuel i : Nat) (out : List Int), l.length - i < fuel → i ≤ l.length → out.length = n.toNat → out.sum = i → (∀ j : Nat, 0 ≤ out.getD j 0 ∧ out.getD j 0 ≤ (i : Int)) →
    ∃ k out', F_impl_CountsOf_L1 l fuel (i, out) = .next (k, out') ∧ F_spec_l3Counts_L1 l fuel (i, out) = .next (k, out') ∧ out'.length = n.toNat ∧ out'.sum = l.length ∧ ∀ j : Nat, 0 ≤ out'.getD j 0 ∧ out'.getD j 0 ≤ (l.length : Int) := by
  intro fuel
  induction fuel with
  | zero => intro i out h; omega
  | succ m ih =>
    intro i out h hi hl hs hb
    rw [F_impl_CountsOf_L1_s, F_spec_l3Counts_L1_s]
    by_cases hlt : i < l.length
    · rw [bif_pos (decide_eq_true (by omega)), bif_pos (decide_eq_true (by omega))]
      have := hr i hlt
      exact ih (i + 1) _ (by omega) (by omega) (by simp [hl]) (by rw [ru_sum_set _ _ (by omega), hs]; rfl) (bd_set1 hb)
    · rw [bif_neg (decide_eq_false (by omega)), bif_neg (decide_eq_false (by omega))]
      have : i = l.length := by omega
      subst this
      exact ⟨_, out, rfl, rfl, hl, hs, hb⟩
theorem ru_sum_rep (n : Nat) : (List.replicate n (0 : Int)).sum = 0 := by
  induction n with
  | zero => rfl
  | succ n ih => rw [List.replicate_succ, List.sum_cons, ih]; rfl
theorem counts_both (n : Int) (l : List Int) (h : F_impl_IsRequests n l = true) : ∃ cs, F_impl_CountsOf n l = (cs, true) ∧ F_spec_CountsOf n l = (cs, true) ∧ cs.length = n.toNat ∧ cs.sum = l.length ∧ ∀ j : Nat, 0 ≤ cs.getD j 0 ∧ cs.getD j 0 ≤ (l.length : Int) := by
  have h' := h
  rw [requests_eq] at h'
  obtain ⟨hn, hl, hr⟩ := isRequests_t h
  obtain ⟨k, cs, h1, h2, h3⟩ := counts_L1 n l hr (l.length - 0 + 1) 0 (List.replicate n.toNat 0) (by omega) (by omega) List.length_replicate (ru_sum_rep _) (bd_zero _)
  unfold F_impl_CountsOf F_spec_CountsOf F_spec_l3Counts
  rw [h, h', Bool.not_true, cond_false, cond_false, h1, h2, elim_next, elim_next]
  exact ⟨cs, rfl, rfl, h3⟩
theorem counts_eq (n : Int) (l : List Int) : F_impl_CountsOf n l = F_spec_CountsOf n l := by
  cases h : F_impl_IsRequests n l
  · have h' := h
    rw [requests_eq] at h'
    unfold F_impl_CountsOf F_spec_CountsOf
    rw [h, h']; rfl
  · obtain ⟨ps, h1, h2, _⟩ := counts_both n l h
    rw [h1, h2]

/-! last uses -/
theorem l3Last_L2_eq (l : List Int) (i : Nat) : ∀ (fuel : Nat) (r : Int), F_spec_l3Last_L2 l i fuel r = F_impl_lastUses_L2 l i fuel r := by
  intro fuel
  induction fuel with
  | zero => intro r; rfl
  | succ m ih => intro r; rw [F_spec_l3Last_L2_s, F_impl_lastUses_L2_s, ih]
theorem l3Last_L1_eq (l : List Int) : ∀ (fuel i : Nat) (o : List Int), F_spec_l3Last_L1 l fuel (o, i) = F_impl_lastUses_L1 l fuel (o, i) := by
  intro fuel
  induction fuel with
  | zero => intro i o; rfl
  | succ m ih =>
    intro i o
    rw [F_spec_l3Last_L1_s, F_impl_lastUses_L1_s, l3Last_L2_eq]
    congr 2
    funext r
    exact ih _ _
theorem l3Last_eq (l : List Int) : F_spec_l3Last l = F_impl_lastUses l := by
  unfold F_spec_l3Last F_impl_lastUses
  rw [l3Last_L1_eq]

/-! next uses -/
/-- The next later place with the same item, or -1. -/
def NextAt (l : List Int) (j : Nat) (r : Int) : Prop :=
  (r = -1 ∧ ∀ k : Nat, j < k → k < l.length → l.getD k 0 ≠ l.getD j 0) ∨
  ∃ m : Nat, r = m ∧ j < m ∧ m < l.length ∧ l.getD m 0 = l.getD j 0 ∧ ∀ k : Nat, j < k → k < m → l.getD k 0 ≠ l.getD j 0
theorem NextAt.uniq {l : List Int} {j : Nat} {r s : Int} (h1 : NextAt l j r) (h2 : NextAt l j s) : r = s := by
  rcases h1 with ⟨h1, h3⟩ | ⟨m, h1, h3, h4, h5, h6⟩ <;> rcases h2 with ⟨h2, g3⟩ | ⟨q, h2, g3, g4, g5, g6⟩
  · rw [h1, h2]
  · exact absurd g5 (h3 q g3 g4)
  · exact absurd h5 (g3 m h3 h4)
  · rcases Nat.lt_trichotomy m q with h | h | h
    · exact absurd h5 (g6 m h3 h)
    · rw [h1, h2, h]
    · exact absurd g5 (h6 q g3 h)
theorem later_L2 (l : List Int) (i : Nat) : ∀ (fuel k : Nat), l.length - k < fuel → i < k → k ≤ l.length → (∀ j : Nat, i < j → j < k → l.getD j 0 ≠ l.getD i 0) →
    ∃ k', F_spec_l3Later_L2 l i fuel k = .next k' ∧ i < k' ∧ k' ≤ l.length ∧ (k' < l.length → l.getD k' 0 = l.getD i 0) ∧ ∀ j : Nat, i < j → j < k' → l.getD j 0 ≠ l.getD i 0 := by
  intro fuel
  induction fuel with
  | zero => intro k h; omega
  | succ m ih =>
    intro k h h1 h2 h3
    rw [F_spec_l3Later_L2_s]
    cases hc : (decide ((k : Int) < (l.length : Int)) && !decide (l.getD k 0 = l.getD i 0))
    · refine ⟨k, rfl, h1, h2, fun h0 => ?_, h3⟩
      rw [decide_eq_true (by omega)] at hc
      simpa using hc
    · simp only [Bool.and_eq_true, decide_eq_true_eq, Bool.not_eq_true', decide_eq_false_iff_not] at hc
      refine ih (k + 1) (by omega) (by omega) (by omega) fun j hj hjk => ?_
      by_cases e : j = k
      · rw [e]; exact hc.2
      · exact h3 j hj (by omega)
theorem later_L1 (l : List Int) : ∀ (fuel i : Nat) (out : List Int), l.length - i < fuel → i ≤ l.length → out.length = i → (∀ j, j < i → NextAt l j (out.getD j 0)) →
    ∃ out' k, F_spec_l3Later_L1 l fuel (out, i) = .next (out', k) ∧ out'.length = l.length ∧ ∀ j, j < l.length → NextAt l j (out'.getD j 0) := by
  intro fuel
  induction fuel with
  | zero => intro i out h; omega
  | succ m ih =>
    intro i out h hi hl hd
    rw [F_spec_l3Later_L1_s]
    have hstep : ∀ r, NextAt l i r → ∀ j, j < i + 1 → NextAt l j ((out ++ [r]).getD j 0) := fun r hr j hj => by
      by_cases e : j = i
      · subst e; subst hl; simpa using hr
      · have hjl : j < out.length := by omega
        have : (out ++ [r]).getD j 0 = out.getD j 0 := by simp only [List.getD_eq_getElem?_getD]; rw [List.getElem?_append_left hjl]
        rw [this]; exact hd j (by omega)
    by_cases hlt : i < l.length
    · rw [bif_pos (decide_eq_true (by omega))]
      obtain ⟨k, h1, h2, h3, h4, h5⟩ := later_L2 l i (l.length - (i + 1) + 1) (i + 1) (by omega) (by omega) (by omega) (fun k h1 h2 => by omega)
      rw [h1, elim_next]
      by_cases hk : k = l.length
      · rw [bif_pos (decide_eq_true (by omega))]
        exact ih (i + 1) _ (by omega) (by omega) (by simp [hl]) (hstep _ (.inl ⟨rfl, fun j hj hjl => h5 j hj (by omega)⟩))
      · rw [bif_neg (decide_eq_false (by omega))]
        exact ih (i + 1) _ (by omega) (by omega) (by simp [hl]) (hstep _ (.inr ⟨k, rfl, h2, by omega, h4 (by omega), h5⟩))
    · rw [bif_neg (decide_eq_false (by omega))]
      exact ⟨out, i, rfl, by omega, fun j hj => hd j (by omega)⟩
theorem later_at (l : List Int) : (F_spec_l3Later l).length = l.length ∧ ∀ j, j < l.length → NextAt l j ((F_spec_l3Later l).getD j 0) := by
  unfold F_spec_l3Later
  obtain ⟨out, k, h1, h2, h3⟩ := later_L1 l (l.length - 0 + 1) 0 [] (by omega) (by omega) rfl (fun j h => by omega)
  rw [h1, elim_next]
  exact ⟨h2, h3⟩
/-- A next use is the place whose last use is j. -/
theorem next_of_last {l : List Int} {j k : Nat} (hk : k < l.length) (h : LastAt l k (j : Int)) : NextAt l j (k : Int) := by
  obtain ⟨_, h2, h3, h4⟩ := h
  have h3' := h3 (by omega)
  rw [show ((j : Int)).toNat = j by omega] at h3'
  refine .inr ⟨k, rfl, by omega, hk, h3'.symm, fun m hm hmk => ?_⟩
  rw [h3']
  exact h4 m (by omega) hmk
theorem last_of_next {l : List Int} {j k : Nat} {r : Int} (hjk : j < k) (he : l.getD k 0 = l.getD j 0) (hn : ∀ m : Nat, j < m → m < k → l.getD m 0 ≠ l.getD j 0) (h : LastAt l k r) : r = j := by
  obtain ⟨h1, h2, h3, h4⟩ := h
  have hge : (j : Int) ≤ r := by
    by_cases hh : (j : Int) ≤ r
    · exact hh
    · exact absurd he.symm (h4 j (by omega) hjk)
  have h3' := h3 (by omega)
  by_cases e : r = j
  · exact e
  · exact absurd (h3'.trans he) (hn r.toNat (by omega) (by omega))
theorem next_none {l : List Int} {j : Nat} (La : ∀ k, k < l.length → LastAt l k ((F_impl_lastUses l).getD k 0)) (h : ∀ k : Nat, k < l.length → (F_impl_lastUses l).getD k 0 ≠ j) : ∀ k : Nat, j < k → k < l.length → l.getD k 0 ≠ l.getD j 0 := by
  intro k
  induction k using Nat.strongRecOn with
  | ind k ih =>
    intro hj hk he
    exact h k hk (last_of_next hj he (fun m h1 h2 => ih m h2 h1 (by omega)) (La k hk))
theorem next_L1 (l : List Int) (La : (F_impl_lastUses l).length = l.length ∧ ∀ k, k < l.length → LastAt l k ((F_impl_lastUses l).getD k 0)) : ∀ (fuel i : Nat) (out : List Int), l.length - i < fuel → i ≤ l.length → out.length = l.length →
    (∀ j : Nat, j < l.length → (out.getD j 0 = -1 ∧ ∀ k : Nat, k < i → (F_impl_lastUses l).getD k 0 ≠ j) ∨ ∃ k : Nat, k < i ∧ out.getD j 0 = k ∧ (F_impl_lastUses l).getD k 0 = j) →
    ∃ k out', F_impl_nextUses_L1 l fuel (i, out) = .next (k, out') ∧ out'.length = l.length ∧ ∀ j, j < l.length → NextAt l j (out'.getD j 0) := by
  intro fuel
  induction fuel with
  | zero => intro i out h; omega
  | succ m ih =>
    intro i out h hi hl hd
    rw [F_impl_nextUses_L1_s, La.1]
    by_cases hlt : i < l.length
    · rw [bif_pos (decide_eq_true (by omega))]
      have hli := La.2 i hlt
      have hb1 := hli.1
      have hb2 := hli.2.1
      by_cases h0 : 0 ≤ (F_impl_lastUses l).getD i 0
      · rw [bif_pos (decide_eq_true h0)]
        refine ih (i + 1) _ (by omega) (by omega) (by simp [hl]) fun j hj => ?_
        by_cases e : (F_impl_lastUses l).getD i 0 = j
        · right
          refine ⟨i, by omega, ?_, e⟩
          rw [e, show ((j : Int)).toNat = j by omega, getD_set_eq _ _ _ _ (by omega)]
        · rw [getD_set_ne _ _ _ _ _ (by omega)]
          rcases hd j hj with ⟨h1, h2⟩ | ⟨k, h1, h2, h3⟩
          · left
            refine ⟨h1, fun k hk => ?_⟩
            by_cases ek : k = i
            · rw [ek]; exact e
            · exact h2 k (by omega)
          · exact .inr ⟨k, by omega, h2, h3⟩
      · rw [bif_neg (decide_eq_false h0)]
        refine ih (i + 1) _ (by omega) (by omega) hl fun j hj => ?_
        rcases hd j hj with ⟨h1, h2⟩ | ⟨k, h1, h2, h3⟩
        · left
          refine ⟨h1, fun k hk => ?_⟩
          by_cases ek : k = i
          · rw [ek]; omega
          · exact h2 k (by omega)
        · exact .inr ⟨k, by omega, h2, h3⟩
    · rw [bif_neg (decide_eq_false (by omega))]
      have hil : i = l.length := by omega
      subst hil
      refine ⟨_, out, rfl, hl, fun j hj => ?_⟩
      rcases hd j hj with ⟨h1, h2⟩ | ⟨k, h1, h2, h3⟩
      · exact .inl ⟨h1, next_none La.2 h2⟩
      · rw [h2]
        have := La.2 k h1
        rw [h3] at this
        exact next_of_last h1 this
theorem next_at (l : List Int) (h60 : l.length ≤ 60) : (F_impl_nextUses l).length = l.length ∧ ∀ j, j < l.length → NextAt l j ((F_impl_nextUses l).getD j 0) := by
  unfold F_impl_nextUses
  rw [repeat_eq _ _ (by omega) (by omega)]
  obtain ⟨k, out, h1, h2, h3⟩ := next_L1 l (last_at l) ((F_impl_lastUses l).length - 0 + 1) 0 (List.replicate ((l.length : Int)).toNat (-1)) (by rw [(last_at l).1]; omega) (by omega) (by simp) (fun j hj => .inl ⟨by
    rw [getD_rep _ _ _ _ (by omega)], fun k hk => by omega⟩)
  rw [h1, elim_next]
  exact ⟨h2, h3⟩
theorem later_eq (l : List Int) (h60 : l.length ≤ 60) : F_impl_nextUses l = F_spec_l3Later l := by
  have h1 := next_at l h60
  have h2 := later_at l
  refine List.ext_getElem (by rw [h1.1, h2.1]) fun i hi hi2 => ?_
  have hil : i < l.length := by rw [h1.1] at hi; exact hi
  have g1 := h1.2 i hil
  have g2 := h2.2 i hil
  rw [getD_lt _ _ _ hi] at g1
  rw [getD_lt _ _ _ hi2] at g2
  exact g1.uniq g2
theorem last_both (n : Int) (l : List Int) : F_impl_LastUses n l = F_spec_LastUses n l := by
  unfold F_impl_LastUses F_spec_LastUses
  rw [requests_eq, l3Last_eq]
theorem next_both (n : Int) (l : List Int) : F_impl_NextUses n l = F_spec_NextUses n l := by
  cases h : F_impl_IsRequests n l
  · have h' := h
    rw [requests_eq] at h'
    unfold F_impl_NextUses F_spec_NextUses
    rw [h, h']; rfl
  · have h' := h
    rw [requests_eq] at h'
    unfold F_impl_NextUses F_spec_NextUses
    rw [h, h', later_eq l (isRequests_t h).2.1]
theorem runs_req {n : Int} {l : List Int} (h : (F_impl_RunsOf n l).2 = true) : F_impl_IsRequests n l = true := by
  cases hr : F_impl_IsRequests n l
  · unfold F_impl_RunsOf at h
    rw [hr] at h
    cases h
  · rfl
theorem ru_bd {n : Int} {l : List Int} (h : (F_impl_RunsOf n l).2 = true) : (F_impl_LastUses n l).1.length = l.length ∧ (F_impl_NextUses n l).1.length = l.length ∧ (F_impl_CountsOf n l).1.length ≤ 100 ∧ (∀ i : Nat, 0 ≤ (F_impl_CountsOf n l).1.getD i 0 ∧ (F_impl_CountsOf n l).1.getD i 0 ≤ 100) ∧
    (∀ i : Nat, i < l.length → -1 ≤ (F_impl_LastUses n l).1.getD i 0 ∧ (F_impl_LastUses n l).1.getD i 0 < l.length) ∧ ∀ i : Nat, i < l.length → -1 ≤ (F_impl_NextUses n l).1.getD i 0 ∧ (F_impl_NextUses n l).1.getD i 0 < l.length := by
  have hr := runs_req h
  obtain ⟨hn, hl, _⟩ := isRequests_t hr
  obtain ⟨cs, h1, _, h3, _, h5⟩ := counts_both n l hr
  have eL : F_impl_LastUses n l = (F_impl_lastUses l, true) := by unfold F_impl_LastUses; rw [hr]; rfl
  have eN : F_impl_NextUses n l = (F_impl_nextUses l, true) := by unfold F_impl_NextUses; rw [hr]; rfl
  rw [h1, eL, eN]
  dsimp only
  refine ⟨(last_at l).1, (next_at l hl).1, by omega, fun i => by have := h5 i; omega, fun i hi => ?_, fun i hi => ?_⟩
  · have := (last_at l).2 i hi
    have h1 := this.1; have h2 := this.2.1
    omega
  · rcases (next_at l hl).2 i hi with ⟨h, _⟩ | ⟨m, h, _, h2, _⟩ <;> omega
theorem uses_inv (l : List Int) (h60 : l.length ≤ 60) (i : Nat) (hi : i < l.length) :
    (((decide (0 ≤ ((F_impl_lastUses l).getD i 0))) && (!decide (((F_impl_nextUses l).getD (((F_impl_lastUses l).getD i 0).toNat) 0) = (i : Int)))) || ((decide (0 ≤ ((F_impl_nextUses l).getD i 0))) && (!decide (((F_impl_lastUses l).getD (((F_impl_nextUses l).getD i 0).toNat) 0) = (i : Int))))) = false := by
  have La := (last_at l).2
  have Na := (next_at l h60).2
  rw [Bool.or_eq_false_iff]
  constructor
  · by_cases h0 : 0 ≤ (F_impl_lastUses l).getD i 0
    · have h1 := La i hi
      have h2 := h1.2.1
      have e : (((F_impl_lastUses l).getD i 0).toNat : Int) = (F_impl_lastUses l).getD i 0 := by omega
      rw [← e] at h1
      have h3 := (Na ((F_impl_lastUses l).getD i 0).toNat (by omega)).uniq (next_of_last hi h1)
      rw [h3]; simp
    · rw [decide_eq_false h0]; rfl
  · rcases Na i hi with ⟨h, _⟩ | ⟨m, h, h1, h2, h3, h4⟩
    · rw [h]; rfl
    · rw [h, show ((m : Int)).toNat = m by omega, last_of_next h1 h3 h4 (La m h2)]; simp
theorem uses_L1 (code : List Int) (hr : F_impl_IsRequests (F_spec_DrawRunsOf code).1 (F_spec_DrawRunsOf code).2 = true) : ∀ (fuel i : Nat), (F_spec_DrawRunsOf code).2.length - i < fuel → ∃ k, F_laws_FnRunsAndUses_L1 code fuel i = .next k := by
  have eL : F_impl_LastUses (F_spec_DrawRunsOf code).1 (F_spec_DrawRunsOf code).2 = (F_impl_lastUses (F_spec_DrawRunsOf code).2, true) := by unfold F_impl_LastUses; rw [hr]; rfl
  have eN : F_impl_NextUses (F_spec_DrawRunsOf code).1 (F_spec_DrawRunsOf code).2 = (F_impl_nextUses (F_spec_DrawRunsOf code).2, true) := by unfold F_impl_NextUses; rw [hr]; rfl
  have h60 := (isRequests_t hr).2.1
  intro fuel
  induction fuel with
  | zero => intro i h; omega
  | succ m ih =>
    intro i h
    rw [F_laws_FnRunsAndUses_L1_s]
    by_cases hl : i < (F_spec_DrawRunsOf code).2.length
    · rw [bif_pos (decide_eq_true (by omega)), eL, eN]
      dsimp only
      rw [uses_inv _ h60 i hl, cond_false]
      exact ih (i + 1) (by omega)
    · rw [bif_neg (decide_eq_false (by omega))]
      exact ⟨i, rfl⟩
theorem law_fRunsAndUses (code : List Int) : F_laws_FnRunsAndUses code = true := by
  unfold F_laws_FnRunsAndUses
  cases F_laws_vBig code
  · rw [cond_false, ← runs_eq, ← from_eq, ← counts_eq, ← last_both, ← next_both]
    simp only [vInts_refl, vPairs_refl, bne_self_eq_false, Bool.not_true, Bool.or_self, cond_false]
    cases hr : (F_impl_RunsOf (F_spec_DrawRunsOf code).1 (F_spec_DrawRunsOf code).2).2
    · rfl
    · have hreq := runs_req hr
      obtain ⟨ps, h1, _, hd, hp⟩ := runs_both _ _ hreq
      obtain ⟨cs, g1, _, _, gs, _⟩ := counts_both _ _ hreq
      obtain ⟨k, hk⟩ := uses_L1 code hreq ((F_spec_DrawRunsOf code).2.length - 0 + 1) 0 (by omega)
      rw [h1, g1, Bool.not_true, cond_false]
      dsimp only
      rw [from_runs _ _ ps hreq hd hp, vSum_eq, gs, hk, elim_next]
      dsimp only
      rw [vInts_refl, decide_eq_true rfl]
      rfl
  · rfl
end Go.Proofs.Ytcmhgkcifejgcaa
namespace Go.Proofs.Ytcmhgkcifejgcaa
set_option linter.unusedVariables false
set_option linter.unusedSimpArgs false
open Go Go.RowKit
set_option linter.unusedVariables false

set_option maxRecDepth 4000 in
set_option maxHeartbeats 1000000 in
theorem laws_FnRunsAndUses_ok (w : World) (vcode : Value) (code : List Int) (hcode : RB w vcode code)  :
    Calls Try.prog 4 ([vcode] : List Value).toArray w (Ret (.bool (F_laws_FnRunsAndUses code)) (Hp w [])) := by
  obtain ⟨rz, hF⟩ : ∃ rz, (F_laws_FnRunsAndUses code) = rz := ⟨_, rfl⟩
  rw [hF]
  unfold F_laws_FnRunsAndUses at hF
  have hlen_code := argB_len hcode
  refine calls_tc Try.func4 rfl rfl rfl ?_
  change TC _ _ _ _ (Hp w []) [(0, vcode)]
  refine TC.seq ?_
  refine TC.region ?_
  refine TL.op (yq (y_assign ev_c)) rfl rfl rfl ?_
  refine TL.nil ?_
  refine TN.seq ?_
  refine TC.seq ?_
  refine TC.seq ?_
  refine TC.region ?_
  refine TL.op (yq (y_move (ev_t rfl))) rfl rfl rfl ?_
  refine TL.op (y_call (vs := [vcode]) (v := (.bool (F_laws_vBig code))) en_11 ⟨(ev_t rfl), trivial⟩ (fun w hw => laws_vBig_ok w vcode code (rb_arg hcode hw))) rfl rfl rfl ?_
  refine TL.nil ?_
  refine TN.seq ?_
  refine TC.cond (b := (F_laws_vBig code)) (ev_t rfl) (fun h21 => ?_) (fun h21 => ?_)
  · rw [bif_pos h21] at hF
    have q22 := h21
    refine TC.seq ?_
    refine TC.region ?_
    refine TL.op (yq (y_assign ev_c)) rfl rfl rfl ?_
    refine TL.nil ?_
    refine TN.seq ?_
    refine TC.ret ?_
    refine TN.thenR ?_
    subst hF
    exact TN.ret1 rfl (ev_t rfl) (fun w' hw => ⟨rfl, hw⟩)
  · rw [bif_neg h21] at hF
    have q22 := h21
    have hvb := vBig_f q22
    refine TC.skip ?_
    refine TN.seq ?_
    refine TC.seq ?_
    refine TC.region ?_
    refine TL.op (yq (y_move (ev_t rfl))) rfl rfl rfl ?_
    refine TL.callr (ι := Value) (vs := [vcode]) (fun i => (.tuple #[(.int .i64 ((F_spec_DrawRunsOf code).1)), i])) (fun i => [rowI 3 i ((F_spec_DrawRunsOf code).2)]) en_20 ⟨(ev_t rfl), trivial⟩ rfl (fun w hw => spec_DrawRunsOf_ok w vcode code (rb_arg hcode hw)) (fun r3_1 => ?_)
    refine TL.op (yq (y_move (ev_t rfl))) rfl rfl rfl ?_
    refine TL.op (yq (y_extract (ev_t rfl) rfl)) rfl rfl rfl ?_
    refine TL.op (yq (y_extract (ev_t rfl) rfl)) rfl rfl rfl ?_
    refine TL.op (yq (y_assign (ev_t rfl))) rfl rfl rfl ?_
    refine TL.op (yq (y_assign (ev_t rfl))) rfl rfl rfl ?_
    refine TL.nil ?_
    refine TN.seq ?_
    refine TC.seq ?_
    refine TC.region ?_
    refine TL.op (yq (y_move (ev_t rfl))) rfl rfl rfl ?_
    refine TL.op (yq (y_move (ev_t rfl))) rfl rfl rfl ?_
    refine TL.callr (ι := Value) (vs := [(.int .i64 ((F_spec_DrawRunsOf code).1)), r3_1]) (fun i => (.tuple #[i, (.bool ((F_impl_RunsOf ((F_spec_DrawRunsOf code).1) ((F_spec_DrawRunsOf code).2)).2))])) (fun i => [rowP 85 i ((F_impl_RunsOf ((F_spec_DrawRunsOf code).1) ((F_spec_DrawRunsOf code).2)).1)]) en_21 ⟨(ev_t rfl), (ev_t rfl), trivial⟩ rfl (fun w hw => impl_RunsOf_ok w ((F_spec_DrawRunsOf code).1) r3_1 ((F_spec_DrawRunsOf code).2) ((ri_row 0 rfl) w hw)) (fun r4_2 => ?_)
    refine TL.op (yq (y_move (ev_t rfl))) rfl rfl rfl ?_
    refine TL.op (yq (y_extract (ev_t rfl) rfl)) rfl rfl rfl ?_
    refine TL.op (yq (y_extract (ev_t rfl) rfl)) rfl rfl rfl ?_
    refine TL.op (yq (y_assign (ev_t rfl))) rfl rfl rfl ?_
    refine TL.op (yq (y_assign (ev_t rfl))) rfl rfl rfl ?_
    refine TL.nil ?_
    refine TN.seq ?_
    refine TC.seq ?_
    refine TC.region ?_
    refine TL.op (yq (y_move (ev_t rfl))) rfl rfl rfl ?_
    refine TL.op (yq (y_move (ev_t rfl))) rfl rfl rfl ?_
    refine TL.callr (ι := Value) (vs := [(.int .i64 ((F_spec_DrawRunsOf code).1)), r3_1]) (fun i => (.tuple #[i, (.bool ((F_spec_RunsOf ((F_spec_DrawRunsOf code).1) ((F_spec_DrawRunsOf code).2)).2))])) (fun i => [rowP 85 i ((F_spec_RunsOf ((F_spec_DrawRunsOf code).1) ((F_spec_DrawRunsOf code).2)).1)]) en_22 ⟨(ev_t rfl), (ev_t rfl), trivial⟩ rfl (fun w hw => spec_RunsOf_ok w ((F_spec_DrawRunsOf code).1) r3_1 ((F_spec_DrawRunsOf code).2) ((ri_row 1 rfl) w hw)) (fun r5_2 => ?_)
    refine TL.op (yq (y_move (ev_t rfl))) rfl rfl rfl ?_
    refine TL.op (yq (y_extract (ev_t rfl) rfl)) rfl rfl rfl ?_
    refine TL.op (yq (y_extract (ev_t rfl) rfl)) rfl rfl rfl ?_
    refine TL.op (yq (y_assign (ev_t rfl))) rfl rfl rfl ?_
    refine TL.op (yq (y_assign (ev_t rfl))) rfl rfl rfl ?_
    refine TL.nil ?_
    refine TN.seq ?_
    refine TC.seq ?_
    refine TC.region ?_
    refine TL.op (yq (y_move (ev_t rfl))) rfl rfl rfl ?_
    refine TL.callr (ι := Value) (vs := [vcode, (.int .i64 1)]) (fun i => i) (fun i => [rowU 5 i (F_laws_vCut code 1)]) en_24 ⟨(ev_t rfl), ev_c, trivial⟩ rfl (fun w hw => laws_vCut_ok w vcode code (rb_arg hcode hw) 1 (by first | assumption | omega | grind) (by first | assumption | omega | grind)) (fun r6_1 => ?_)
    refine TL.callr (ι := Value) (vs := [r6_1]) (fun i => (.tuple #[(.int .i64 ((F_spec_DrawFromRuns (F_laws_vCut code 1)).1)), i])) (fun i => [rowP 85 i ((F_spec_DrawFromRuns (F_laws_vCut code 1)).2)]) en_23 ⟨(ev_t rfl), trivial⟩ rfl (fun w hw => spec_DrawFromRuns_ok w r6_1 (F_laws_vCut code 1) ⟨(ru_row 0 rfl) w hw, cut_bd hcode.2⟩) (fun r6_2 => ?_)
    refine TL.op (yq (y_move (ev_t rfl))) rfl rfl rfl ?_
    refine TL.op (yq (y_extract (ev_t rfl) rfl)) rfl rfl rfl ?_
    refine TL.op (yq (y_extract (ev_t rfl) rfl)) rfl rfl rfl ?_
    refine TL.op (yq (y_assign (ev_t rfl))) rfl rfl rfl ?_
    refine TL.op (yq (y_assign (ev_t rfl))) rfl rfl rfl ?_
    refine TL.nil ?_
    refine TN.seq ?_
    refine TC.seq ?_
    refine TC.region ?_
    refine TL.op (yq (y_move (ev_t rfl))) rfl rfl rfl ?_
    refine TL.op (yq (y_move (ev_t rfl))) rfl rfl rfl ?_
    refine TL.callr (ι := Value) (vs := [(.int .i64 ((F_spec_DrawFromRuns (F_laws_vCut code 1)).1)), r6_2]) (fun i => (.tuple #[i, (.bool ((F_impl_FromRuns ((F_spec_DrawFromRuns (F_laws_vCut code 1)).1) ((F_spec_DrawFromRuns (F_laws_vCut code 1)).2)).2))])) (fun i => [rowI 3 i ((F_impl_FromRuns ((F_spec_DrawFromRuns (F_laws_vCut code 1)).1) ((F_spec_DrawFromRuns (F_laws_vCut code 1)).2)).1)]) en_25 ⟨(ev_t rfl), (ev_t rfl), trivial⟩ rfl (fun w hw => impl_FromRuns_ok w ((F_spec_DrawFromRuns (F_laws_vCut code 1)).1) r6_2 ((F_spec_DrawFromRuns (F_laws_vCut code 1)).2) ((rp_row 0 rfl) w hw)) (fun r7_2 => ?_)
    refine TL.op (yq (y_move (ev_t rfl))) rfl rfl rfl ?_
    refine TL.op (yq (y_extract (ev_t rfl) rfl)) rfl rfl rfl ?_
    refine TL.op (yq (y_extract (ev_t rfl) rfl)) rfl rfl rfl ?_
    refine TL.op (yq (y_assign (ev_t rfl))) rfl rfl rfl ?_
    refine TL.op (yq (y_assign (ev_t rfl))) rfl rfl rfl ?_
    refine TL.nil ?_
    refine TN.seq ?_
    refine TC.seq ?_
    refine TC.region ?_
    refine TL.op (yq (y_move (ev_t rfl))) rfl rfl rfl ?_
    refine TL.op (yq (y_move (ev_t rfl))) rfl rfl rfl ?_
    refine TL.callr (ι := Value) (vs := [(.int .i64 ((F_spec_DrawFromRuns (F_laws_vCut code 1)).1)), r6_2]) (fun i => (.tuple #[i, (.bool ((F_spec_FromRuns ((F_spec_DrawFromRuns (F_laws_vCut code 1)).1) ((F_spec_DrawFromRuns (F_laws_vCut code 1)).2)).2))])) (fun i => [rowI 3 i ((F_spec_FromRuns ((F_spec_DrawFromRuns (F_laws_vCut code 1)).1) ((F_spec_DrawFromRuns (F_laws_vCut code 1)).2)).1)]) en_26 ⟨(ev_t rfl), (ev_t rfl), trivial⟩ rfl (fun w hw => spec_FromRuns_ok w ((F_spec_DrawFromRuns (F_laws_vCut code 1)).1) r6_2 ((F_spec_DrawFromRuns (F_laws_vCut code 1)).2) ((rp_row 1 rfl) w hw)) (fun r8_2 => ?_)
    refine TL.op (yq (y_move (ev_t rfl))) rfl rfl rfl ?_
    refine TL.op (yq (y_extract (ev_t rfl) rfl)) rfl rfl rfl ?_
    refine TL.op (yq (y_extract (ev_t rfl) rfl)) rfl rfl rfl ?_
    refine TL.op (yq (y_assign (ev_t rfl))) rfl rfl rfl ?_
    refine TL.op (yq (y_assign (ev_t rfl))) rfl rfl rfl ?_
    refine TL.nil ?_
    refine TN.seq ?_
    refine TC.seq ?_
    refine TC.region ?_
    refine TL.op (yq (y_move (ev_t rfl))) rfl rfl rfl ?_
    refine TL.op (yq (y_move (ev_t rfl))) rfl rfl rfl ?_
    refine TL.callr (ι := Value) (vs := [(.int .i64 ((F_spec_DrawRunsOf code).1)), r3_1]) (fun i => (.tuple #[i, (.bool ((F_impl_CountsOf ((F_spec_DrawRunsOf code).1) ((F_spec_DrawRunsOf code).2)).2))])) (fun i => [rowI 3 i ((F_impl_CountsOf ((F_spec_DrawRunsOf code).1) ((F_spec_DrawRunsOf code).2)).1)]) en_27 ⟨(ev_t rfl), (ev_t rfl), trivial⟩ rfl (fun w hw => impl_CountsOf_ok w ((F_spec_DrawRunsOf code).1) r3_1 ((F_spec_DrawRunsOf code).2) ((ri_row 6 rfl) w hw)) (fun r9_2 => ?_)
    refine TL.op (yq (y_move (ev_t rfl))) rfl rfl rfl ?_
    refine TL.op (yq (y_extract (ev_t rfl) rfl)) rfl rfl rfl ?_
    refine TL.op (yq (y_extract (ev_t rfl) rfl)) rfl rfl rfl ?_
    refine TL.op (yq (y_assign (ev_t rfl))) rfl rfl rfl ?_
    refine TL.op (yq (y_assign (ev_t rfl))) rfl rfl rfl ?_
    refine TL.nil ?_
    refine TN.seq ?_
    refine TC.seq ?_
    refine TC.region ?_
    refine TL.op (yq (y_move (ev_t rfl))) rfl rfl rfl ?_
    refine TL.op (yq (y_move (ev_t rfl))) rfl rfl rfl ?_
    refine TL.callr (ι := Value) (vs := [(.int .i64 ((F_spec_DrawRunsOf code).1)), r3_1]) (fun i => (.tuple #[i, (.bool ((F_spec_CountsOf ((F_spec_DrawRunsOf code).1) ((F_spec_DrawRunsOf code).2)).2))])) (fun i => [rowI 3 i ((F_spec_CountsOf ((F_spec_DrawRunsOf code).1) ((F_spec_DrawRunsOf code).2)).1)]) en_28 ⟨(ev_t rfl), (ev_t rfl), trivial⟩ rfl (fun w hw => spec_CountsOf_ok w ((F_spec_DrawRunsOf code).1) r3_1 ((F_spec_DrawRunsOf code).2) ((ri_row 7 rfl) w hw)) (fun r10_2 => ?_)
    refine TL.op (yq (y_move (ev_t rfl))) rfl rfl rfl ?_
    refine TL.op (yq (y_extract (ev_t rfl) rfl)) rfl rfl rfl ?_
    refine TL.op (yq (y_extract (ev_t rfl) rfl)) rfl rfl rfl ?_
    refine TL.op (yq (y_assign (ev_t rfl))) rfl rfl rfl ?_
    refine TL.op (yq (y_assign (ev_t rfl))) rfl rfl rfl ?_
    refine TL.nil ?_
    refine TN.seq ?_
    refine TC.seq ?_
    refine TC.seq ?_
    refine TC.region ?_
    refine TL.op (yq (y_move (ev_t rfl))) rfl rfl rfl ?_
    refine TL.op (yq (y_move (ev_t rfl))) rfl rfl rfl ?_
    refine TL.op (yq (y_bneq (ev_t rfl) (ev_t rfl) Try.underlying4)) rfl rfl rfl ?_
    refine TL.op (yq (y_move (ev_t rfl))) rfl rfl rfl ?_
    refine TL.opw (w_f rfl rfl rfl) (fun hg => yq (y_move (ev_t rfl))) rfl rfl ?_
    refine TL.opw (w_f rfl rfl rfl) (fun hg => yq (y_move (ev_t rfl))) rfl rfl ?_
    refine TL.opw (w_f rfl rfl rfl) (fun hg => yq (y_bneq (ev_g rfl hg) (ev_g rfl hg) Try.underlying4)) rfl rfl ?_
    refine TL.op (yq (y_or (ev_t rfl) (fun hq => (ev_g rfl hq)))) rfl rfl rfl ?_
    refine TL.op (yq (y_move (ev_t rfl))) rfl rfl rfl ?_
    refine TL.opw (w_f rfl rfl rfl) (fun hg => yq (y_move (ev_t rfl))) rfl rfl ?_
    refine TL.opw (w_f rfl rfl rfl) (fun hg => yq (y_move (ev_t rfl))) rfl rfl ?_
    refine TL.opw (w_f rfl rfl rfl) (fun hg => yq (y_bneq (ev_g rfl hg) (ev_g rfl hg) Try.underlying4)) rfl rfl ?_
    refine TL.op (yq (y_or (ev_t rfl) (fun hq => (ev_g rfl hq)))) rfl rfl rfl ?_
    refine TL.op (yq (y_move (ev_t rfl))) rfl rfl rfl ?_
    refine TL.opw (w_f rfl rfl rfl) (fun hg => yq (y_move (ev_t rfl))) rfl rfl ?_
    refine TL.opw (w_f rfl rfl rfl) (fun hg => yq (y_move (ev_t rfl))) rfl rfl ?_
    refine TL.opw (w_f rfl rfl rfl) (fun hg => y_call (vs := [r4_2, r5_2]) (v := (.bool (F_laws_vPairs ((F_impl_RunsOf ((F_spec_DrawRunsOf code).1) ((F_spec_DrawRunsOf code).2)).1) ((F_spec_RunsOf ((F_spec_DrawRunsOf code).1) ((F_spec_DrawRunsOf code).2)).1)))) en_29 ⟨(ev_g rfl hg), (ev_g rfl hg), trivial⟩ (fun w hw => laws_vPairs_ok w r4_2 ((F_impl_RunsOf ((F_spec_DrawRunsOf code).1) ((F_spec_DrawRunsOf code).2)).1) ((rp_row 7 rfl) w hw) r5_2 ((F_spec_RunsOf ((F_spec_DrawRunsOf code).1) ((F_spec_DrawRunsOf code).2)).1) ((rp_row 6 rfl) w hw))) rfl rfl ?_
    refine TL.opw (w_f rfl rfl rfl) (fun hg => yq (y_not (ev_g rfl hg))) rfl rfl ?_
    refine TL.op (yq (y_or (ev_t rfl) (fun hq => (ev_g rfl hq)))) rfl rfl rfl ?_
    refine TL.op (yq (y_move (ev_t rfl))) rfl rfl rfl ?_
    refine TL.opw (w_f rfl rfl rfl) (fun hg => yq (y_move (ev_t rfl))) rfl rfl ?_
    refine TL.opw (w_f rfl rfl rfl) (fun hg => yq (y_move (ev_t rfl))) rfl rfl ?_
    refine TL.opw (w_f rfl rfl rfl) (fun hg => y_call (vs := [r7_2, r8_2]) (v := (.bool (F_laws_vInts ((F_impl_FromRuns ((F_spec_DrawFromRuns (F_laws_vCut code 1)).1) ((F_spec_DrawFromRuns (F_laws_vCut code 1)).2)).1) ((F_spec_FromRuns ((F_spec_DrawFromRuns (F_laws_vCut code 1)).1) ((F_spec_DrawFromRuns (F_laws_vCut code 1)).2)).1)))) en_30 ⟨(ev_g rfl hg), (ev_g rfl hg), trivial⟩ (fun w hw => laws_vInts_ok w r7_2 ((F_impl_FromRuns ((F_spec_DrawFromRuns (F_laws_vCut code 1)).1) ((F_spec_DrawFromRuns (F_laws_vCut code 1)).2)).1) ((ri_row 3 rfl) w hw) r8_2 ((F_spec_FromRuns ((F_spec_DrawFromRuns (F_laws_vCut code 1)).1) ((F_spec_DrawFromRuns (F_laws_vCut code 1)).2)).1) ((ri_row 2 rfl) w hw))) rfl rfl ?_
    refine TL.opw (w_f rfl rfl rfl) (fun hg => yq (y_not (ev_g rfl hg))) rfl rfl ?_
    refine TL.op (yq (y_or (ev_t rfl) (fun hq => (ev_g rfl hq)))) rfl rfl rfl ?_
    refine TL.op (yq (y_move (ev_t rfl))) rfl rfl rfl ?_
    refine TL.opw (w_f rfl rfl rfl) (fun hg => yq (y_move (ev_t rfl))) rfl rfl ?_
    refine TL.opw (w_f rfl rfl rfl) (fun hg => yq (y_move (ev_t rfl))) rfl rfl ?_
    refine TL.opw (w_f rfl rfl rfl) (fun hg => y_call (vs := [r9_2, r10_2]) (v := (.bool (F_laws_vInts ((F_impl_CountsOf ((F_spec_DrawRunsOf code).1) ((F_spec_DrawRunsOf code).2)).1) ((F_spec_CountsOf ((F_spec_DrawRunsOf code).1) ((F_spec_DrawRunsOf code).2)).1)))) en_30 ⟨(ev_g rfl hg), (ev_g rfl hg), trivial⟩ (fun w hw => laws_vInts_ok w r9_2 ((F_impl_CountsOf ((F_spec_DrawRunsOf code).1) ((F_spec_DrawRunsOf code).2)).1) ((ri_row 1 rfl) w hw) r10_2 ((F_spec_CountsOf ((F_spec_DrawRunsOf code).1) ((F_spec_DrawRunsOf code).2)).1) ((ri_row 0 rfl) w hw))) rfl rfl ?_
    refine TL.opw (w_f rfl rfl rfl) (fun hg => yq (y_not (ev_g rfl hg))) rfl rfl ?_
    refine TL.op (yq (y_or (ev_t rfl) (fun hq => (ev_g rfl hq)))) rfl rfl rfl ?_
    refine TL.nil ?_
    refine TN.seq ?_
    refine TC.cond (b := ((((((((F_impl_RunsOf ((F_spec_DrawRunsOf code).1) ((F_spec_DrawRunsOf code).2)).2) != ((F_spec_RunsOf ((F_spec_DrawRunsOf code).1) ((F_spec_DrawRunsOf code).2)).2)) || (((F_impl_FromRuns ((F_spec_DrawFromRuns (F_laws_vCut code 1)).1) ((F_spec_DrawFromRuns (F_laws_vCut code 1)).2)).2) != ((F_spec_FromRuns ((F_spec_DrawFromRuns (F_laws_vCut code 1)).1) ((F_spec_DrawFromRuns (F_laws_vCut code 1)).2)).2))) || (((F_impl_CountsOf ((F_spec_DrawRunsOf code).1) ((F_spec_DrawRunsOf code).2)).2) != ((F_spec_CountsOf ((F_spec_DrawRunsOf code).1) ((F_spec_DrawRunsOf code).2)).2))) || (!(F_laws_vPairs ((F_impl_RunsOf ((F_spec_DrawRunsOf code).1) ((F_spec_DrawRunsOf code).2)).1) ((F_spec_RunsOf ((F_spec_DrawRunsOf code).1) ((F_spec_DrawRunsOf code).2)).1)))) || (!(F_laws_vInts ((F_impl_FromRuns ((F_spec_DrawFromRuns (F_laws_vCut code 1)).1) ((F_spec_DrawFromRuns (F_laws_vCut code 1)).2)).1) ((F_spec_FromRuns ((F_spec_DrawFromRuns (F_laws_vCut code 1)).1) ((F_spec_DrawFromRuns (F_laws_vCut code 1)).2)).1)))) || (!(F_laws_vInts ((F_impl_CountsOf ((F_spec_DrawRunsOf code).1) ((F_spec_DrawRunsOf code).2)).1) ((F_spec_CountsOf ((F_spec_DrawRunsOf code).1) ((F_spec_DrawRunsOf code).2)).1))))) (ev_t rfl) (fun h23 => ?_) (fun h23 => ?_)
    · rw [bif_pos h23] at hF
      have q24 := ((or_t h23).imp (fun h => ((or_t h).imp (fun h => ((or_t h).imp (fun h => ((or_t h).imp (fun h => ((or_t h).imp (fun h => h) (fun h => h))) (fun h => h))) (fun h => (not_t h)))) (fun h => (not_t h)))) (fun h => (not_t h)))
      refine TC.seq ?_
      refine TC.region ?_
      refine TL.op (yq (y_assign ev_c)) rfl rfl rfl ?_
      refine TL.nil ?_
      refine TN.seq ?_
      refine TC.ret ?_
      refine TN.thenR ?_
      subst hF
      exact TN.ret1 rfl (ev_t rfl) (fun w' hw => ⟨rfl, Hp.sublist hw (List.nil_sublist _)⟩)
    · rw [bif_neg h23] at hF
      have q24 := (and_imp (or_f h23) (fun h => (and_imp (or_f h) (fun h => (and_imp (or_f h) (fun h => (and_imp (or_f h) (fun h => (and_imp (or_f h) (fun h => h) (fun h => h))) (fun h => h))) (fun h => (not_f h)))) (fun h => (not_f h)))) (fun h => (not_f h)))
      refine TC.skip ?_
      refine TN.seq ?_
      refine TC.seq ?_
      refine TC.region ?_
      refine TL.op (yq (y_move (ev_t rfl))) rfl rfl rfl ?_
      refine TL.op (yq (y_move (ev_t rfl))) rfl rfl rfl ?_
      refine TL.callr (ι := Value) (vs := [(.int .i64 ((F_spec_DrawRunsOf code).1)), r3_1]) (fun i => (.tuple #[i, (.bool ((F_impl_LastUses ((F_spec_DrawRunsOf code).1) ((F_spec_DrawRunsOf code).2)).2))])) (fun i => [rowI 3 i ((F_impl_LastUses ((F_spec_DrawRunsOf code).1) ((F_spec_DrawRunsOf code).2)).1)]) en_31 ⟨(ev_t rfl), (ev_t rfl), trivial⟩ rfl (fun w hw => impl_LastUses_ok w ((F_spec_DrawRunsOf code).1) r3_1 ((F_spec_DrawRunsOf code).2) ((ri_row 8 rfl) w hw)) (fun r13_2 => ?_)
      refine TL.op (yq (y_move (ev_t rfl))) rfl rfl rfl ?_
      refine TL.op (yq (y_extract (ev_t rfl) rfl)) rfl rfl rfl ?_
      refine TL.op (yq (y_extract (ev_t rfl) rfl)) rfl rfl rfl ?_
      refine TL.op (yq (y_assign (ev_t rfl))) rfl rfl rfl ?_
      refine TL.op (yq (y_assign (ev_t rfl))) rfl rfl rfl ?_
      refine TL.nil ?_
      refine TN.seq ?_
      refine TC.seq ?_
      refine TC.region ?_
      refine TL.op (yq (y_move (ev_t rfl))) rfl rfl rfl ?_
      refine TL.op (yq (y_move (ev_t rfl))) rfl rfl rfl ?_
      refine TL.callr (ι := Value) (vs := [(.int .i64 ((F_spec_DrawRunsOf code).1)), r3_1]) (fun i => (.tuple #[i, (.bool ((F_impl_NextUses ((F_spec_DrawRunsOf code).1) ((F_spec_DrawRunsOf code).2)).2))])) (fun i => [rowI 3 i ((F_impl_NextUses ((F_spec_DrawRunsOf code).1) ((F_spec_DrawRunsOf code).2)).1)]) en_32 ⟨(ev_t rfl), (ev_t rfl), trivial⟩ rfl (fun w hw => impl_NextUses_ok w ((F_spec_DrawRunsOf code).1) r3_1 ((F_spec_DrawRunsOf code).2) ((ri_row 9 rfl) w hw)) (fun r14_2 => ?_)
      refine TL.op (yq (y_move (ev_t rfl))) rfl rfl rfl ?_
      refine TL.op (yq (y_extract (ev_t rfl) rfl)) rfl rfl rfl ?_
      refine TL.op (yq (y_extract (ev_t rfl) rfl)) rfl rfl rfl ?_
      refine TL.op (yq (y_assign (ev_t rfl))) rfl rfl rfl ?_
      refine TL.op (yq (y_assign (ev_t rfl))) rfl rfl rfl ?_
      refine TL.nil ?_
      refine TN.seq ?_
      refine TC.seq ?_
      refine TC.region ?_
      refine TL.op (yq (y_move (ev_t rfl))) rfl rfl rfl ?_
      refine TL.op (yq (y_move (ev_t rfl))) rfl rfl rfl ?_
      refine TL.callr (ι := Value) (vs := [(.int .i64 ((F_spec_DrawRunsOf code).1)), r3_1]) (fun i => (.tuple #[i, (.bool ((F_spec_LastUses ((F_spec_DrawRunsOf code).1) ((F_spec_DrawRunsOf code).2)).2))])) (fun i => [rowI 3 i ((F_spec_LastUses ((F_spec_DrawRunsOf code).1) ((F_spec_DrawRunsOf code).2)).1)]) en_33 ⟨(ev_t rfl), (ev_t rfl), trivial⟩ rfl (fun w hw => spec_LastUses_ok w ((F_spec_DrawRunsOf code).1) r3_1 ((F_spec_DrawRunsOf code).2) ((ri_row 10 rfl) w hw)) (fun r15_2 => ?_)
      refine TL.op (yq (y_move (ev_t rfl))) rfl rfl rfl ?_
      refine TL.op (yq (y_extract (ev_t rfl) rfl)) rfl rfl rfl ?_
      refine TL.op (yq (y_extract (ev_t rfl) rfl)) rfl rfl rfl ?_
      refine TL.op (yq (y_assign (ev_t rfl))) rfl rfl rfl ?_
      refine TL.op (yq (y_assign (ev_t rfl))) rfl rfl rfl ?_
      refine TL.nil ?_
      refine TN.seq ?_
      refine TC.seq ?_
      refine TC.region ?_
      refine TL.op (yq (y_move (ev_t rfl))) rfl rfl rfl ?_
      refine TL.op (yq (y_move (ev_t rfl))) rfl rfl rfl ?_
      refine TL.callr (ι := Value) (vs := [(.int .i64 ((F_spec_DrawRunsOf code).1)), r3_1]) (fun i => (.tuple #[i, (.bool ((F_spec_NextUses ((F_spec_DrawRunsOf code).1) ((F_spec_DrawRunsOf code).2)).2))])) (fun i => [rowI 3 i ((F_spec_NextUses ((F_spec_DrawRunsOf code).1) ((F_spec_DrawRunsOf code).2)).1)]) en_34 ⟨(ev_t rfl), (ev_t rfl), trivial⟩ rfl (fun w hw => spec_NextUses_ok w ((F_spec_DrawRunsOf code).1) r3_1 ((F_spec_DrawRunsOf code).2) ((ri_row 11 rfl) w hw)) (fun r16_2 => ?_)
      refine TL.op (yq (y_move (ev_t rfl))) rfl rfl rfl ?_
      refine TL.op (yq (y_extract (ev_t rfl) rfl)) rfl rfl rfl ?_
      refine TL.op (yq (y_extract (ev_t rfl) rfl)) rfl rfl rfl ?_
      refine TL.op (yq (y_assign (ev_t rfl))) rfl rfl rfl ?_
      refine TL.op (yq (y_assign (ev_t rfl))) rfl rfl rfl ?_
      refine TL.nil ?_
      refine TN.seq ?_
      refine TC.seq ?_
      refine TC.seq ?_
      refine TC.region ?_
      refine TL.op (yq (y_move (ev_t rfl))) rfl rfl rfl ?_
      refine TL.op (yq (y_move (ev_t rfl))) rfl rfl rfl ?_
      refine TL.op (yq (y_bneq (ev_t rfl) (ev_t rfl) Try.underlying4)) rfl rfl rfl ?_
      refine TL.op (yq (y_move (ev_t rfl))) rfl rfl rfl ?_
      refine TL.opw (w_f rfl rfl rfl) (fun hg => yq (y_move (ev_t rfl))) rfl rfl ?_
      refine TL.opw (w_f rfl rfl rfl) (fun hg => yq (y_move (ev_t rfl))) rfl rfl ?_
      refine TL.opw (w_f rfl rfl rfl) (fun hg => yq (y_bneq (ev_g rfl hg) (ev_g rfl hg) Try.underlying4)) rfl rfl ?_
      refine TL.op (yq (y_or (ev_t rfl) (fun hq => (ev_g rfl hq)))) rfl rfl rfl ?_
      refine TL.op (yq (y_move (ev_t rfl))) rfl rfl rfl ?_
      refine TL.opw (w_f rfl rfl rfl) (fun hg => yq (y_move (ev_t rfl))) rfl rfl ?_
      refine TL.opw (w_f rfl rfl rfl) (fun hg => yq (y_move (ev_t rfl))) rfl rfl ?_
      refine TL.opw (w_f rfl rfl rfl) (fun hg => y_call (vs := [r13_2, r15_2]) (v := (.bool (F_laws_vInts ((F_impl_LastUses ((F_spec_DrawRunsOf code).1) ((F_spec_DrawRunsOf code).2)).1) ((F_spec_LastUses ((F_spec_DrawRunsOf code).1) ((F_spec_DrawRunsOf code).2)).1)))) en_30 ⟨(ev_g rfl hg), (ev_g rfl hg), trivial⟩ (fun w hw => laws_vInts_ok w r13_2 ((F_impl_LastUses ((F_spec_DrawRunsOf code).1) ((F_spec_DrawRunsOf code).2)).1) ((ri_row 3 rfl) w hw) r15_2 ((F_spec_LastUses ((F_spec_DrawRunsOf code).1) ((F_spec_DrawRunsOf code).2)).1) ((ri_row 1 rfl) w hw))) rfl rfl ?_
      refine TL.opw (w_f rfl rfl rfl) (fun hg => yq (y_not (ev_g rfl hg))) rfl rfl ?_
      refine TL.op (yq (y_or (ev_t rfl) (fun hq => (ev_g rfl hq)))) rfl rfl rfl ?_
      refine TL.op (yq (y_move (ev_t rfl))) rfl rfl rfl ?_
      refine TL.opw (w_f rfl rfl rfl) (fun hg => yq (y_move (ev_t rfl))) rfl rfl ?_
      refine TL.opw (w_f rfl rfl rfl) (fun hg => yq (y_move (ev_t rfl))) rfl rfl ?_
      refine TL.opw (w_f rfl rfl rfl) (fun hg => y_call (vs := [r14_2, r16_2]) (v := (.bool (F_laws_vInts ((F_impl_NextUses ((F_spec_DrawRunsOf code).1) ((F_spec_DrawRunsOf code).2)).1) ((F_spec_NextUses ((F_spec_DrawRunsOf code).1) ((F_spec_DrawRunsOf code).2)).1)))) en_30 ⟨(ev_g rfl hg), (ev_g rfl hg), trivial⟩ (fun w hw => laws_vInts_ok w r14_2 ((F_impl_NextUses ((F_spec_DrawRunsOf code).1) ((F_spec_DrawRunsOf code).2)).1) ((ri_row 2 rfl) w hw) r16_2 ((F_spec_NextUses ((F_spec_DrawRunsOf code).1) ((F_spec_DrawRunsOf code).2)).1) ((ri_row 0 rfl) w hw))) rfl rfl ?_
      refine TL.opw (w_f rfl rfl rfl) (fun hg => yq (y_not (ev_g rfl hg))) rfl rfl ?_
      refine TL.op (yq (y_or (ev_t rfl) (fun hq => (ev_g rfl hq)))) rfl rfl rfl ?_
      refine TL.nil ?_
      refine TN.seq ?_
      refine TC.cond (b := ((((((F_impl_LastUses ((F_spec_DrawRunsOf code).1) ((F_spec_DrawRunsOf code).2)).2) != ((F_spec_LastUses ((F_spec_DrawRunsOf code).1) ((F_spec_DrawRunsOf code).2)).2)) || (((F_impl_NextUses ((F_spec_DrawRunsOf code).1) ((F_spec_DrawRunsOf code).2)).2) != ((F_spec_NextUses ((F_spec_DrawRunsOf code).1) ((F_spec_DrawRunsOf code).2)).2))) || (!(F_laws_vInts ((F_impl_LastUses ((F_spec_DrawRunsOf code).1) ((F_spec_DrawRunsOf code).2)).1) ((F_spec_LastUses ((F_spec_DrawRunsOf code).1) ((F_spec_DrawRunsOf code).2)).1)))) || (!(F_laws_vInts ((F_impl_NextUses ((F_spec_DrawRunsOf code).1) ((F_spec_DrawRunsOf code).2)).1) ((F_spec_NextUses ((F_spec_DrawRunsOf code).1) ((F_spec_DrawRunsOf code).2)).1))))) (ev_t rfl) (fun h25 => ?_) (fun h25 => ?_)
      · rw [bif_pos h25] at hF
        have q26 := ((or_t h25).imp (fun h => ((or_t h).imp (fun h => ((or_t h).imp (fun h => h) (fun h => h))) (fun h => (not_t h)))) (fun h => (not_t h)))
        refine TC.seq ?_
        refine TC.region ?_
        refine TL.op (yq (y_assign ev_c)) rfl rfl rfl ?_
        refine TL.nil ?_
        refine TN.seq ?_
        refine TC.ret ?_
        refine TN.thenR ?_
        subst hF
        exact TN.ret1 rfl (ev_t rfl) (fun w' hw => ⟨rfl, Hp.sublist hw (List.nil_sublist _)⟩)
      · rw [bif_neg h25] at hF
        have q26 := (and_imp (or_f h25) (fun h => (and_imp (or_f h) (fun h => (and_imp (or_f h) (fun h => h) (fun h => h))) (fun h => (not_f h)))) (fun h => (not_f h)))
        refine TC.skip ?_
        refine TN.seq ?_
        refine TC.seq ?_
        refine TC.seq ?_
        refine TC.region ?_
        refine TL.op (yq (y_move (ev_t rfl))) rfl rfl rfl ?_
        refine TL.op (yq (y_not (ev_t rfl))) rfl rfl rfl ?_
        refine TL.nil ?_
        refine TN.seq ?_
        refine TC.cond (b := !((F_impl_RunsOf ((F_spec_DrawRunsOf code).1) ((F_spec_DrawRunsOf code).2)).2)) (ev_t rfl) (fun h27 => ?_) (fun h27 => ?_)
        · rw [bif_pos h27] at hF
          have q28 := (not_t h27)
          refine TC.seq ?_
          refine TC.region ?_
          refine TL.op (yq (y_assign ev_c)) rfl rfl rfl ?_
          refine TL.nil ?_
          refine TN.seq ?_
          refine TC.ret ?_
          refine TN.thenR ?_
          subst hF
          exact TN.ret1 rfl (ev_t rfl) (fun w' hw => ⟨rfl, Hp.sublist hw (List.nil_sublist _)⟩)
        · rw [bif_neg h27] at hF
          have q28 := (not_f h27)
          have hr60 := (isRequests_t (runs_req q28)).2.1
          have hru := ru_bd q28
          have hru1 := hru.1
          have hru2 := hru.2.1
          have hru3 := hru.2.2.1
          have hru4 := hru.2.2.2.1
          refine TC.skip ?_
          refine TN.seq ?_
          refine TC.seq ?_
          refine TC.region ?_
          refine TL.op (yq (y_move (ev_t rfl))) rfl rfl rfl ?_
          refine TL.op (yq (y_move (ev_t rfl))) rfl rfl rfl ?_
          refine TL.callr (ι := Value) (vs := [(.int .i64 ((F_spec_DrawRunsOf code).1)), r4_2]) (fun i => (.tuple #[i, (.bool ((F_impl_FromRuns ((F_spec_DrawRunsOf code).1) ((F_impl_RunsOf ((F_spec_DrawRunsOf code).1) ((F_spec_DrawRunsOf code).2)).1)).2))])) (fun i => [rowI 3 i ((F_impl_FromRuns ((F_spec_DrawRunsOf code).1) ((F_impl_RunsOf ((F_spec_DrawRunsOf code).1) ((F_spec_DrawRunsOf code).2)).1)).1)]) en_25 ⟨(ev_t rfl), (ev_t rfl), trivial⟩ rfl (fun w hw => impl_FromRuns_ok w ((F_spec_DrawRunsOf code).1) r4_2 ((F_impl_RunsOf ((F_spec_DrawRunsOf code).1) ((F_spec_DrawRunsOf code).2)).1) ((rp_row 11 rfl) w hw)) (fun r21_2 => ?_)
          refine TL.op (yq (y_move (ev_t rfl))) rfl rfl rfl ?_
          refine TL.op (yq (y_extract (ev_t rfl) rfl)) rfl rfl rfl ?_
          refine TL.op (yq (y_extract (ev_t rfl) rfl)) rfl rfl rfl ?_
          refine TL.op (yq (y_assign (ev_t rfl))) rfl rfl rfl ?_
          refine TL.op (yq (y_assign (ev_t rfl))) rfl rfl rfl ?_
          refine TL.nil ?_
          refine TN.seq ?_
          refine TC.seq ?_
          refine TC.seq ?_
          refine TC.region ?_
          refine TL.op (yq (y_move (ev_t rfl))) rfl rfl rfl ?_
          refine TL.op (yq (y_not (ev_t rfl))) rfl rfl rfl ?_
          refine TL.op (yq (y_move (ev_t rfl))) rfl rfl rfl ?_
          refine TL.opw (w_f rfl rfl rfl) (fun hg => yq (y_move (ev_t rfl))) rfl rfl ?_
          refine TL.opw (w_f rfl rfl rfl) (fun hg => yq (y_move (ev_t rfl))) rfl rfl ?_
          refine TL.opw (w_f rfl rfl rfl) (fun hg => y_call (vs := [r21_2, r3_1]) (v := (.bool (F_laws_vInts ((F_impl_FromRuns ((F_spec_DrawRunsOf code).1) ((F_impl_RunsOf ((F_spec_DrawRunsOf code).1) ((F_spec_DrawRunsOf code).2)).1)).1) ((F_spec_DrawRunsOf code).2)))) en_30 ⟨(ev_g rfl hg), (ev_g rfl hg), trivial⟩ (fun w hw => laws_vInts_ok w r21_2 ((F_impl_FromRuns ((F_spec_DrawRunsOf code).1) ((F_impl_RunsOf ((F_spec_DrawRunsOf code).1) ((F_spec_DrawRunsOf code).2)).1)).1) ((ri_row 0 rfl) w hw) r3_1 ((F_spec_DrawRunsOf code).2) ((ri_row 13 rfl) w hw))) rfl rfl ?_
          refine TL.opw (w_f rfl rfl rfl) (fun hg => yq (y_not (ev_g rfl hg))) rfl rfl ?_
          refine TL.op (yq (y_or (ev_t rfl) (fun hq => (ev_g rfl hq)))) rfl rfl rfl ?_
          refine TL.op (yq (y_move (ev_t rfl))) rfl rfl rfl ?_
          refine TL.opw (w_f rfl rfl rfl) (fun hg => yq (y_move (ev_t rfl))) rfl rfl ?_
          refine TL.opw (w_f rfl rfl rfl) (fun hg => y_call (vs := [r9_2]) (v := (.int .i64 (F_laws_vSum ((F_impl_CountsOf ((F_spec_DrawRunsOf code).1) ((F_spec_DrawRunsOf code).2)).1)))) en_35 ⟨(ev_g rfl hg), trivial⟩ (fun w hw => laws_vSum_ok w r9_2 ((F_impl_CountsOf ((F_spec_DrawRunsOf code).1) ((F_spec_DrawRunsOf code).2)).1) ((ri_row 6 rfl) w hw) (by have hgf := (and_imp (or_f (not_t hg)) (fun h => (not_f h)) (fun h => (not_f h))); first | assumption | omega | (have hq := hgf.n6; omega) | (have hq := hgf.1.n6; omega) | grind) (by have hgf := (and_imp (or_f (not_t hg)) (fun h => (not_f h)) (fun h => (not_f h))); first | assumption | omega | (have hq := hgf.n6; omega) | (have hq := hgf.1.n6; omega) | grind))) rfl rfl ?_
          refine TL.opw (w_f rfl rfl rfl) (fun hg => yq (y_move (ev_t rfl))) rfl rfl ?_
          refine TL.opw (w_f rfl rfl rfl) (fun hg => yq (y_len (ev_g rfl hg) Try.underlying34 (fun w hw => ((ri_row 13 rfl) w hw).ln))) rfl rfl ?_
          refine TL.opw (w_f rfl rfl rfl) (fun hg => yq (y_neq (ev_g rfl hg) (ev_g rfl hg))) rfl rfl ?_
          refine TL.op (yq (y_or (ev_t rfl) (fun hq => (ev_g rfl hq)))) rfl rfl rfl ?_
          refine TL.nil ?_
          refine TN.seq ?_
          refine TC.cond (b := (((!((F_impl_FromRuns ((F_spec_DrawRunsOf code).1) ((F_impl_RunsOf ((F_spec_DrawRunsOf code).1) ((F_spec_DrawRunsOf code).2)).1)).2)) || (!(F_laws_vInts ((F_impl_FromRuns ((F_spec_DrawRunsOf code).1) ((F_impl_RunsOf ((F_spec_DrawRunsOf code).1) ((F_spec_DrawRunsOf code).2)).1)).1) ((F_spec_DrawRunsOf code).2)))) || (!decide ((F_laws_vSum ((F_impl_CountsOf ((F_spec_DrawRunsOf code).1) ((F_spec_DrawRunsOf code).2)).1)) = ((F_spec_DrawRunsOf code).2.length : Int))))) (ev_t rfl) (fun h29 => ?_) (fun h29 => ?_)
          · rw [bif_pos h29] at hF
            have q30 := ((or_t h29).imp (fun h => ((or_t h).imp (fun h => (not_t h)) (fun h => (not_t h)))) (fun h => (of_decide_eq_false (not_t h))))
            refine TC.seq ?_
            refine TC.region ?_
            refine TL.op (yq (y_assign ev_c)) rfl rfl rfl ?_
            refine TL.nil ?_
            refine TN.seq ?_
            refine TC.ret ?_
            refine TN.thenR ?_
            subst hF
            exact TN.ret1 rfl (ev_t rfl) (fun w' hw => ⟨rfl, Hp.sublist hw (List.nil_sublist _)⟩)
          · rw [bif_neg h29] at hF
            have q30 := (and_imp (or_f h29) (fun h => (and_imp (or_f h) (fun h => (not_f h)) (fun h => (not_f h)))) (fun h => (of_decide_eq_true (not_f h))))
            refine TC.skip ?_
            refine TN.seq ?_
            refine TC.seq ?_
            refine TC.seq ?_
            refine TC.region ?_
            refine TL.op (yq (y_assign ev_c)) rfl rfl rfl ?_
            refine TL.nil ?_
            refine TN.seq ?_
            refine TC.block ?_
            obtain ⟨c31, hc32⟩ : ∃ c, F_laws_FnRunsAndUses_L1 code ((((F_spec_DrawRunsOf code).2.length) - 0) + 1) 0 = c := ⟨_, rfl⟩
            rw [hc32] at hF
            refine TC.loop (ι := Nat × Nat) (fun (fu1, k29_1) => [(4, r3_1), (19, r13_2), (21, r14_2), (29, (.int .i64 (k29_1 : Int)))]) (fun (fu1, k29_1) => Hp w [rowI 3 r14_2 ((F_impl_NextUses ((F_spec_DrawRunsOf code).1) ((F_spec_DrawRunsOf code).2)).1), rowI 3 r13_2 ((F_impl_LastUses ((F_spec_DrawRunsOf code).1) ((F_spec_DrawRunsOf code).2)).1), rowI 3 r3_1 ((F_spec_DrawRunsOf code).2)]) (fun (fu1, k29_1) => (k29_1 ≤ ((F_spec_DrawRunsOf code).2.length)) ∧ ((F_spec_DrawRunsOf code).2.length) - k29_1 < fu1 ∧ F_laws_FnRunsAndUses_L1 code fu1 k29_1 = c31) (fun (fu1, k29_1) => fu1) ((((F_spec_DrawRunsOf code).2.length) - 0) + 1, 0) ⟨(by first | omega | (simp [-List.getD_eq_getElem?_getD] <;> omega)), (by omega), hc32⟩ ⟨rfl, rfl, rfl, rfl, trivial⟩ (fun w hw => Hp.sublist hw (.cons _ (.cons _ (.cons _ (.cons_cons _ (.cons_cons _ (.cons _ (.cons _ (.cons _ (.cons _ (.cons _ (.cons _ (.cons _ (.cons _ (.cons_cons _ .slnil))))))))))))))) ?_
            rintro ⟨fu1, k29_1⟩ hJ1
            obtain ⟨hi1_0, hmu1, hL1⟩ : (k29_1 ≤ ((F_spec_DrawRunsOf code).2.length)) ∧ ((F_spec_DrawRunsOf code).2.length) - k29_1 < fu1 ∧ F_laws_FnRunsAndUses_L1 code fu1 k29_1 = c31 := hJ1
            change TC _ _ _ _ (Hp w [rowI 3 r14_2 ((F_impl_NextUses ((F_spec_DrawRunsOf code).1) ((F_spec_DrawRunsOf code).2)).1), rowI 3 r13_2 ((F_impl_LastUses ((F_spec_DrawRunsOf code).1) ((F_spec_DrawRunsOf code).2)).1), rowI 3 r3_1 ((F_spec_DrawRunsOf code).2)]) [(4, r3_1), (19, r13_2), (21, r14_2), (29, (.int .i64 (k29_1 : Int)))]
            obtain ⟨mf1, rfl⟩ : ∃ m, fu1 = m + 1 := ⟨fu1 - 1, by omega⟩
            rw [F_laws_FnRunsAndUses_L1_s] at hL1
            refine TC.seq ?_
            refine TC.seq ?_
            refine TC.region ?_
            refine TL.op (yq (y_move (ev_t rfl))) rfl rfl rfl ?_
            refine TL.op (yq (y_move (ev_t rfl))) rfl rfl rfl ?_
            refine TL.op (yq (y_len (ev_t rfl) Try.underlying34 (fun w hw => ((ri_row 2 rfl) w hw).ln))) rfl rfl rfl ?_
            refine TL.op (yq (y_lss (ev_t rfl) (ev_t rfl))) rfl rfl rfl ?_
            refine TL.nil ?_
            refine TN.seq ?_
            refine TC.cond (b := decide ((k29_1 : Int) < ((F_spec_DrawRunsOf code).2.length : Int))) (ev_t rfl) (fun h33 => ?_) (fun h33 => ?_)
            · rw [bif_pos h33] at hL1
              have q34 := (of_decide_eq_true h33)
              have hlb := hru.2.2.2.2.1 k29_1 (by omega)
              have hnb := hru.2.2.2.2.2 k29_1 (by omega)
              refine TC.skip ?_
              refine TN.seq ?_
              refine TC.seq ?_
              refine TC.block ?_
              refine TC.seq ?_
              refine TC.region ?_
              refine TL.op (yq (y_move (ev_t rfl))) rfl rfl rfl ?_
              refine TL.op (yq (y_move (ev_t rfl))) rfl rfl rfl ?_
              have hb35 : k29_1 < (F_impl_LastUses ((F_spec_DrawRunsOf code).1) ((F_spec_DrawRunsOf code).2)).1.length := (by first | omega | (simp only [List.length_set, List.length_append, List.length_cons, List.length_nil, List.length_replicate]; omega) | (rw [sortI_length]; simp only [List.length_cons, List.length_nil]; omega))
              refine TL.op (yq (y_idx (k := k29_1) (ev_t rfl) (ev_t rfl) (by first | omega | simp) slT_34 (ri_row 1 rfl) hb35)) rfl rfl rfl ?_
              refine TL.op (yq (y_ldi (ev_t rfl) one_3 (ri_row 1 rfl) hb35)) rfl rfl rfl ?_
              refine TL.op (yq (y_geq (ev_t rfl) ev_c)) rfl rfl rfl ?_
              refine TL.op (yq (y_move (ev_t rfl))) rfl rfl rfl ?_
              refine TL.opw (w_t rfl rfl rfl) (fun hg => yq (y_move (ev_t rfl))) rfl rfl ?_
              refine TL.opw (w_t rfl rfl rfl) (fun hg => yq (y_move (ev_t rfl))) rfl rfl ?_
              refine TL.opw (w_t rfl rfl rfl) (fun hg => yq (y_move (ev_t rfl))) rfl rfl ?_
              refine TL.opw (w_t rfl rfl rfl) (fun hg => yq (y_idx (k := k29_1) (ev_g rfl hg) (ev_g rfl hg) (by have hgf := (of_decide_eq_true hg); first | omega | simp) slT_34 (ri_row 1 rfl) (show k29_1 < (F_impl_LastUses ((F_spec_DrawRunsOf code).1) ((F_spec_DrawRunsOf code).2)).1.length by have hgf := (of_decide_eq_true hg); omega))) rfl rfl ?_
              refine TL.opw (w_t rfl rfl rfl) (fun hg => yq (y_ldi (ev_g rfl hg) one_3 (ri_row 1 rfl) (show k29_1 < (F_impl_LastUses ((F_spec_DrawRunsOf code).1) ((F_spec_DrawRunsOf code).2)).1.length by have hgf := (of_decide_eq_true hg); omega))) rfl rfl ?_
              refine TL.opw (w_t rfl rfl rfl) (fun hg => yq (y_idx (k := (((F_impl_LastUses ((F_spec_DrawRunsOf code).1) ((F_spec_DrawRunsOf code).2)).1.getD k29_1 0)).toNat) (ev_g rfl hg) (ev_g rfl hg) (by have hgf := (of_decide_eq_true hg); first | omega | simp) slT_34 (ri_row 0 rfl) (show (((F_impl_LastUses ((F_spec_DrawRunsOf code).1) ((F_spec_DrawRunsOf code).2)).1.getD k29_1 0)).toNat < (F_impl_NextUses ((F_spec_DrawRunsOf code).1) ((F_spec_DrawRunsOf code).2)).1.length by have hgf := (of_decide_eq_true hg); omega))) rfl rfl ?_
              refine TL.opw (w_t rfl rfl rfl) (fun hg => yq (y_ldi (ev_g rfl hg) one_3 (ri_row 0 rfl) (show (((F_impl_LastUses ((F_spec_DrawRunsOf code).1) ((F_spec_DrawRunsOf code).2)).1.getD k29_1 0)).toNat < (F_impl_NextUses ((F_spec_DrawRunsOf code).1) ((F_spec_DrawRunsOf code).2)).1.length by have hgf := (of_decide_eq_true hg); omega))) rfl rfl ?_
              refine TL.opw (w_t rfl rfl rfl) (fun hg => yq (y_move (ev_t rfl))) rfl rfl ?_
              refine TL.opw (w_t rfl rfl rfl) (fun hg => yq (y_neq (ev_g rfl hg) (ev_g rfl hg))) rfl rfl ?_
              refine TL.op (yq (y_and (ev_t rfl) (fun hq => (ev_g rfl hq)))) rfl rfl rfl ?_
              refine TL.op (yq (y_move (ev_t rfl))) rfl rfl rfl ?_
              refine TL.opw (w_f rfl rfl rfl) (fun hg => yq (y_move (ev_t rfl))) rfl rfl ?_
              refine TL.opw (w_f rfl rfl rfl) (fun hg => yq (y_move (ev_t rfl))) rfl rfl ?_
              refine TL.opw (w_f rfl rfl rfl) (fun hg => yq (y_idx (k := k29_1) (ev_g rfl hg) (ev_g rfl hg) (by have hgf := ((and_f (not_t hg)).imp (fun h => (of_decide_eq_false h)) (fun h => (of_decide_eq_true (not_f h)))); first | omega | simp) slT_34 (ri_row 0 rfl) (show k29_1 < (F_impl_NextUses ((F_spec_DrawRunsOf code).1) ((F_spec_DrawRunsOf code).2)).1.length by have hgf := ((and_f (not_t hg)).imp (fun h => (of_decide_eq_false h)) (fun h => (of_decide_eq_true (not_f h)))); omega))) rfl rfl ?_
              refine TL.opw (w_f rfl rfl rfl) (fun hg => yq (y_ldi (ev_g rfl hg) one_3 (ri_row 0 rfl) (show k29_1 < (F_impl_NextUses ((F_spec_DrawRunsOf code).1) ((F_spec_DrawRunsOf code).2)).1.length by have hgf := ((and_f (not_t hg)).imp (fun h => (of_decide_eq_false h)) (fun h => (of_decide_eq_true (not_f h)))); omega))) rfl rfl ?_
              refine TL.opw (w_f rfl rfl rfl) (fun hg => yq (y_geq (ev_g rfl hg) ev_c)) rfl rfl ?_
              refine TL.opw (w_f rfl rfl rfl) (fun hg => yq (y_move (ev_g rfl hg))) rfl rfl ?_
              refine TL.opw (w_gt rfl rfl rfl) (fun hg => yq (y_move (ev_t rfl))) rfl rfl ?_
              refine TL.opw (w_gt rfl rfl rfl) (fun hg => yq (y_move (ev_t rfl))) rfl rfl ?_
              refine TL.opw (w_gt rfl rfl rfl) (fun hg => yq (y_move (ev_t rfl))) rfl rfl ?_
              refine TL.opw (w_gt rfl rfl rfl) (fun hg => yq (y_idx (k := k29_1) (ev_g rfl hg) (ev_g rfl hg) (by have hgf := (and_imp (and_t hg) (fun h => ((and_f (not_t h)).imp (fun h => (of_decide_eq_false h)) (fun h => (of_decide_eq_true (not_f h))))) (fun h => (of_decide_eq_true h))); first | omega | simp) slT_34 (ri_row 0 rfl) (show k29_1 < (F_impl_NextUses ((F_spec_DrawRunsOf code).1) ((F_spec_DrawRunsOf code).2)).1.length by have hgf := (and_imp (and_t hg) (fun h => ((and_f (not_t h)).imp (fun h => (of_decide_eq_false h)) (fun h => (of_decide_eq_true (not_f h))))) (fun h => (of_decide_eq_true h))); omega))) rfl rfl ?_
              refine TL.opw (w_gt rfl rfl rfl) (fun hg => yq (y_ldi (ev_g rfl hg) one_3 (ri_row 0 rfl) (show k29_1 < (F_impl_NextUses ((F_spec_DrawRunsOf code).1) ((F_spec_DrawRunsOf code).2)).1.length by have hgf := (and_imp (and_t hg) (fun h => ((and_f (not_t h)).imp (fun h => (of_decide_eq_false h)) (fun h => (of_decide_eq_true (not_f h))))) (fun h => (of_decide_eq_true h))); omega))) rfl rfl ?_
              refine TL.opw (w_gt rfl rfl rfl) (fun hg => yq (y_idx (k := (((F_impl_NextUses ((F_spec_DrawRunsOf code).1) ((F_spec_DrawRunsOf code).2)).1.getD k29_1 0)).toNat) (ev_g rfl hg) (ev_g rfl hg) (by have hgf := (and_imp (and_t hg) (fun h => ((and_f (not_t h)).imp (fun h => (of_decide_eq_false h)) (fun h => (of_decide_eq_true (not_f h))))) (fun h => (of_decide_eq_true h))); first | omega | simp) slT_34 (ri_row 1 rfl) (show (((F_impl_NextUses ((F_spec_DrawRunsOf code).1) ((F_spec_DrawRunsOf code).2)).1.getD k29_1 0)).toNat < (F_impl_LastUses ((F_spec_DrawRunsOf code).1) ((F_spec_DrawRunsOf code).2)).1.length by have hgf := (and_imp (and_t hg) (fun h => ((and_f (not_t h)).imp (fun h => (of_decide_eq_false h)) (fun h => (of_decide_eq_true (not_f h))))) (fun h => (of_decide_eq_true h))); omega))) rfl rfl ?_
              refine TL.opw (w_gt rfl rfl rfl) (fun hg => yq (y_ldi (ev_g rfl hg) one_3 (ri_row 1 rfl) (show (((F_impl_NextUses ((F_spec_DrawRunsOf code).1) ((F_spec_DrawRunsOf code).2)).1.getD k29_1 0)).toNat < (F_impl_LastUses ((F_spec_DrawRunsOf code).1) ((F_spec_DrawRunsOf code).2)).1.length by have hgf := (and_imp (and_t hg) (fun h => ((and_f (not_t h)).imp (fun h => (of_decide_eq_false h)) (fun h => (of_decide_eq_true (not_f h))))) (fun h => (of_decide_eq_true h))); omega))) rfl rfl ?_
              refine TL.opw (w_gt rfl rfl rfl) (fun hg => yq (y_move (ev_t rfl))) rfl rfl ?_
              refine TL.opw (w_gt rfl rfl rfl) (fun hg => yq (y_neq (ev_g rfl hg) (ev_g rfl hg))) rfl rfl ?_
              refine TL.opw (w_f rfl rfl rfl) (fun hg => yq (y_and (ev_g rfl hg) (fun hq => (ev_g rfl (gand hg hq))))) rfl rfl ?_
              refine TL.op (yq (y_or (ev_t rfl) (fun hq => (ev_g rfl hq)))) rfl rfl rfl ?_
              refine TL.nil ?_
              refine TN.seq ?_
              refine TC.cond (b := (((decide (0 ≤ ((F_impl_LastUses ((F_spec_DrawRunsOf code).1) ((F_spec_DrawRunsOf code).2)).1.getD k29_1 0))) && (!decide (((F_impl_NextUses ((F_spec_DrawRunsOf code).1) ((F_spec_DrawRunsOf code).2)).1.getD ((((F_impl_LastUses ((F_spec_DrawRunsOf code).1) ((F_spec_DrawRunsOf code).2)).1.getD k29_1 0)).toNat) 0) = (k29_1 : Int)))) || ((decide (0 ≤ ((F_impl_NextUses ((F_spec_DrawRunsOf code).1) ((F_spec_DrawRunsOf code).2)).1.getD k29_1 0))) && (!decide (((F_impl_LastUses ((F_spec_DrawRunsOf code).1) ((F_spec_DrawRunsOf code).2)).1.getD ((((F_impl_NextUses ((F_spec_DrawRunsOf code).1) ((F_spec_DrawRunsOf code).2)).1.getD k29_1 0)).toNat) 0) = (k29_1 : Int)))))) (ev_t rfl) (fun h36 => ?_) (fun h36 => ?_)
              · rw [bif_pos h36] at hL1
                have q37 := ((or_t h36).imp (fun h => (and_imp (and_t h) (fun h => (of_decide_eq_true h)) (fun h => (of_decide_eq_false (not_t h))))) (fun h => (and_imp (and_t h) (fun h => (of_decide_eq_true h)) (fun h => (of_decide_eq_false (not_t h))))))
                refine TC.seq ?_
                refine TC.region ?_
                refine TL.op (yq (y_assign ev_c)) rfl rfl rfl ?_
                refine TL.nil ?_
                refine TN.seq ?_
                refine TC.ret ?_
                refine TN.blockR ?_
                refine TN.thenR ?_
                refine TN.thenR ?_
                rw [← hL1, elim_ret] at hF
                refine TN.blockR ?_
                refine TN.thenR ?_
                subst hF
                exact TN.ret1 rfl (ev_t rfl) (fun w' hw => ⟨rfl, Hp.sublist hw (List.nil_sublist _)⟩)
              · rw [bif_neg h36] at hL1
                have q37 := (and_imp (or_f h36) (fun h => ((and_f h).imp (fun h => (of_decide_eq_false h)) (fun h => (of_decide_eq_true (not_f h))))) (fun h => ((and_f h).imp (fun h => (of_decide_eq_false h)) (fun h => (of_decide_eq_true (not_f h))))))
                refine TC.skip ?_
                refine TN.blockN ?_
                refine TN.seq ?_
                refine TC.region ?_
                refine TL.op (yq (y_move (ev_t rfl))) rfl rfl rfl ?_
                refine TL.op (yq (y_add (ev_t rfl) ev_c (by unfold In64; constructor <;> omega))) rfl rfl rfl ?_
                refine TL.op (yq (y_assign (ev_t rfl))) rfl rfl rfl ?_
                refine TL.nil ?_
                exact TN.hand (mf1, (k29_1 + 1)) ⟨(by first | omega | (simp [-List.getD_eq_getElem?_getD] <;> omega)), (by omega), hL1⟩ (Nat.lt_succ_self _) ⟨rfl, rfl, rfl, rfl, trivial⟩ (fun w hw => hw)
            · rw [bif_neg h33] at hL1
              have q34 := (of_decide_eq_false h33)
              refine TC.exit ?_
              refine TN.thenE ?_
              refine TN.thenE ?_
              rw [← hL1, elim_next] at hF
              try dsimp only at hF
              refine TN.blockH ?_
              refine TN.seq ?_
              refine TC.seq ?_
              refine TC.region ?_
              refine TL.op (yq (y_assign ev_c)) rfl rfl rfl ?_
              refine TL.nil ?_
              refine TN.seq ?_
              refine TC.ret ?_
              subst hF
              exact TN.ret1 rfl (ev_t rfl) (fun w' hw => ⟨rfl, Hp.sublist hw (List.nil_sublist _)⟩)


end Go.Proofs.Ytcmhgkcifejgcaa
