/-
  Part of a proof: rules of the walk, plain functions and their laws, walks. No condition.
-/
import Derived.Test.YtcmhgkcifejgcaaKCutsOfTree13
namespace Go.Proofs.Ytcmhgkcifejgcaa
set_option linter.unusedVariables false
set_option linter.unusedSimpArgs false
open Go Go.RowKit
set_option linter.unusedVariables false

set_option maxRecDepth 4000 in
set_option maxHeartbeats 1000000 in
theorem spec_l6Table_ok (w : World) (vm : Value) (um : List Value) (m : List (List Int)) (hm : RII w vm um m) (opn : Bool)  :
    Calls Try.prog 126 ([(.agg #[vm]), (.bool opn)] : List Value).toArray w (Ret (.bool (F_spec_l6Table m opn)) (Hp w [])) := by
  obtain ⟨rz, hF⟩ : ∃ rz, (F_spec_l6Table m opn) = rz := ⟨_, rfl⟩
  rw [hF]
  unfold F_spec_l6Table at hF
  have hlen_m := argT_len hm
  refine calls_tc Try.func126 rfl rfl rfl ?_
  change TC _ _ _ _ (Hp w []) [(0, (.agg #[vm])), (1, (.bool opn))]
  refine TC.seq ?_
  refine TC.region ?_
  refine TL.box (ev_t rfl) rfl (fun g0_0 => ?_)
  refine TL.op (yq (y_assign ev_c)) rfl rfl rfl ?_
  refine TL.nil ?_
  refine TN.seq ?_
  refine TC.seq ?_
  refine TC.region ?_
  refine TL.op (yq (y_fa (fa_55_0 g0_0) (ev_t rfl))) rfl rfl rfl ?_
  refine TL.op (yq (y_ldb 0 (ev_t rfl) one_49 rfl rfl)) rfl rfl rfl ?_
  refine TL.op (yq (y_len (ev_t rfl) Try.underlying49 (fun w hw => ((fun w hw => ((rii_arg hm) w hw).1) w hw).ln))) rfl rfl rfl ?_
  refine TL.op (yq (y_assign (ev_t rfl))) rfl rfl rfl ?_
  refine TL.nil ?_
  refine TN.seq ?_
  refine TC.seq ?_
  refine TC.seq ?_
  refine TC.region ?_
  refine TL.op (yq (y_move (ev_t rfl))) rfl rfl rfl ?_
  refine TL.op (y_call (vs := [(.int .i64 (m.length : Int)), (.int .i64 1), (.int .i64 6)]) (v := (.bool ((decide (1 ≤ (m.length : Int))) && (decide ((m.length : Int) ≤ 6))))) en_81 ⟨(ev_t rfl), ev_c, ev_c, trivial⟩ (fun w hw => spec_l1In_ok w (m.length : Int) 1 6)) rfl rfl rfl ?_
  refine TL.op (yq (y_not (ev_t rfl))) rfl rfl rfl ?_
  refine TL.nil ?_
  refine TN.seq ?_
  refine TC.cond (b := !((decide (1 ≤ (m.length : Int))) && (decide ((m.length : Int) ≤ 6)))) (ev_t rfl) (fun h49 => ?_) (fun h49 => ?_)
  · rw [bif_pos h49] at hF
    have q50 := ((and_f (not_t h49)).imp (fun h => (of_decide_eq_false h)) (fun h => (of_decide_eq_false h)))
    refine TC.seq ?_
    refine TC.region ?_
    refine TL.op (yq (y_assign ev_c)) rfl rfl rfl ?_
    refine TL.nil ?_
    refine TN.seq ?_
    refine TC.ret ?_
    refine TN.thenR ?_
    subst hF
    exact TN.ret1 rfl (ev_t rfl) (fun w' hw => ⟨rfl, Hp.sublist hw (List.nil_sublist _)⟩)
  · rw [bif_neg h49] at hF
    have q50 := (and_imp (and_t (not_f h49)) (fun h => (of_decide_eq_true h)) (fun h => (of_decide_eq_true h)))
    refine TC.skip ?_
    refine TN.seq ?_
    refine TC.seq ?_
    refine TC.seq ?_
    refine TC.region ?_
    refine TL.op (yq (y_assign ev_c)) rfl rfl rfl ?_
    refine TL.nil ?_
    refine TN.seq ?_
    refine TC.block ?_
    obtain ⟨c51, hc52⟩ : ∃ c, F_spec_l6Table_L1 m ((m.length - 0) + 1) 0 = c := ⟨_, rfl⟩
    rw [hc52] at hF
    refine TC.loop (ι := Nat × Nat) (fun (fu1, k6_1) => [(1, (.bool opn)), (2, (.pointer (some ⟨g0_0, 0, none⟩))), (5, (.int .i64 (m.length : Int))), (6, (.int .i64 (k6_1 : Int)))]) (fun (fu1, k6_1) => Hp w [.blk g0_0 55 [vm]]) (fun (fu1, k6_1) => (k6_1 ≤ m.length) ∧ (∀ j, j < k6_1 → (m.getD j []).length = m.length) ∧ m.length - k6_1 < fu1 ∧ F_spec_l6Table_L1 m fu1 k6_1 = c51) (fun (fu1, k6_1) => fu1) ((m.length - 0) + 1, 0) ⟨(by first | omega | (simp [-List.getD_eq_getElem?_getD] <;> omega)), (fun j hj => by omega), (by omega), hc52⟩ ⟨rfl, rfl, rfl, rfl, trivial⟩ (fun w hw => hw) ?_
    rintro ⟨fu1, k6_1⟩ hJ1
    obtain ⟨hi1_0, hi1_1, hmu1, hL1⟩ : (k6_1 ≤ m.length) ∧ (∀ j, j < k6_1 → (m.getD j []).length = m.length) ∧ m.length - k6_1 < fu1 ∧ F_spec_l6Table_L1 m fu1 k6_1 = c51 := hJ1
    change TC _ _ _ _ (Hp w [.blk g0_0 55 [vm]]) [(1, (.bool opn)), (2, (.pointer (some ⟨g0_0, 0, none⟩))), (5, (.int .i64 (m.length : Int))), (6, (.int .i64 (k6_1 : Int)))]
    obtain ⟨mf1, rfl⟩ : ∃ m, fu1 = m + 1 := ⟨fu1 - 1, by omega⟩
    rw [F_spec_l6Table_L1_s] at hL1
    refine TC.seq ?_
    refine TC.seq ?_
    refine TC.region ?_
    refine TL.op (yq (y_move (ev_t rfl))) rfl rfl rfl ?_
    refine TL.op (yq (y_move (ev_t rfl))) rfl rfl rfl ?_
    refine TL.op (yq (y_lss (ev_t rfl) (ev_t rfl))) rfl rfl rfl ?_
    refine TL.nil ?_
    refine TN.seq ?_
    refine TC.cond (b := decide ((k6_1 : Int) < (m.length : Int))) (ev_t rfl) (fun h53 => ?_) (fun h53 => ?_)
    · rw [bif_pos h53] at hL1
      have q54 := (of_decide_eq_true h53)
      refine TC.skip ?_
      refine TN.seq ?_
      refine TC.seq ?_
      refine TC.block ?_
      refine TC.seq ?_
      refine TC.region ?_
      refine TL.op (yq (y_fa (fa_55_0 g0_0) (ev_t rfl))) rfl rfl rfl ?_
      refine TL.op (yq (y_ldb 0 (ev_t rfl) one_49 rfl rfl)) rfl rfl rfl ?_
      refine TL.op (yq (y_move (ev_t rfl))) rfl rfl rfl ?_
      have hb55 : k6_1 < m.length := (by first | omega | (simp only [List.length_set, List.length_append, List.length_cons, List.length_nil, List.length_replicate]; omega) | (rw [sortI_length]; simp only [List.length_cons, List.length_nil]; omega))
      refine TL.op (yq (y_idx (k := k6_1) (ev_t rfl) (ev_t rfl) (by first | omega | simp) slT_49 (fun w hw => ((rii_arg hm) w hw).1) hb55)) rfl rfl rfl ?_
      have ha56 := hm.row (i := k6_1) hb55
      refine TL.op (yq (y_ldA (ev_t rfl) one_34 (rii_arg hm) hb55)) rfl rfl rfl ?_
      refine TL.op (yq (y_len (ev_t rfl) Try.underlying34 (fun w hw => ((ri_arg ha56) w hw).ln))) rfl rfl rfl ?_
      refine TL.op (yq (y_move (ev_t rfl))) rfl rfl rfl ?_
      refine TL.op (yq (y_neq (ev_t rfl) (ev_t rfl))) rfl rfl rfl ?_
      refine TL.nil ?_
      refine TN.seq ?_
      refine TC.cond (b := !decide (((m.getD k6_1 []).length : Int) = (m.length : Int))) (ev_t rfl) (fun h57 => ?_) (fun h57 => ?_)
      · rw [bif_pos h57] at hL1
        have q58 := (of_decide_eq_false (not_t h57))
        refine TC.seq ?_
        refine TC.region ?_
        refine TL.op (yq (y_assign ev_c)) rfl rfl rfl ?_
        refine TL.nil ?_
        refine TN.seq ?_
        refine TC.ret ?_
        refine TN.blockR ?_
        refine TN.thenR ?_
        refine TN.thenR ?_
        rw [← hL1, elim_ret] at hF
        refine TN.blockR ?_
        refine TN.thenR ?_
        subst hF
        exact TN.ret1 rfl (ev_t rfl) (fun w' hw => ⟨rfl, Hp.sublist hw (List.nil_sublist _)⟩)
      · rw [bif_neg h57] at hL1
        have q58 := (of_decide_eq_true (not_f h57))
        refine TC.skip ?_
        refine TN.blockN ?_
        refine TN.seq ?_
        refine TC.region ?_
        refine TL.op (yq (y_move (ev_t rfl))) rfl rfl rfl ?_
        refine TL.op (yq (y_add (ev_t rfl) ev_c (by unfold In64; constructor <;> omega))) rfl rfl rfl ?_
        refine TL.op (yq (y_assign (ev_t rfl))) rfl rfl rfl ?_
        refine TL.nil ?_
        exact TN.hand (mf1, (k6_1 + 1)) ⟨(by first | omega | (simp [-List.getD_eq_getElem?_getD] <;> omega)), (upto_succ hi1_1 (by omega)), (by omega), hL1⟩ (Nat.lt_succ_self _) ⟨rfl, rfl, rfl, rfl, trivial⟩ (fun w hw => hw)
    · rw [bif_neg h53] at hL1
      have q54 := (of_decide_eq_false h53)
      refine TC.exit ?_
      refine TN.thenE ?_
      refine TN.thenE ?_
      rw [← hL1, elim_next] at hF
      try dsimp only at hF
      refine TN.blockH ?_
      refine TN.seq ?_
      refine TC.seq ?_
      refine TC.seq ?_
      refine TC.region ?_
      refine TL.op (yq (y_assign ev_c)) rfl rfl rfl ?_
      refine TL.nil ?_
      refine TN.seq ?_
      refine TC.block ?_
      obtain ⟨c59, hc60⟩ : ∃ c, F_spec_l6Table_L2 m opn ((m.length - 0) + 1) 0 = c := ⟨_, rfl⟩
      rw [hc60] at hF
      refine TC.loop (ι := Nat × Nat) (fun (fu2, k7_2) => [(1, (.bool opn)), (2, (.pointer (some ⟨g0_0, 0, none⟩))), (5, (.int .i64 (m.length : Int))), (7, (.int .i64 (k7_2 : Int)))]) (fun (fu2, k7_2) => Hp w [.blk g0_0 55 [vm]]) (fun (fu2, k7_2) => (k7_2 ≤ m.length) ∧ m.length - k7_2 < fu2 ∧ F_spec_l6Table_L2 m opn fu2 k7_2 = c59) (fun (fu2, k7_2) => fu2) ((m.length - 0) + 1, 0) ⟨(by first | omega | (simp [-List.getD_eq_getElem?_getD] <;> omega)), (by omega), hc60⟩ ⟨rfl, rfl, rfl, rfl, trivial⟩ (fun w hw => hw) ?_
      rintro ⟨fu2, k7_2⟩ hJ2
      obtain ⟨hi2_0, hmu2, hL2⟩ : (k7_2 ≤ m.length) ∧ m.length - k7_2 < fu2 ∧ F_spec_l6Table_L2 m opn fu2 k7_2 = c59 := hJ2
      change TC _ _ _ _ (Hp w [.blk g0_0 55 [vm]]) [(1, (.bool opn)), (2, (.pointer (some ⟨g0_0, 0, none⟩))), (5, (.int .i64 (m.length : Int))), (7, (.int .i64 (k7_2 : Int)))]
      obtain ⟨mf2, rfl⟩ : ∃ m, fu2 = m + 1 := ⟨fu2 - 1, by omega⟩
      rw [F_spec_l6Table_L2_s] at hL2
      have hrw := hi1_1 k7_2
      refine TC.seq ?_
      refine TC.seq ?_
      refine TC.region ?_
      refine TL.op (yq (y_move (ev_t rfl))) rfl rfl rfl ?_
      refine TL.op (yq (y_move (ev_t rfl))) rfl rfl rfl ?_
      refine TL.op (yq (y_lss (ev_t rfl) (ev_t rfl))) rfl rfl rfl ?_
      refine TL.nil ?_
      refine TN.seq ?_
      refine TC.cond (b := decide ((k7_2 : Int) < (m.length : Int))) (ev_t rfl) (fun h61 => ?_) (fun h61 => ?_)
      · rw [bif_pos h61] at hL2
        have q62 := (of_decide_eq_true h61)
        refine TC.skip ?_
        refine TN.seq ?_
        refine TC.seq ?_
        refine TC.block ?_
        refine TC.seq ?_
        refine TC.region ?_
        refine TL.op (yq (y_assign ev_c)) rfl rfl rfl ?_
        refine TL.nil ?_
        refine TN.seq ?_
        refine TC.block ?_
        obtain ⟨c63, hc64⟩ : ∃ c, F_spec_l6Table_L3 m opn k7_2 ((m.length - 0) + 1) 0 = c := ⟨_, rfl⟩
        rw [hc64] at hL2
        refine TC.loop (ι := Nat × Nat) (fun (fu3, k8_3) => [(1, (.bool opn)), (2, (.pointer (some ⟨g0_0, 0, none⟩))), (5, (.int .i64 (m.length : Int))), (7, (.int .i64 (k7_2 : Int))), (8, (.int .i64 (k8_3 : Int)))]) (fun (fu3, k8_3) => Hp w [.blk g0_0 55 [vm]]) (fun (fu3, k8_3) => (k8_3 ≤ m.length) ∧ m.length - k8_3 < fu3 ∧ F_spec_l6Table_L3 m opn k7_2 fu3 k8_3 = c63) (fun (fu3, k8_3) => fu3) ((m.length - 0) + 1, 0) ⟨(by first | omega | (simp [-List.getD_eq_getElem?_getD] <;> omega)), (by omega), hc64⟩ ⟨rfl, rfl, rfl, rfl, rfl, trivial⟩ (fun w hw => hw) ?_
        rintro ⟨fu3, k8_3⟩ hJ3
        obtain ⟨hi3_0, hmu3, hL3⟩ : (k8_3 ≤ m.length) ∧ m.length - k8_3 < fu3 ∧ F_spec_l6Table_L3 m opn k7_2 fu3 k8_3 = c63 := hJ3
        change TC _ _ _ _ (Hp w [.blk g0_0 55 [vm]]) [(1, (.bool opn)), (2, (.pointer (some ⟨g0_0, 0, none⟩))), (5, (.int .i64 (m.length : Int))), (7, (.int .i64 (k7_2 : Int))), (8, (.int .i64 (k8_3 : Int)))]
        obtain ⟨mf3, rfl⟩ : ∃ m, fu3 = m + 1 := ⟨fu3 - 1, by omega⟩
        rw [F_spec_l6Table_L3_s] at hL3
        have hrw2 := hi1_1 k8_3
        refine TC.seq ?_
        refine TC.seq ?_
        refine TC.region ?_
        refine TL.op (yq (y_move (ev_t rfl))) rfl rfl rfl ?_
        refine TL.op (yq (y_move (ev_t rfl))) rfl rfl rfl ?_
        refine TL.op (yq (y_lss (ev_t rfl) (ev_t rfl))) rfl rfl rfl ?_
        refine TL.nil ?_
        refine TN.seq ?_
        refine TC.cond (b := decide ((k8_3 : Int) < (m.length : Int))) (ev_t rfl) (fun h65 => ?_) (fun h65 => ?_)
        · rw [bif_pos h65] at hL3
          have q66 := (of_decide_eq_true h65)
          refine TC.skip ?_
          refine TN.seq ?_
          refine TC.seq ?_
          refine TC.block ?_
          refine TC.seq ?_
          refine TC.region ?_
          refine TL.op (yq (y_fa (fa_55_0 g0_0) (ev_t rfl))) rfl rfl rfl ?_
          refine TL.op (yq (y_ldb 0 (ev_t rfl) one_49 rfl rfl)) rfl rfl rfl ?_
          refine TL.op (yq (y_move (ev_t rfl))) rfl rfl rfl ?_
          have hb67 : k7_2 < m.length := (by first | omega | (simp only [List.length_set, List.length_append, List.length_cons, List.length_nil, List.length_replicate]; omega) | (rw [sortI_length]; simp only [List.length_cons, List.length_nil]; omega))
          refine TL.op (yq (y_idx (k := k7_2) (ev_t rfl) (ev_t rfl) (by first | omega | simp) slT_49 (fun w hw => ((rii_arg hm) w hw).1) hb67)) rfl rfl rfl ?_
          have ha68 := hm.row (i := k7_2) hb67
          refine TL.op (yq (y_ldA (ev_t rfl) one_34 (rii_arg hm) hb67)) rfl rfl rfl ?_
          refine TL.op (yq (y_move (ev_t rfl))) rfl rfl rfl ?_
          have hb69 : k8_3 < (m.getD k7_2 []).length := (by first | omega | (simp only [List.length_set, List.length_append, List.length_cons, List.length_nil, List.length_replicate]; omega) | (rw [sortI_length]; simp only [List.length_cons, List.length_nil]; omega))
          refine TL.op (yq (y_idx (k := k8_3) (ev_t rfl) (ev_t rfl) (by first | omega | simp) slT_34 (ri_arg ha68) hb69)) rfl rfl rfl ?_
          refine TL.op (yq (y_ldi (ev_t rfl) one_3 (ri_arg ha68) hb69)) rfl rfl rfl ?_
          refine TL.op (yq (y_assign (ev_t rfl))) rfl rfl rfl ?_
          refine TL.nil ?_
          refine TN.seq ?_
          refine TC.seq ?_
          refine TC.region ?_
          refine TL.op (yq (y_move (ev_t rfl))) rfl rfl rfl ?_
          refine TL.op (yq (y_fa (fa_55_0 g0_0) (ev_t rfl))) rfl rfl rfl ?_
          refine TL.op (yq (y_ldb 0 (ev_t rfl) one_49 rfl rfl)) rfl rfl rfl ?_
          refine TL.op (yq (y_move (ev_t rfl))) rfl rfl rfl ?_
          have hb70 : k8_3 < m.length := (by first | omega | (simp only [List.length_set, List.length_append, List.length_cons, List.length_nil, List.length_replicate]; omega) | (rw [sortI_length]; simp only [List.length_cons, List.length_nil]; omega))
          refine TL.op (yq (y_idx (k := k8_3) (ev_t rfl) (ev_t rfl) (by first | omega | simp) slT_49 (fun w hw => ((rii_arg hm) w hw).1) hb70)) rfl rfl rfl ?_
          have ha71 := hm.row (i := k8_3) hb70
          refine TL.op (yq (y_ldA (ev_t rfl) one_34 (rii_arg hm) hb70)) rfl rfl rfl ?_
          refine TL.op (yq (y_move (ev_t rfl))) rfl rfl rfl ?_
          have hb72 : k7_2 < (m.getD k8_3 []).length := (by first | omega | (simp only [List.length_set, List.length_append, List.length_cons, List.length_nil, List.length_replicate]; omega) | (rw [sortI_length]; simp only [List.length_cons, List.length_nil]; omega))
          refine TL.op (yq (y_idx (k := k7_2) (ev_t rfl) (ev_t rfl) (by first | omega | simp) slT_34 (ri_arg ha71) hb72)) rfl rfl rfl ?_
          refine TL.op (yq (y_ldi (ev_t rfl) one_3 (ri_arg ha71) hb72)) rfl rfl rfl ?_
          refine TL.op (yq (y_neq (ev_t rfl) (ev_t rfl))) rfl rfl rfl ?_
          refine TL.op (yq (y_move (ev_t rfl))) rfl rfl rfl ?_
          refine TL.opw (w_f rfl rfl rfl) (fun hg => yq (y_move (ev_t rfl))) rfl rfl ?_
          refine TL.opw (w_f rfl rfl rfl) (fun hg => yq (y_move (ev_t rfl))) rfl rfl ?_
          refine TL.opw (w_f rfl rfl rfl) (fun hg => yq (y_eql (ev_g rfl hg) (ev_g rfl hg))) rfl rfl ?_
          refine TL.opw (w_f rfl rfl rfl) (fun hg => yq (y_move (ev_g rfl hg))) rfl rfl ?_
          refine TL.opw (w_gt rfl rfl rfl) (fun hg => yq (y_move (ev_t rfl))) rfl rfl ?_
          refine TL.opw (w_gt rfl rfl rfl) (fun hg => yq (y_neq (ev_g rfl hg) ev_c)) rfl rfl ?_
          refine TL.opw (w_f rfl rfl rfl) (fun hg => yq (y_and (ev_g rfl hg) (fun hq => (ev_g rfl (gand hg hq))))) rfl rfl ?_
          refine TL.op (yq (y_or (ev_t rfl) (fun hq => (ev_g rfl hq)))) rfl rfl rfl ?_
          refine TL.op (yq (y_move (ev_t rfl))) rfl rfl rfl ?_
          refine TL.opw (w_f rfl rfl rfl) (fun hg => yq (y_move (ev_t rfl))) rfl rfl ?_
          refine TL.opw (w_f rfl rfl rfl) (fun hg => yq (y_move (ev_t rfl))) rfl rfl ?_
          refine TL.opw (w_f rfl rfl rfl) (fun hg => yq (y_neq (ev_g rfl hg) (ev_g rfl hg))) rfl rfl ?_
          refine TL.opw (w_f rfl rfl rfl) (fun hg => yq (y_move (ev_g rfl hg))) rfl rfl ?_
          refine TL.opw (w_gt rfl rfl rfl) (fun hg => yq (y_move (ev_t rfl))) rfl rfl ?_
          refine TL.opw (w_gt rfl rfl rfl) (fun hg => y_call (vs := [(.int .i64 ((m.getD k7_2 []).getD k8_3 0)), (.int .i64 1), (.int .i64 99)]) (v := (.bool ((decide (1 ≤ ((m.getD k7_2 []).getD k8_3 0))) && (decide (((m.getD k7_2 []).getD k8_3 0) ≤ 99))))) en_81 ⟨(ev_g rfl hg), ev_c, ev_c, trivial⟩ (fun w hw => spec_l1In_ok w ((m.getD k7_2 []).getD k8_3 0) 1 99)) rfl rfl ?_
          refine TL.opw (w_gt rfl rfl rfl) (fun hg => yq (y_not (ev_g rfl hg))) rfl rfl ?_
          refine TL.opw (w_f rfl rfl rfl) (fun hg => yq (y_and (ev_g rfl hg) (fun hq => (ev_g rfl (gand hg hq))))) rfl rfl ?_
          refine TL.opw (w_f rfl rfl rfl) (fun hg => yq (y_move (ev_g rfl hg))) rfl rfl ?_
          refine TL.opw (w_gt rfl rfl rfl) (fun hg => yq (y_move (ev_t rfl))) rfl rfl ?_
          refine TL.opw (w_gt rfl rfl rfl) (fun hg => yq (y_move (ev_g rfl hg))) rfl rfl ?_
          refine TL.opw (w_gt rfl rfl rfl) (fun hg => yq (y_move (ev_t rfl))) rfl rfl ?_
          refine TL.opw (w_gt rfl rfl rfl) (fun hg => yq (y_eql (ev_g rfl hg) ev_c)) rfl rfl ?_
          refine TL.opw (w_gt rfl rfl rfl) (fun hg => yq (y_and (ev_g rfl hg) (fun hq => (ev_g rfl (gand hg hq))))) rfl rfl ?_
          refine TL.opw (w_gt rfl rfl rfl) (fun hg => yq (y_not (ev_g rfl hg))) rfl rfl ?_
          refine TL.opw (w_f rfl rfl rfl) (fun hg => yq (y_and (ev_g rfl hg) (fun hq => (ev_g rfl (gand hg hq))))) rfl rfl ?_
          refine TL.op (yq (y_or (ev_t rfl) (fun hq => (ev_g rfl hq)))) rfl rfl rfl ?_
          refine TL.nil ?_
          refine TN.seq ?_
          refine TC.cond (b := (((!decide (((m.getD k7_2 []).getD k8_3 0) = ((m.getD k8_3 []).getD k7_2 0))) || ((decide ((k7_2 : Int) = (k8_3 : Int))) && (!decide (((m.getD k7_2 []).getD k8_3 0) = 0)))) || (((!decide ((k7_2 : Int) = (k8_3 : Int))) && (!((decide (1 ≤ ((m.getD k7_2 []).getD k8_3 0))) && (decide (((m.getD k7_2 []).getD k8_3 0) ≤ 99))))) && (!(opn && (decide (((m.getD k7_2 []).getD k8_3 0) = -1))))))) (ev_t rfl) (fun h73 => ?_) (fun h73 => ?_)
          · rw [bif_pos h73] at hL3
            have q74 := ((or_t h73).imp (fun h => ((or_t h).imp (fun h => (of_decide_eq_false (not_t h))) (fun h => (and_imp (and_t h) (fun h => (of_decide_eq_true h)) (fun h => (of_decide_eq_false (not_t h))))))) (fun h => (and_imp (and_t h) (fun h => (and_imp (and_t h) (fun h => (of_decide_eq_false (not_t h))) (fun h => ((and_f (not_t h)).imp (fun h => (of_decide_eq_false h)) (fun h => (of_decide_eq_false h)))))) (fun h => ((and_f (not_t h)).imp (fun h => h) (fun h => (of_decide_eq_false h)))))))
            refine TC.seq ?_
            refine TC.region ?_
            refine TL.op (yq (y_assign ev_c)) rfl rfl rfl ?_
            refine TL.nil ?_
            refine TN.seq ?_
            refine TC.ret ?_
            refine TN.blockR ?_
            refine TN.thenR ?_
            refine TN.thenR ?_
            rw [← hL3, elim_ret] at hL2
            refine TN.blockR ?_
            refine TN.blockR ?_
            refine TN.thenR ?_
            refine TN.thenR ?_
            rw [← hL2, elim_ret] at hF
            refine TN.blockR ?_
            refine TN.thenR ?_
            subst hF
            exact TN.ret1 rfl (ev_t rfl) (fun w' hw => ⟨rfl, Hp.sublist hw (List.nil_sublist _)⟩)
          · rw [bif_neg h73] at hL3
            have q74 := (and_imp (or_f h73) (fun h => (and_imp (or_f h) (fun h => (of_decide_eq_true (not_f h))) (fun h => ((and_f h).imp (fun h => (of_decide_eq_false h)) (fun h => (of_decide_eq_true (not_f h))))))) (fun h => ((and_f h).imp (fun h => ((and_f h).imp (fun h => (of_decide_eq_true (not_f h))) (fun h => (and_imp (and_t (not_f h)) (fun h => (of_decide_eq_true h)) (fun h => (of_decide_eq_true h)))))) (fun h => (and_imp (and_t (not_f h)) (fun h => h) (fun h => (of_decide_eq_true h)))))))
            refine TC.skip ?_
            refine TN.blockN ?_
            refine TN.seq ?_
            refine TC.region ?_
            refine TL.op (yq (y_move (ev_t rfl))) rfl rfl rfl ?_
            refine TL.op (yq (y_add (ev_t rfl) ev_c (by unfold In64; constructor <;> omega))) rfl rfl rfl ?_
            refine TL.op (yq (y_assign (ev_t rfl))) rfl rfl rfl ?_
            refine TL.nil ?_
            exact TN.hand (mf3, (k8_3 + 1)) ⟨(by first | omega | (simp [-List.getD_eq_getElem?_getD] <;> omega)), (by omega), hL3⟩ (Nat.lt_succ_self _) ⟨rfl, rfl, rfl, rfl, rfl, trivial⟩ (fun w hw => hw)
        · rw [bif_neg h65] at hL3
          have q66 := (of_decide_eq_false h65)
          refine TC.exit ?_
          refine TN.thenE ?_
          refine TN.thenE ?_
          rw [← hL3, elim_next] at hL2
          try dsimp only at hL2
          refine TN.blockH ?_
          refine TN.blockN ?_
          refine TN.seq ?_
          refine TC.region ?_
          refine TL.op (yq (y_move (ev_t rfl))) rfl rfl rfl ?_
          refine TL.op (yq (y_add (ev_t rfl) ev_c (by unfold In64; constructor <;> omega))) rfl rfl rfl ?_
          refine TL.op (yq (y_assign (ev_t rfl))) rfl rfl rfl ?_
          refine TL.nil ?_
          exact TN.hand (mf2, (k7_2 + 1)) ⟨(by first | omega | (simp [-List.getD_eq_getElem?_getD] <;> omega)), (by omega), hL2⟩ (Nat.lt_succ_self _) ⟨rfl, rfl, rfl, rfl, trivial⟩ (fun w hw => hw)
      · rw [bif_neg h61] at hL2
        have q62 := (of_decide_eq_false h61)
        refine TC.exit ?_
        refine TN.thenE ?_
        refine TN.thenE ?_
        rw [← hL2, elim_next] at hF
        try dsimp only at hF
        refine TN.blockH ?_
        refine TN.seq ?_
        refine TC.seq ?_
        refine TC.region ?_
        refine TL.op (yq (y_assign ev_c)) rfl rfl rfl ?_
        refine TL.nil ?_
        refine TN.seq ?_
        refine TC.ret ?_
        subst hF
        exact TN.ret1 rfl (ev_t rfl) (fun w' hw => ⟨rfl, Hp.sublist hw (List.nil_sublist _)⟩)

set_option maxRecDepth 4000 in
set_option maxHeartbeats 1000000 in
theorem spec_l6Detour_ok (w : World) (vm : Value) (um : List Value) (m : List (List Int)) (hm : RII w vm um m) (hp0 : Tab m) :
    Calls Try.prog 127 ([(.agg #[vm])] : List Value).toArray w (fun e w' => ∃ i : Value, e = .returned i ∧ Hp w [rowI 3 i (F_spec_l6Detour m)] w') := by
  obtain ⟨rz, hF⟩ : ∃ rz, (F_spec_l6Detour m) = rz := ⟨_, rfl⟩
  rw [hF]
  unfold F_spec_l6Detour at hF
  have hlen_m := argT_len hm
  refine calls_tc Try.func127 rfl rfl rfl ?_
  change TC _ _ _ _ (Hp w []) [(0, (.agg #[vm]))]
  refine TC.seq ?_
  refine TC.region ?_
  refine TL.box (ev_t rfl) rfl (fun g0_0 => ?_)
  refine TL.op (yq (y_assign ev_c)) rfl rfl rfl ?_
  refine TL.nil ?_
  refine TN.seq ?_
  refine TC.seq ?_
  refine TC.region ?_
  refine TL.op (yq (y_fa (fa_55_0 g0_0) (ev_t rfl))) rfl rfl rfl ?_
  refine TL.op (yq (y_ldb 0 (ev_t rfl) one_49 rfl rfl)) rfl rfl rfl ?_
  refine TL.op (yq (y_len (ev_t rfl) Try.underlying49 (fun w hw => ((fun w hw => ((rii_arg hm) w hw).1) w hw).ln))) rfl rfl rfl ?_
  refine TL.op (yq (y_assign (ev_t rfl))) rfl rfl rfl ?_
  refine TL.nil ?_
  refine TN.seq ?_
  refine TC.seq ?_
  refine TC.seq ?_
  refine TC.region ?_
  refine TL.op (yq (y_assign ev_c)) rfl rfl rfl ?_
  refine TL.nil ?_
  refine TN.seq ?_
  refine TC.block ?_
  obtain ⟨c63, hc64⟩ : ∃ c, F_spec_l6Detour_L1 m ((m.length - 0) + 1) 0 = c := ⟨_, rfl⟩
  rw [hc64] at hF
  refine TC.loop (ι := Nat × Nat) (fun (fu1, x1) => [(1, (.pointer (some ⟨g0_0, 0, none⟩))), (3, (.int .i64 (m.length : Int))), (4, (.int .i64 (x1 : Int)))]) (fun (fu1, x1) => Hp w [.blk g0_0 55 [vm]]) (fun (fu1, x1) => (x1 ≤ m.length) ∧ m.length - x1 < fu1 ∧ F_spec_l6Detour_L1 m fu1 x1 = c63) (fun (fu1, x1) => fu1) ((m.length - 0) + 1, 0) ⟨(by first | omega | (simp [-List.getD_eq_getElem?_getD] <;> omega)), (by omega), hc64⟩ ⟨rfl, rfl, rfl, trivial⟩ (fun w hw => hw) ?_
  rintro ⟨fu1, x1⟩ hJ1
  obtain ⟨hi1_0, hmu1, hL1⟩ : (x1 ≤ m.length) ∧ m.length - x1 < fu1 ∧ F_spec_l6Detour_L1 m fu1 x1 = c63 := hJ1
  change TC _ _ _ _ (Hp w [.blk g0_0 55 [vm]]) [(1, (.pointer (some ⟨g0_0, 0, none⟩))), (3, (.int .i64 (m.length : Int))), (4, (.int .i64 (x1 : Int)))]
  obtain ⟨mf1, rfl⟩ : ∃ m, fu1 = m + 1 := ⟨fu1 - 1, by omega⟩
  rw [F_spec_l6Detour_L1_s] at hL1
  have hrw := hp0.rows x1
  refine TC.seq ?_
  refine TC.seq ?_
  refine TC.region ?_
  refine TL.op (yq (y_move (ev_t rfl))) rfl rfl rfl ?_
  refine TL.op (yq (y_move (ev_t rfl))) rfl rfl rfl ?_
  refine TL.op (yq (y_lss (ev_t rfl) (ev_t rfl))) rfl rfl rfl ?_
  refine TL.nil ?_
  refine TN.seq ?_
  refine TC.cond (b := decide ((x1 : Int) < (m.length : Int))) (ev_t rfl) (fun h65 => ?_) (fun h65 => ?_)
  · rw [bif_pos h65] at hL1
    have q66 := (of_decide_eq_true h65)
    refine TC.skip ?_
    refine TN.seq ?_
    refine TC.seq ?_
    refine TC.block ?_
    refine TC.seq ?_
    refine TC.region ?_
    refine TL.op (yq (y_assign ev_c)) rfl rfl rfl ?_
    refine TL.nil ?_
    refine TN.seq ?_
    refine TC.block ?_
    obtain ⟨c67, hc68⟩ : ∃ c, F_spec_l6Detour_L2 m x1 ((m.length - 0) + 1) 0 = c := ⟨_, rfl⟩
    rw [hc68] at hL1
    refine TC.loop (ι := Nat × Nat) (fun (fu2, y2) => [(1, (.pointer (some ⟨g0_0, 0, none⟩))), (3, (.int .i64 (m.length : Int))), (4, (.int .i64 (x1 : Int))), (5, (.int .i64 (y2 : Int)))]) (fun (fu2, y2) => Hp w [.blk g0_0 55 [vm]]) (fun (fu2, y2) => (y2 ≤ m.length) ∧ m.length - y2 < fu2 ∧ F_spec_l6Detour_L2 m x1 fu2 y2 = c67) (fun (fu2, y2) => fu2) ((m.length - 0) + 1, 0) ⟨(by first | omega | (simp [-List.getD_eq_getElem?_getD] <;> omega)), (by omega), hc68⟩ ⟨rfl, rfl, rfl, rfl, trivial⟩ (fun w hw => hw) ?_
    rintro ⟨fu2, y2⟩ hJ2
    obtain ⟨hi2_0, hmu2, hL2⟩ : (y2 ≤ m.length) ∧ m.length - y2 < fu2 ∧ F_spec_l6Detour_L2 m x1 fu2 y2 = c67 := hJ2
    change TC _ _ _ _ (Hp w [.blk g0_0 55 [vm]]) [(1, (.pointer (some ⟨g0_0, 0, none⟩))), (3, (.int .i64 (m.length : Int))), (4, (.int .i64 (x1 : Int))), (5, (.int .i64 (y2 : Int)))]
    obtain ⟨mf2, rfl⟩ : ∃ m, fu2 = m + 1 := ⟨fu2 - 1, by omega⟩
    rw [F_spec_l6Detour_L2_s] at hL2
    have hrw2 := hp0.rows y2
    refine TC.seq ?_
    refine TC.seq ?_
    refine TC.region ?_
    refine TL.op (yq (y_move (ev_t rfl))) rfl rfl rfl ?_
    refine TL.op (yq (y_move (ev_t rfl))) rfl rfl rfl ?_
    refine TL.op (yq (y_lss (ev_t rfl) (ev_t rfl))) rfl rfl rfl ?_
    refine TL.nil ?_
    refine TN.seq ?_
    refine TC.cond (b := decide ((y2 : Int) < (m.length : Int))) (ev_t rfl) (fun h69 => ?_) (fun h69 => ?_)
    · rw [bif_pos h69] at hL2
      have q70 := (of_decide_eq_true h69)
      refine TC.skip ?_
      refine TN.seq ?_
      refine TC.seq ?_
      refine TC.block ?_
      refine TC.seq ?_
      refine TC.region ?_
      refine TL.op (yq (y_assign ev_c)) rfl rfl rfl ?_
      refine TL.nil ?_
      refine TN.seq ?_
      refine TC.block ?_
      obtain ⟨c71, hc72⟩ : ∃ c, F_spec_l6Detour_L3 m x1 y2 ((m.length - 0) + 1) 0 = c := ⟨_, rfl⟩
      rw [hc72] at hL2
      refine TC.loop (ι := Nat × Nat) (fun (fu3, z3) => [(1, (.pointer (some ⟨g0_0, 0, none⟩))), (3, (.int .i64 (m.length : Int))), (4, (.int .i64 (x1 : Int))), (5, (.int .i64 (y2 : Int))), (6, (.int .i64 (z3 : Int)))]) (fun (fu3, z3) => Hp w [.blk g0_0 55 [vm]]) (fun (fu3, z3) => (z3 ≤ m.length) ∧ m.length - z3 < fu3 ∧ F_spec_l6Detour_L3 m x1 y2 fu3 z3 = c71) (fun (fu3, z3) => fu3) ((m.length - 0) + 1, 0) ⟨(by first | omega | (simp [-List.getD_eq_getElem?_getD] <;> omega)), (by omega), hc72⟩ ⟨rfl, rfl, rfl, rfl, rfl, trivial⟩ (fun w hw => hw) ?_
      rintro ⟨fu3, z3⟩ hJ3
      obtain ⟨hi3_0, hmu3, hL3⟩ : (z3 ≤ m.length) ∧ m.length - z3 < fu3 ∧ F_spec_l6Detour_L3 m x1 y2 fu3 z3 = c71 := hJ3
      change TC _ _ _ _ (Hp w [.blk g0_0 55 [vm]]) [(1, (.pointer (some ⟨g0_0, 0, none⟩))), (3, (.int .i64 (m.length : Int))), (4, (.int .i64 (x1 : Int))), (5, (.int .i64 (y2 : Int))), (6, (.int .i64 (z3 : Int)))]
      obtain ⟨mf3, rfl⟩ : ∃ m, fu3 = m + 1 := ⟨fu3 - 1, by omega⟩
      rw [F_spec_l6Detour_L3_s] at hL3
      have he1 := hp0.el x1 y2
      have he2 := hp0.el y2 z3
      refine TC.seq ?_
      refine TC.seq ?_
      refine TC.region ?_
      refine TL.op (yq (y_move (ev_t rfl))) rfl rfl rfl ?_
      refine TL.op (yq (y_move (ev_t rfl))) rfl rfl rfl ?_
      refine TL.op (yq (y_lss (ev_t rfl) (ev_t rfl))) rfl rfl rfl ?_
      refine TL.nil ?_
      refine TN.seq ?_
      refine TC.cond (b := decide ((z3 : Int) < (m.length : Int))) (ev_t rfl) (fun h73 => ?_) (fun h73 => ?_)
      · rw [bif_pos h73] at hL3
        have q74 := (of_decide_eq_true h73)
        refine TC.skip ?_
        refine TN.seq ?_
        refine TC.seq ?_
        refine TC.block ?_
        refine TC.seq ?_
        refine TC.regionQ (by kernel_rfl) (by kernel_rfl) dr_hp ?_
        refine TQ.op (yq (y_fa (fa_55_0 g0_0) (ev_t rfl))) rfl rfl rfl ?_
        refine TQ.op (yq (y_ldb 0 (ev_t rfl) one_49 rfl rfl)) rfl rfl rfl ?_
        refine TQ.op (yq (y_move (ev_t rfl))) rfl rfl rfl ?_
        have hb75 : x1 < m.length := (by first | omega | (simp only [List.length_set, List.length_append, List.length_cons, List.length_nil, List.length_replicate]; omega) | (rw [sortI_length]; simp only [List.length_cons, List.length_nil]; omega))
        refine TQ.op (yq (y_idx (k := x1) (ev_t rfl) (ev_t rfl) (by first | omega | simp) slT_49 (fun w hw => ((rii_arg hm) w hw).1) hb75)) rfl rfl rfl ?_
        have ha76 := hm.row (i := x1) hb75
        refine TQ.op (yq (y_ldA (ev_t rfl) one_34 (rii_arg hm) hb75)) rfl rfl rfl ?_
        refine TQ.op (yq (y_move (ev_t rfl))) rfl rfl rfl ?_
        have hb77 : z3 < (m.getD x1 []).length := (by first | omega | (simp only [List.length_set, List.length_append, List.length_cons, List.length_nil, List.length_replicate]; omega) | (rw [sortI_length]; simp only [List.length_cons, List.length_nil]; omega))
        refine TQ.op (yq (y_idx (k := z3) (ev_t rfl) (ev_t rfl) (by first | omega | simp) slT_34 (ri_arg ha76) hb77)) rfl rfl rfl ?_
        refine TQ.op (yq (y_ldi (ev_t rfl) one_3 (ri_arg ha76) hb77)) rfl rfl rfl ?_
        refine TQ.op (yq (y_fa (fa_55_0 g0_0) (ev_t rfl))) rfl rfl rfl ?_
        refine TQ.op (yq (y_ldb 0 (ev_t rfl) one_49 rfl rfl)) rfl rfl rfl ?_
        refine TQ.op (yq (y_move (ev_t rfl))) rfl rfl rfl ?_
        have hb78 : x1 < m.length := (by first | omega | (simp only [List.length_set, List.length_append, List.length_cons, List.length_nil, List.length_replicate]; omega) | (rw [sortI_length]; simp only [List.length_cons, List.length_nil]; omega))
        refine TQ.op (yq (y_idx (k := x1) (ev_t rfl) (ev_t rfl) (by first | omega | simp) slT_49 (fun w hw => ((rii_arg hm) w hw).1) hb78)) rfl rfl rfl ?_
        have ha79 := hm.row (i := x1) hb78
        refine TQ.op (yq (y_ldA (ev_t rfl) one_34 (rii_arg hm) hb78)) rfl rfl rfl ?_
        refine TQ.op (yq (y_move (ev_t rfl))) rfl rfl rfl ?_
        have hb80 : y2 < (m.getD x1 []).length := (by first | omega | (simp only [List.length_set, List.length_append, List.length_cons, List.length_nil, List.length_replicate]; omega) | (rw [sortI_length]; simp only [List.length_cons, List.length_nil]; omega))
        refine TQ.op (yq (y_idx (k := y2) (ev_t rfl) (ev_t rfl) (by first | omega | simp) slT_34 (ri_arg ha79) hb80)) rfl rfl rfl ?_
        refine TQ.op (yq (y_ldi (ev_t rfl) one_3 (ri_arg ha79) hb80)) rfl rfl rfl ?_
        refine TQ.op (yq (y_fa (fa_55_0 g0_0) (ev_t rfl))) rfl rfl rfl ?_
        refine TQ.op (yq (y_ldb 0 (ev_t rfl) one_49 rfl rfl)) rfl rfl rfl ?_
        refine TQ.op (yq (y_move (ev_t rfl))) rfl rfl rfl ?_
        have hb81 : y2 < m.length := (by first | omega | (simp only [List.length_set, List.length_append, List.length_cons, List.length_nil, List.length_replicate]; omega) | (rw [sortI_length]; simp only [List.length_cons, List.length_nil]; omega))
        refine TQ.op (yq (y_idx (k := y2) (ev_t rfl) (ev_t rfl) (by first | omega | simp) slT_49 (fun w hw => ((rii_arg hm) w hw).1) hb81)) rfl rfl rfl ?_
        have ha82 := hm.row (i := y2) hb81
        refine TQ.op (yq (y_ldA (ev_t rfl) one_34 (rii_arg hm) hb81)) rfl rfl rfl ?_
        refine TQ.op (yq (y_move (ev_t rfl))) rfl rfl rfl ?_
        have hb83 : z3 < (m.getD y2 []).length := (by first | omega | (simp only [List.length_set, List.length_append, List.length_cons, List.length_nil, List.length_replicate]; omega) | (rw [sortI_length]; simp only [List.length_cons, List.length_nil]; omega))
        refine TQ.op (yq (y_idx (k := z3) (ev_t rfl) (ev_t rfl) (by first | omega | simp) slT_34 (ri_arg ha82) hb83)) rfl rfl rfl ?_
        refine TQ.op (yq (y_ldi (ev_t rfl) one_3 (ri_arg ha82) hb83)) rfl rfl rfl ?_
        refine TQ.op (yq (y_add (ev_t rfl) (ev_t rfl) (by unfold In64; constructor <;> omega))) rfl rfl rfl ?_
        refine TQ.op (yq (y_gtr (ev_t rfl) (ev_t rfl))) rfl rfl rfl ?_
        refine TQ.nil ?_
        refine TN.seq ?_
        refine TC.cond (b := decide (((m.getD x1 []).getD y2 0) + ((m.getD y2 []).getD z3 0) < ((m.getD x1 []).getD z3 0))) (ev_t rfl) (fun h84 => ?_) (fun h84 => ?_)
        · rw [bif_pos h84] at hL3
          have q85 := (of_decide_eq_true h84)
          refine TC.seq ?_
          refine TC.region ?_
          refine TL.op (yq (y_move (ev_t rfl))) rfl rfl rfl ?_
          refine TL.op (yq (y_move (ev_t rfl))) rfl rfl rfl ?_
          refine TL.op (yq (y_move (ev_t rfl))) rfl rfl rfl ?_
          refine TL.buildI (zs := [.tmp 51, .tmp 52, .tmp 53]) (qs := [(x1 : Int), (y2 : Int), (z3 : Int)]) slT_34 rfl ⟨(ev_t rfl), (ev_t rfl), (ev_t rfl), trivial⟩ rfl (by decide) rfl (fun v12_3 => ?_)
          refine TL.op (yq (y_assign (ev_t rfl))) rfl rfl rfl ?_
          refine TL.nil ?_
          refine TN.seq ?_
          refine TC.ret ?_
          refine TN.blockR ?_
          refine TN.thenR ?_
          refine TN.thenR ?_
          rw [← hL3, elim_ret] at hL2
          refine TN.blockR ?_
          refine TN.blockR ?_
          refine TN.thenR ?_
          refine TN.thenR ?_
          rw [← hL2, elim_ret] at hL1
          refine TN.blockR ?_
          refine TN.blockR ?_
          refine TN.thenR ?_
          refine TN.thenR ?_
          rw [← hL1, elim_ret] at hF
          refine TN.blockR ?_
          refine TN.thenR ?_
          subst hF
          exact TN.ret1 rfl (ev_t rfl) (fun w' hw => ⟨v12_3, rfl, Hp.sublist hw (.cons_cons _ (.cons _ .slnil))⟩)
        · rw [bif_neg h84] at hL3
          have q85 := (of_decide_eq_false h84)
          refine TC.skip ?_
          refine TN.blockN ?_
          refine TN.seq ?_
          refine TC.region ?_
          refine TL.op (yq (y_move (ev_t rfl))) rfl rfl rfl ?_
          refine TL.op (yq (y_add (ev_t rfl) ev_c (by unfold In64; constructor <;> omega))) rfl rfl rfl ?_
          refine TL.op (yq (y_assign (ev_t rfl))) rfl rfl rfl ?_
          refine TL.nil ?_
          exact TN.hand (mf3, (z3 + 1)) ⟨(by first | omega | (simp [-List.getD_eq_getElem?_getD] <;> omega)), (by omega), hL3⟩ (Nat.lt_succ_self _) ⟨rfl, rfl, rfl, rfl, rfl, trivial⟩ (fun w hw => hw)
      · rw [bif_neg h73] at hL3
        have q74 := (of_decide_eq_false h73)
        refine TC.exit ?_
        refine TN.thenE ?_
        refine TN.thenE ?_
        rw [← hL3, elim_next] at hL2
        try dsimp only at hL2
        refine TN.blockH ?_
        refine TN.blockN ?_
        refine TN.seq ?_
        refine TC.region ?_
        refine TL.op (yq (y_move (ev_t rfl))) rfl rfl rfl ?_
        refine TL.op (yq (y_add (ev_t rfl) ev_c (by unfold In64; constructor <;> omega))) rfl rfl rfl ?_
        refine TL.op (yq (y_assign (ev_t rfl))) rfl rfl rfl ?_
        refine TL.nil ?_
        exact TN.hand (mf2, (y2 + 1)) ⟨(by first | omega | (simp [-List.getD_eq_getElem?_getD] <;> omega)), (by omega), hL2⟩ (Nat.lt_succ_self _) ⟨rfl, rfl, rfl, rfl, trivial⟩ (fun w hw => hw)
    · rw [bif_neg h69] at hL2
      have q70 := (of_decide_eq_false h69)
      refine TC.exit ?_
      refine TN.thenE ?_
      refine TN.thenE ?_
      rw [← hL2, elim_next] at hL1
      try dsimp only at hL1
      refine TN.blockH ?_
      refine TN.blockN ?_
      refine TN.seq ?_
      refine TC.region ?_
      refine TL.op (yq (y_move (ev_t rfl))) rfl rfl rfl ?_
      refine TL.op (yq (y_add (ev_t rfl) ev_c (by unfold In64; constructor <;> omega))) rfl rfl rfl ?_
      refine TL.op (yq (y_assign (ev_t rfl))) rfl rfl rfl ?_
      refine TL.nil ?_
      exact TN.hand (mf1, (x1 + 1)) ⟨(by first | omega | (simp [-List.getD_eq_getElem?_getD] <;> omega)), (by omega), hL1⟩ (Nat.lt_succ_self _) ⟨rfl, rfl, rfl, trivial⟩ (fun w hw => hw)
  · rw [bif_neg h65] at hL1
    have q66 := (of_decide_eq_false h65)
    refine TC.exit ?_
    refine TN.thenE ?_
    refine TN.thenE ?_
    rw [← hL1, elim_next] at hF
    try dsimp only at hF
    refine TN.blockH ?_
    refine TN.seq ?_
    refine TC.seq ?_
    refine TC.region ?_
    refine TL.buildI (zs := []) (qs := []) slT_34 rfl trivial rfl (by decide) rfl (fun v13_0 => ?_)
    refine TL.op (yq (y_assign (ev_t rfl))) rfl rfl rfl ?_
    refine TL.nil ?_
    refine TN.seq ?_
    refine TC.ret ?_
    subst hF
    exact TN.ret1 rfl (ev_t rfl) (fun w' hw => ⟨v13_0, rfl, Hp.sublist hw (.cons_cons _ (.cons _ .slnil))⟩)

set_option maxRecDepth 4000 in
set_option maxHeartbeats 1000000 in
theorem spec_l6Good_ok (w : World) (vm : Value) (um : List Value) (m : List (List Int)) (hm : RII w vm um m)  :
    Calls Try.prog 88 ([(.agg #[vm])] : List Value).toArray w (Ret (.bool (F_spec_l6Good m)) (Hp w [])) := by
  obtain ⟨rz, hF⟩ : ∃ rz, (F_spec_l6Good m) = rz := ⟨_, rfl⟩
  rw [hF]
  unfold F_spec_l6Good at hF
  have hlen_m := argT_len hm
  refine calls_tc Try.func88 rfl rfl rfl ?_
  change TC _ _ _ _ (Hp w []) [(0, (.agg #[vm]))]
  refine TC.seq ?_
  refine TC.region ?_
  refine TL.box (ev_t rfl) rfl (fun g0_0 => ?_)
  refine TL.op (yq (y_assign ev_c)) rfl rfl rfl ?_
  refine TL.nil ?_
  refine TN.seq ?_
  refine TC.seq ?_
  refine TC.region ?_
  refine TL.op (yq (y_ldagg (cs := [vm]) 0 (ev_t rfl) agg_55 rfl)) rfl rfl rfl ?_
  refine TL.op (y_call (vs := [(.agg #[vm]), (.bool false)]) (v := (.bool (F_spec_l6Table m false))) en_126 ⟨(ev_t rfl), ev_c, trivial⟩ (fun w hw => spec_l6Table_ok w vm um m ((rii_arg hm) w hw) false)) rfl rfl rfl ?_
  refine TL.op (yq (y_move (ev_t rfl))) rfl rfl rfl ?_
  refine TL.split 5 (b := (F_spec_l6Table m false)) rfl (fun h3 => ?_) (fun h3 => ?_)
  · rw [bif_pos h3] at hF
    have q4 := (l6Table_t h3)
    refine TL.opw (w_t rfl rfl rfl) (fun _ => yq (y_ldagg (cs := [vm]) 0 (ev_t rfl) agg_55 rfl)) rfl rfl ?_
    refine TL.ung (w_t rfl rfl rfl) ?_
    refine TL.callr (ι := Value) (vs := [(.agg #[vm])]) (fun i => i) (fun i => [rowI 3 i (F_spec_l6Detour m)]) en_127 ⟨(ev_t rfl), trivial⟩ rfl (fun w hw => spec_l6Detour_ok w vm um m ((rii_arg hm) w hw) (by first | assumption | omega | grind)) (fun r1_4 => ?_)
    refine TL.opw (w_t rfl rfl rfl) (fun _ => yq (y_len (ev_t rfl) Try.underlying34 (fun w hw => ((ri_row 0 rfl) w hw).ln))) rfl rfl ?_
    refine TL.opw (w_t rfl rfl rfl) (fun _ => yq (y_eql (ev_t rfl) ev_c)) rfl rfl ?_
    refine TL.op (yq (y_pickT (ev_t rfl) (ev_t rfl))) rfl rfl rfl ?_
    refine TL.op (yq (y_assign (ev_t rfl))) rfl rfl rfl ?_
    refine TL.nil ?_
    refine TN.seq ?_
    refine TC.ret ?_
    subst hF
    exact TN.ret1 rfl (ev_t rfl) (fun w' hw => ⟨rfl, Hp.sublist hw (List.nil_sublist _)⟩)
  · rw [bif_neg h3] at hF
    have q4 := h3
    refine TL.opw (v := undef) (w_t rfl rfl rfl) (fun hg => by cases hg) rfl rfl ?_
    refine TL.opw (v := undef) (w_t rfl rfl rfl) (fun hg => by cases hg) rfl rfl ?_
    refine TL.opw (v := undef) (w_t rfl rfl rfl) (fun hg => by cases hg) rfl rfl ?_
    refine TL.opw (v := undef) (w_t rfl rfl rfl) (fun hg => by cases hg) rfl rfl ?_
    refine TL.op (yq (y_pickF (ev_t rfl) ev_c)) rfl rfl rfl ?_
    refine TL.op (yq (y_assign (ev_t rfl))) rfl rfl rfl ?_
    refine TL.nil ?_
    refine TN.seq ?_
    refine TC.ret ?_
    subst hF
    exact TN.ret1 rfl (ev_t rfl) (fun w' hw => ⟨rfl, Hp.sublist hw (List.nil_sublist _)⟩)

set_option maxRecDepth 4000 in
set_option maxHeartbeats 1000000 in
theorem impl_rising_ok (w : World) (vl : Value) (l : List Int) (hl : RI w vl l) (hp0 : l.length ≤ 100000) :
    Calls Try.prog 133 ([vl] : List Value).toArray w (fun e w' => ∃ i : Value, e = .returned i ∧ Hp w [rowI 3 i (F_impl_rising l)] w') := by
  obtain ⟨rz, hF⟩ : ∃ rz, (F_impl_rising l) = rz := ⟨_, rfl⟩
  rw [hF]
  unfold F_impl_rising at hF
  have hlen_l := arg_len hl
  refine calls_tc Try.func133 rfl rfl rfl ?_
  change TC _ _ _ _ (Hp w []) [(0, vl)]
  refine TC.seq ?_
  refine TC.region ?_
  refine TL.op (yq (y_assign ev_c)) rfl rfl rfl ?_
  refine TL.nil ?_
  refine TN.seq ?_
  refine TC.seq ?_
  refine TC.region ?_
  refine TL.op (yq (y_move (ev_t rfl))) rfl rfl rfl ?_
  refine TL.callr (ι := Value) (vs := [vl]) (fun i => i) (fun i => [rowI 3 i l]) en_150 ⟨(ev_t rfl), trivial⟩ rfl (fun w hw => slices_Clone_Sint_int_ok w vl l ((ri_arg hl) w hw) (by first | assumption | omega | grind)) (fun r1_1 => ?_)
  refine TL.op (yq (y_assign (ev_t rfl))) rfl rfl rfl ?_
  refine TL.nil ?_
  refine TN.seq ?_
  refine TC.seq ?_
  refine TC.region ?_
  refine TL.op (yq (y_move (ev_t rfl))) rfl rfl rfl ?_
  refine TL.callm (ι := Unit) 0 (vs := [r1_1]) (fun _ => (.tuple #[])) (fun _ => rowI 3 r1_1 (sortI l)) en_151 ⟨(ev_t rfl), trivial⟩ rfl rfl (fun w1 fr1 hw => slices_Sort_ok w w1 _ r1_1 l hw (by first | assumption | omega | grind)) (fun _ => ?_)
  refine TL.nil ?_
  refine TN.seq ?_
  refine TC.seq ?_
  refine TC.region ?_
  refine TL.op (yq (y_move (ev_t rfl))) rfl rfl rfl ?_
  refine TL.callmR (ι := Value) 0 (vs := [r1_1]) (fun i => i) (fun i => rowI 3 i (Lib.compact (sortI l))) en_162 ⟨(ev_t rfl), trivial⟩ rfl rfl (fun w1 _ hw => slices_Compact_ok w w1 _ r1_1 (sortI l) hw) (fun r3_1 => ?_)
  refine TL.op (yq (y_assign (ev_t rfl))) rfl rfl rfl ?_
  refine TL.nil ?_
  refine TN.seq ?_
  refine TC.ret ?_
  subst hF
  exact TN.ret1 rfl (ev_t rfl) (fun w' hw => ⟨r3_1, rfl, hw⟩)

set_option maxRecDepth 4000 in
set_option maxHeartbeats 1000000 in
theorem impl_Metric_spanningTree_1_ok (w : World) (a : Int × Int) (b : Int × Int) (gm : Nat) (vm : Value) (um : List Value) (m : List (List Int)) (hrm : RII w vm um m) (hm : AggAt w gm 55 vm) (hp0 : Dm (m.length : Int) a) (hp1 : Dm (m.length : Int) b) (hp2 : Tab m) :
    Calls Try.prog 132 ([(.agg #[(.int .i64 a.1), (.int .i64 a.2)]), (.agg #[(.int .i64 b.1), (.int .i64 b.2)]), (.pointer (some ⟨gm, 0, none⟩))] : List Value).toArray w (Ret (.int .i64 (F_impl_Metric_spanningTree_1 a b m)) (Hp w [])) := by
  obtain ⟨rz, hF⟩ : ∃ rz, (F_impl_Metric_spanningTree_1 a b m) = rz := ⟨_, rfl⟩
  rw [hF]
  unfold F_impl_Metric_spanningTree_1 at hF
  have ha := hp0.p
  have hb := hp1.p
  have hra := hp2.rows a.1.toNat (by omega)
  have hrb := hp2.rows b.1.toNat (by omega)
  have hea := hp2.el a.1.toNat a.2.toNat
  have heb := hp2.el b.1.toNat b.2.toNat
  refine calls_tc Try.func132 rfl rfl rfl ?_
  change TC _ _ _ _ (Hp w []) [(0, (.agg #[(.int .i64 a.1), (.int .i64 a.2)])), (1, (.agg #[(.int .i64 b.1), (.int .i64 b.2)])), (2, (.pointer (some ⟨gm, 0, none⟩)))]
  refine TC.seq ?_
  refine TC.region ?_
  refine TL.box (ev_t rfl) rfl (fun g0_0 => ?_)
  refine TL.box (ev_t rfl) rfl (fun g0_1 => ?_)
  refine TL.op (yq (y_assign ev_c)) rfl rfl rfl ?_
  refine TL.nil ?_
  refine TN.seq ?_
  refine TC.seq ?_
  refine TC.regionQ (by kernel_rfl) (by kernel_rfl) dr_hp ?_
  refine TQ.op (yq (y_fa (fa_55_0 gm) (ev_t rfl))) rfl rfl rfl ?_
  refine TQ.op (yq (y_ldc (ev_t rfl) one_49 (hm).cell)) rfl rfl rfl ?_
  refine TQ.op (yq (y_ixb (c := 0) (ev_t rfl) ev_c rfl arT_85 (by decide))) rfl rfl rfl ?_
  refine TQ.op (yq (y_ldb 1 (ev_t rfl) one_3 rfl rfl)) rfl rfl rfl ?_
  have hb7 : (a.1).toNat < m.length := (by first | omega | (simp only [List.length_set, List.length_append, List.length_cons, List.length_nil, List.length_replicate]; omega) | (rw [sortI_length]; simp only [List.length_cons, List.length_nil]; omega))
  refine TQ.op (yq (y_idx (k := (a.1).toNat) (ev_t rfl) (ev_t rfl) (by first | omega | simp) slT_49 (fun w hw => ((rii_arg hrm) w hw).1) hb7)) rfl rfl rfl ?_
  have ha8 := hrm.row (i := (a.1).toNat) hb7
  refine TQ.op (yq (y_ldA (ev_t rfl) one_34 (rii_arg hrm) hb7)) rfl rfl rfl ?_
  refine TQ.op (yq (y_ixb (c := 1) (ev_t rfl) ev_c rfl arT_85 (by decide))) rfl rfl rfl ?_
  refine TQ.op (yq (y_ldb 1 (ev_t rfl) one_3 rfl rfl)) rfl rfl rfl ?_
  have hb9 : (a.2).toNat < (m.getD ((a.1).toNat) []).length := (by first | omega | (simp only [List.length_set, List.length_append, List.length_cons, List.length_nil, List.length_replicate]; omega) | (rw [sortI_length]; simp only [List.length_cons, List.length_nil]; omega))
  refine TQ.op (yq (y_idx (k := (a.2).toNat) (ev_t rfl) (ev_t rfl) (by first | omega | simp) slT_34 (ri_arg ha8) hb9)) rfl rfl rfl ?_
  refine TQ.op (yq (y_ldi (ev_t rfl) one_3 (ri_arg ha8) hb9)) rfl rfl rfl ?_
  refine TQ.op (yq (y_fa (fa_55_0 gm) (ev_t rfl))) rfl rfl rfl ?_
  refine TQ.op (yq (y_ldc (ev_t rfl) one_49 (hm).cell)) rfl rfl rfl ?_
  refine TQ.op (yq (y_ixb (c := 0) (ev_t rfl) ev_c rfl arT_85 (by decide))) rfl rfl rfl ?_
  refine TQ.op (yq (y_ldb 0 (ev_t rfl) one_3 rfl rfl)) rfl rfl rfl ?_
  have hb10 : (b.1).toNat < m.length := (by first | omega | (simp only [List.length_set, List.length_append, List.length_cons, List.length_nil, List.length_replicate]; omega) | (rw [sortI_length]; simp only [List.length_cons, List.length_nil]; omega))
  refine TQ.op (yq (y_idx (k := (b.1).toNat) (ev_t rfl) (ev_t rfl) (by first | omega | simp) slT_49 (fun w hw => ((rii_arg hrm) w hw).1) hb10)) rfl rfl rfl ?_
  have ha11 := hrm.row (i := (b.1).toNat) hb10
  refine TQ.op (yq (y_ldA (ev_t rfl) one_34 (rii_arg hrm) hb10)) rfl rfl rfl ?_
  refine TQ.op (yq (y_ixb (c := 1) (ev_t rfl) ev_c rfl arT_85 (by decide))) rfl rfl rfl ?_
  refine TQ.op (yq (y_ldb 0 (ev_t rfl) one_3 rfl rfl)) rfl rfl rfl ?_
  have hb12 : (b.2).toNat < (m.getD ((b.1).toNat) []).length := (by first | omega | (simp only [List.length_set, List.length_append, List.length_cons, List.length_nil, List.length_replicate]; omega) | (rw [sortI_length]; simp only [List.length_cons, List.length_nil]; omega))
  refine TQ.op (yq (y_idx (k := (b.2).toNat) (ev_t rfl) (ev_t rfl) (by first | omega | simp) slT_34 (ri_arg ha11) hb12)) rfl rfl rfl ?_
  refine TQ.op (yq (y_ldi (ev_t rfl) one_3 (ri_arg ha11) hb12)) rfl rfl rfl ?_
  refine TQ.op (yq (y_sub (ev_t rfl) (ev_t rfl) (by unfold In64; constructor <;> omega))) rfl rfl rfl ?_
  refine TQ.op (yq (y_assign (ev_t rfl))) rfl rfl rfl ?_
  refine TQ.nil ?_
  refine TN.seq ?_
  refine TC.ret ?_
  subst hF
  exact TN.ret1 rfl (ev_t rfl) (fun w' hw => ⟨rfl, Hp.sublist hw (List.nil_sublist _)⟩)

end Go.Proofs.Ytcmhgkcifejgcaa
namespace Go.Proofs.Ytcmhgkcifejgcaa
set_option linter.unusedVariables false
set_option linter.unusedSimpArgs false
open Go Go.RowKit
set_option linter.unusedVariables false

set_option maxRecDepth 4000 in
set_option maxHeartbeats 1000000 in
theorem impl_sideOf_ok (w : World) (vedges : Value) (edges : List (Int × Int)) (hedges : RP w vedges edges) (x : Int) (hp0 : edges.length ≤ 100000) (hp1 : DmA 6 edges) (hp2 : 0 ≤ x ∧ x < 6) :
    Calls Try.prog 95 ([vedges, (.int .i64 x)] : List Value).toArray w (fun e w' => ∃ i : Value, e = .returned i ∧ Hp w [rowI 3 i (F_impl_sideOf edges x)] w') := by
  obtain ⟨rz, hF⟩ : ∃ rz, (F_impl_sideOf edges x) = rz := ⟨_, rfl⟩
  rw [hF]
  unfold F_impl_sideOf at hF
  have hlen_edges := argP_len hedges
  refine calls_tc Try.func95 rfl rfl rfl ?_
  change TC _ _ _ _ (Hp w []) [(0, vedges), (1, (.int .i64 x))]
  refine TC.seq ?_
  refine TC.region ?_
  refine TL.op (yq (y_assign ev_c)) rfl rfl rfl ?_
  refine TL.nil ?_
  refine TN.seq ?_
  refine TC.seq ?_
  refine TC.region ?_
  refine TL.op (yq (y_move (ev_t rfl))) rfl rfl rfl ?_
  refine TL.buildI (zs := [.tmp 10]) (qs := [x]) slT_34 rfl ⟨(ev_t rfl), trivial⟩ rfl (by decide) rfl (fun v1_1 => ?_)
  refine TL.op (yq (y_assign (ev_t rfl))) rfl rfl rfl ?_
  refine TL.nil ?_
  refine TN.seq ?_
  refine TC.seq ?_
  refine TC.seq ?_
  refine TC.region ?_
  refine TL.op (yq (y_assign ev_c)) rfl rfl rfl ?_
  refine TL.nil ?_
  refine TN.seq ?_
  refine TC.block ?_
  obtain ⟨c34, hc35⟩ : ∃ c, F_impl_sideOf_L1 edges ((6 - 0) + 1) (([x]), 0) = c := ⟨_, rfl⟩
  rw [hc35] at hF
  refine TC.loop (ι := Nat × List Int × Nat × Value) (fun (fu1, out1, i1, vout1) => [(0, vedges), (5, vout1), (6, (.int .i64 (i1 : Int)))]) (fun (fu1, out1, i1, vout1) => Hp w [rowI 3 vout1 out1]) (fun (fu1, out1, i1, vout1) => (i1 ≤ out1.length) ∧ (Dn out1) ∧ 6 - i1 < fu1 ∧ F_impl_sideOf_L1 edges fu1 (out1, i1) = c34) (fun (fu1, out1, i1, vout1) => fu1) ((6 - 0) + 1, [x], 0, v1_1) ⟨(by first | omega | (simp [-List.getD_eq_getElem?_getD] <;> omega)), (Dn.one hp2), (by omega), hc35⟩ ⟨rfl, rfl, rfl, trivial⟩ (fun w hw => hw) ?_
  rintro ⟨fu1, out1, i1, vout1⟩ hJ1
  obtain ⟨hi1_0, hi1_1, hmu1, hL1⟩ : (i1 ≤ out1.length) ∧ (Dn out1) ∧ 6 - i1 < fu1 ∧ F_impl_sideOf_L1 edges fu1 (out1, i1) = c34 := hJ1
  change TC _ _ _ _ (Hp w [rowI 3 vout1 out1]) [(0, vedges), (5, vout1), (6, (.int .i64 (i1 : Int)))]
  obtain ⟨mf1, rfl⟩ : ∃ m, fu1 = m + 1 := ⟨fu1 - 1, by omega⟩
  rw [F_impl_sideOf_L1_s] at hL1
  have hdl := hi1_1.len
  refine TC.seq ?_
  refine TC.seq ?_
  refine TC.region ?_
  refine TL.op (yq (y_move (ev_t rfl))) rfl rfl rfl ?_
  refine TL.op (yq (y_move (ev_t rfl))) rfl rfl rfl ?_
  refine TL.op (yq (y_len (ev_t rfl) Try.underlying34 (fun w hw => ((ri_row 0 rfl) w hw).ln))) rfl rfl rfl ?_
  refine TL.op (yq (y_lss (ev_t rfl) (ev_t rfl))) rfl rfl rfl ?_
  refine TL.nil ?_
  refine TN.seq ?_
  refine TC.cond (b := decide ((i1 : Int) < (out1.length : Int))) (ev_t rfl) (fun h36 => ?_) (fun h36 => ?_)
  · rw [bif_pos h36] at hL1
    have q37 := (of_decide_eq_true h36)
    refine TC.skip ?_
    refine TN.seq ?_
    refine TC.seq ?_
    refine TC.block ?_
    refine TC.seq ?_
    refine TC.region ?_
    refine TL.op (yq (y_move (ev_t rfl))) rfl rfl rfl ?_
    refine TL.op (yq (y_len (ev_t rfl) Try.underlying37 (fun w hw => ((rp_arg hedges) w hw).ln))) rfl rfl rfl ?_
    refine TL.op (yq (y_move ev_c)) rfl rfl rfl ?_
    refine TL.nil ?_
    refine TN.seq ?_
    refine TC.block ?_
    obtain ⟨c38, hc39⟩ : ∃ c, F_impl_sideOf_L2 edges i1 ((edges.length - 0) + 1) (out1, 0) = c := ⟨_, rfl⟩
    rw [hc39] at hL1
    refine TC.loop (ι := Nat × List Int × Nat × Value) (fun (fu2, out2, k20_2, vout2) => [(0, vedges), (5, vout2), (6, (.int .i64 (i1 : Int))), (18, vedges), (19, (.int .i64 (edges.length : Int))), (20, (.int .i64 (k20_2 : Int)))]) (fun (fu2, out2, k20_2, vout2) => Hp w [rowI 3 vout2 out2]) (fun (fu2, out2, k20_2, vout2) => (k20_2 ≤ edges.length) ∧ (out1.length ≤ out2.length) ∧ (Dn out2) ∧ edges.length - k20_2 < fu2 ∧ F_impl_sideOf_L2 edges i1 fu2 (out2, k20_2) = c38) (fun (fu2, out2, k20_2, vout2) => fu2) ((edges.length - 0) + 1, out1, 0, vout1) ⟨(by first | omega | (simp [-List.getD_eq_getElem?_getD] <;> omega)), (by first | omega | (simp [-List.getD_eq_getElem?_getD] <;> omega)), hi1_1, (by omega), hc39⟩ ⟨rfl, rfl, rfl, rfl, rfl, rfl, trivial⟩ (fun w hw => hw) ?_
    rintro ⟨fu2, out2, k20_2, vout2⟩ hJ2
    obtain ⟨hi2_0, hi2_1, hi2_2, hmu2, hL2⟩ : (k20_2 ≤ edges.length) ∧ (out1.length ≤ out2.length) ∧ (Dn out2) ∧ edges.length - k20_2 < fu2 ∧ F_impl_sideOf_L2 edges i1 fu2 (out2, k20_2) = c38 := hJ2
    change TC _ _ _ _ (Hp w [rowI 3 vout2 out2]) [(0, vedges), (5, vout2), (6, (.int .i64 (i1 : Int))), (18, vedges), (19, (.int .i64 (edges.length : Int))), (20, (.int .i64 (k20_2 : Int)))]
    obtain ⟨mf2, rfl⟩ : ∃ m, fu2 = m + 1 := ⟨fu2 - 1, by omega⟩
    rw [F_impl_sideOf_L2_s] at hL2
    refine TC.seq ?_
    refine TC.region ?_
    refine TL.op (yq (y_lss (ev_t rfl) (ev_t rfl))) rfl rfl rfl ?_
    refine TL.nil ?_
    refine TN.seq ?_
    refine TC.seq ?_
    refine TC.cond (b := decide ((k20_2 : Int) < (edges.length : Int))) (ev_t rfl) (fun h40 => ?_) (fun h40 => ?_)
    · rw [bif_pos h40] at hL2
      have q41 := (of_decide_eq_true h40)
      refine TC.skip ?_
      refine TN.seq ?_
      refine TC.seq ?_
      refine TC.block ?_
      refine TC.seq ?_
      refine TC.region ?_
      have hb42 : k20_2 < edges.length := (by first | omega | (simp only [List.length_set, List.length_append, List.length_cons, List.length_nil, List.length_replicate]; omega) | (rw [sortI_length]; simp only [List.length_cons, List.length_nil]; omega))
      refine TL.op (yq (y_idx (k := k20_2) (ev_t rfl) (ev_t rfl) (by first | omega | simp) slT_37 (rp_arg hedges) hb42)) rfl rfl rfl ?_
      refine TL.op (yq (y_ldpr (ev_t rfl) arT_85 (rp_arg hedges) hb42)) rfl rfl rfl ?_
      refine TL.alloc (u := (.agg #[(.int .i64 0), (.int .i64 0)])) (by kernel_rfl) rfl (fun g7_2 => ?_)
      refine TL.storeAgg (cs := [(.int .i64 0), (.int .i64 0)]) (us := [(.int .i64 ((edges.getD k20_2 (0, 0)).1)), (.int .i64 ((edges.getD k20_2 (0, 0)).2))]) 0 (ev_t rfl) (ev_t rfl) agg_85 rfl rfl (fun w hw => (ocs_cons rfl (ocs_cons rfl ocs_nil))) ?_
      refine TL.nil ?_
      refine TN.seq ?_
      refine TC.seq ?_
      refine TC.region ?_
      refine TL.op (yq (y_move ev_c)) rfl rfl rfl ?_
      refine TL.nil ?_
      refine TN.seq ?_
      refine TC.block ?_
      obtain ⟨c43, hc44⟩ : ∃ c, F_impl_sideOf_L3 edges i1 k20_2 ((2 - 0) + 1) (out2, 0) = c := ⟨_, rfl⟩
      rw [hc44] at hL2
      refine TC.loop (ι := Nat × List Int × Nat × Value) (fun (fu3, out3, k24_3, vout3) => [(0, vedges), (5, vout3), (6, (.int .i64 (i1 : Int))), (8, (.pointer (some ⟨g7_2, 0, none⟩))), (18, vedges), (19, (.int .i64 (edges.length : Int))), (20, (.int .i64 (k20_2 : Int))), (24, (.int .i64 (k24_3 : Int)))]) (fun (fu3, out3, k24_3, vout3) => Hp w [.blk g7_2 85 [(.int .i64 ((edges.getD k20_2 (0, 0)).1)), (.int .i64 ((edges.getD k20_2 (0, 0)).2))], rowI 3 vout3 out3]) (fun (fu3, out3, k24_3, vout3) => (k24_3 ≤ 2) ∧ (out1.length ≤ out3.length) ∧ (Dn out3) ∧ (k24_3 ≤ 2) ∧ 2 - k24_3 < fu3 ∧ F_impl_sideOf_L3 edges i1 k20_2 fu3 (out3, k24_3) = c43) (fun (fu3, out3, k24_3, vout3) => fu3) ((2 - 0) + 1, out2, 0, vout2) ⟨(by first | omega | (simp [-List.getD_eq_getElem?_getD] <;> omega)), (by first | omega | (simp [-List.getD_eq_getElem?_getD] <;> omega)), hi2_2, (by first | omega | (simp [-List.getD_eq_getElem?_getD] <;> omega)), (by omega), hc44⟩ ⟨rfl, rfl, rfl, rfl, rfl, rfl, rfl, rfl, trivial⟩ (fun w hw => hw) ?_
      rintro ⟨fu3, out3, k24_3, vout3⟩ hJ3
      obtain ⟨hi3_0, hi3_1, hi3_2, hi3_3, hmu3, hL3⟩ : (k24_3 ≤ 2) ∧ (out1.length ≤ out3.length) ∧ (Dn out3) ∧ (k24_3 ≤ 2) ∧ 2 - k24_3 < fu3 ∧ F_impl_sideOf_L3 edges i1 k20_2 fu3 (out3, k24_3) = c43 := hJ3
      change TC _ _ _ _ (Hp w [.blk g7_2 85 [(.int .i64 ((edges.getD k20_2 (0, 0)).1)), (.int .i64 ((edges.getD k20_2 (0, 0)).2))], rowI 3 vout3 out3]) [(0, vedges), (5, vout3), (6, (.int .i64 (i1 : Int))), (8, (.pointer (some ⟨g7_2, 0, none⟩))), (18, vedges), (19, (.int .i64 (edges.length : Int))), (20, (.int .i64 (k20_2 : Int))), (24, (.int .i64 (k24_3 : Int)))]
      obtain ⟨mf3, rfl⟩ : ∃ m, fu3 = m + 1 := ⟨fu3 - 1, by omega⟩
      rw [F_impl_sideOf_L3_s] at hL3
      have hpk := hp1 k20_2
      have hdl3 := hi3_2.len
      refine TC.seq ?_
      refine TC.region ?_
      refine TL.op (yq (y_lss (ev_t rfl) ev_c)) rfl rfl rfl ?_
      refine TL.nil ?_
      refine TN.seq ?_
      refine TC.seq ?_
      refine TC.cond (b := decide ((k24_3 : Int) < 2)) (ev_t rfl) (fun h45 => ?_) (fun h45 => ?_)
      · rw [bif_pos h45] at hL3
        have q46 := (of_decide_eq_true h45)
        refine TC.skip ?_
        refine TN.seq ?_
        refine TC.seq ?_
        refine TC.block ?_
        refine TC.seq ?_
        refine TC.region ?_
        refine TL.op (yq (y_move (ev_t rfl))) rfl rfl rfl ?_
        refine TL.op (yq (y_assign (ev_t rfl))) rfl rfl rfl ?_
        refine TL.nil ?_
        refine TN.seq ?_
        refine TC.seq ?_
        refine TC.regionQ (by kernel_rfl) (by kernel_rfl) dr_hp ?_
        refine TQ.op (yq (y_move (ev_t rfl))) rfl rfl rfl ?_
        refine TQ.op (yq (y_ixb (c := k24_3) (ev_t rfl) (ev_t rfl) (by first | rfl | omega) arT_85 (by omega))) rfl rfl rfl ?_
        refine TQ.op (yq (y_ldv 0 (c := k24_3) (ev_t rfl) one_3 rfl (by omega))) rfl rfl rfl ?_
        refine TQ.op (yq (y_move (ev_t rfl))) rfl rfl rfl ?_
        refine TQ.op (yq (y_move (ev_t rfl))) rfl rfl rfl ?_
        have hb47 : i1 < out3.length := (by first | omega | (simp only [List.length_set, List.length_append, List.length_cons, List.length_nil, List.length_replicate]; omega) | (rw [sortI_length]; simp only [List.length_cons, List.length_nil]; omega))
        refine TQ.op (yq (y_idx (k := i1) (ev_t rfl) (ev_t rfl) (by first | omega | simp) slT_34 (ri_row 1 rfl) hb47)) rfl rfl rfl ?_
        refine TQ.op (yq (y_ldi (ev_t rfl) one_3 (ri_row 1 rfl) hb47)) rfl rfl rfl ?_
        refine TQ.op (yq (y_eql (ev_t rfl) (ev_t rfl))) rfl rfl rfl ?_
        refine TQ.op (yq (y_move (ev_t rfl))) rfl rfl rfl ?_
        refine TQ.opw (w_t rfl rfl rfl) (fun hg => yq (y_move (ev_t rfl))) rfl rfl ?_
        refine TQ.opw (w_t rfl rfl rfl) (fun hg => yq (y_move (ev_t rfl))) rfl rfl ?_
        refine TQ.opw (w_t rfl rfl rfl) (fun hg => yq (y_sub ev_c (ev_g rfl hg) (by unfold In64; constructor <;> omega))) rfl rfl ?_
        refine TQ.opw (w_t rfl rfl rfl) (fun hg => yq (y_ixb (c := (1 - (k24_3 : Int)).toNat) (ev_t rfl) (ev_g rfl hg) (by have hgf := (of_decide_eq_true hg); first | rfl | omega) arT_85 (by have hgf := (of_decide_eq_true hg); omega))) rfl rfl ?_
        refine TQ.opw (w_t rfl rfl rfl) (fun hg => yq (y_ldv 0 (c := ((1 - (k24_3 : Int)).toNat)) (ev_g rfl hg) one_3 rfl (by have hgf := (of_decide_eq_true hg); omega))) rfl rfl ?_
        refine TQ.opw (w_t rfl rfl rfl) (fun hg => y_call (vs := [vout3, (.int .i64 (pk ((edges.getD k20_2 (0, 0)).1) ((edges.getD k20_2 (0, 0)).2) ((1 - (k24_3 : Int)).toNat)))]) (v := (.bool (F_slices_Contains_Sint_int out3 (pk ((edges.getD k20_2 (0, 0)).1) ((edges.getD k20_2 (0, 0)).2) ((1 - (k24_3 : Int)).toNat))))) en_108 ⟨(ev_g rfl hg), (ev_g rfl hg), trivial⟩ (fun w hw => slices_Contains_Sint_int_ok w vout3 out3 ((ri_row 1 rfl) w hw) (pk ((edges.getD k20_2 (0, 0)).1) ((edges.getD k20_2 (0, 0)).2) ((1 - (k24_3 : Int)).toNat)))) rfl rfl ?_
        refine TQ.opw (w_t rfl rfl rfl) (fun hg => yq (y_not (ev_g rfl hg))) rfl rfl ?_
        refine TQ.op (yq (y_and (ev_t rfl) (fun hq => (ev_g rfl hq)))) rfl rfl rfl ?_
        refine TQ.nil ?_
        refine TN.seq ?_
        refine TC.cond (b := ((decide ((pk ((edges.getD k20_2 (0, 0)).1) ((edges.getD k20_2 (0, 0)).2) k24_3) = (out3.getD i1 0))) && (!(F_slices_Contains_Sint_int out3 (pk ((edges.getD k20_2 (0, 0)).1) ((edges.getD k20_2 (0, 0)).2) ((1 - (k24_3 : Int)).toNat)))))) (ev_t rfl) (fun h48 => ?_) (fun h48 => ?_)
        · rw [bif_pos h48] at hL3
          have q49 := (and_imp (and_t h48) (fun h => (of_decide_eq_true h)) (fun h => (not_t h)))
          have hdn := hi3_2.app (pk_rng hpk.p) (not_mem_of q49.2)
          refine TC.region ?_
          refine TL.op (yq (y_move (ev_t rfl))) rfl rfl rfl ?_
          refine TL.op (yq (y_move (ev_t rfl))) rfl rfl rfl ?_
          refine TL.op (yq (y_sub ev_c (ev_t rfl) (by unfold In64; constructor <;> omega))) rfl rfl rfl ?_
          refine TL.op (yq (y_ixb (c := (1 - (k24_3 : Int)).toNat) (ev_t rfl) (ev_t rfl) (by first | rfl | omega) arT_85 (by omega))) rfl rfl rfl ?_
          refine TL.op (yq (y_ldv 0 (c := ((1 - (k24_3 : Int)).toNat)) (ev_t rfl) one_3 rfl (by omega))) rfl rfl rfl ?_
          refine TL.buildI (zs := [.tmp 48]) (qs := [(pk ((edges.getD k20_2 (0, 0)).1) ((edges.getD k20_2 (0, 0)).2) ((1 - (k24_3 : Int)).toNat))]) slT_34 rfl ⟨(ev_t rfl), trivial⟩ rfl (by decide) rfl (fun v12_5 => ?_)
          refine TL.appendI 2 (ev_t rfl) (ev_t rfl) rfl slT_34 (ri_row 0 rfl) (by first | omega | (simp [-List.getD_eq_getElem?_getD] <;> omega)) rfl (fun v12_6 => ?_)
          refine TL.op (yq (y_assign (ev_t rfl))) rfl rfl rfl ?_
          refine TL.nil ?_
          refine TN.blockN ?_
          refine TN.seq ?_
          refine TC.region ?_
          refine TL.op (yq (y_add (ev_t rfl) ev_c (by unfold In64; constructor <;> omega))) rfl rfl rfl ?_
          refine TL.op (yq (y_move (ev_t rfl))) rfl rfl rfl ?_
          refine TL.nil ?_
          exact TN.hand (mf3, (out3 ++ ([(pk ((edges.getD k20_2 (0, 0)).1) ((edges.getD k20_2 (0, 0)).2) ((1 - (k24_3 : Int)).toNat))])), (k24_3 + 1), v12_6) ⟨(by first | omega | (simp [-List.getD_eq_getElem?_getD] <;> omega)), (by first | omega | (simp [-List.getD_eq_getElem?_getD] <;> omega)), (by first | exact hi3_2 | exact hdn), (by first | omega | (simp [-List.getD_eq_getElem?_getD] <;> omega)), (by omega), hL3⟩ (Nat.lt_succ_self _) ⟨rfl, rfl, rfl, rfl, rfl, rfl, rfl, rfl, trivial⟩ (fun w hw => Hp.sublist hw (.cons _ (.cons_cons _ (.cons_cons _ .slnil))))
        · rw [bif_neg h48] at hL3
          have q49 := ((and_f h48).imp (fun h => (of_decide_eq_false h)) (fun h => (not_f h)))
          refine TC.skip ?_
          refine TN.blockN ?_
          refine TN.seq ?_
          refine TC.region ?_
          refine TL.op (yq (y_add (ev_t rfl) ev_c (by unfold In64; constructor <;> omega))) rfl rfl rfl ?_
          refine TL.op (yq (y_move (ev_t rfl))) rfl rfl rfl ?_
          refine TL.nil ?_
          exact TN.hand (mf3, out3, (k24_3 + 1), vout3) ⟨(by first | omega | (simp [-List.getD_eq_getElem?_getD] <;> omega)), (by first | omega | (simp [-List.getD_eq_getElem?_getD] <;> omega)), (by first | exact hi3_2 | exact hdn), (by first | omega | (simp [-List.getD_eq_getElem?_getD] <;> omega)), (by omega), hL3⟩ (Nat.lt_succ_self _) ⟨rfl, rfl, rfl, rfl, rfl, rfl, rfl, rfl, trivial⟩ (fun w hw => hw)
      · rw [bif_neg h45] at hL3
        have q46 := (of_decide_eq_false h45)
        refine TC.exit ?_
        refine TN.thenE ?_
        refine TN.thenE ?_
        rw [← hL3, elim_next] at hL2
        try dsimp only at hL2
        refine TN.blockH ?_
        refine TN.blockN ?_
        refine TN.seq ?_
        refine TC.region ?_
        refine TL.op (yq (y_add (ev_t rfl) ev_c (by unfold In64; constructor <;> omega))) rfl rfl rfl ?_
        refine TL.op (yq (y_move (ev_t rfl))) rfl rfl rfl ?_
        refine TL.nil ?_
        exact TN.hand (mf2, out3, (k20_2 + 1), vout3) ⟨(by first | omega | (simp [-List.getD_eq_getElem?_getD] <;> omega)), (by first | omega | (simp [-List.getD_eq_getElem?_getD] <;> omega)), hi3_2, (by omega), hL2⟩ (Nat.lt_succ_self _) ⟨rfl, rfl, rfl, rfl, rfl, rfl, trivial⟩ (fun w hw => Hp.sublist hw (.cons _ (.cons_cons _ .slnil)))
    · rw [bif_neg h40] at hL2
      have q41 := (of_decide_eq_false h40)
      refine TC.exit ?_
      refine TN.thenE ?_
      refine TN.thenE ?_
      rw [← hL2, elim_next] at hL1
      try dsimp only at hL1
      refine TN.blockH ?_
      refine TN.blockN ?_
      refine TN.seq ?_
      refine TC.region ?_
      refine TL.op (yq (y_move (ev_t rfl))) rfl rfl rfl ?_
      refine TL.op (yq (y_add (ev_t rfl) ev_c (by unfold In64; constructor <;> omega))) rfl rfl rfl ?_
      refine TL.op (yq (y_assign (ev_t rfl))) rfl rfl rfl ?_
      refine TL.nil ?_
      exact TN.hand (mf1, out2, (i1 + 1), vout2) ⟨(by first | omega | (simp [-List.getD_eq_getElem?_getD] <;> omega)), hi2_2, (by omega), hL1⟩ (Nat.lt_succ_self _) ⟨rfl, rfl, rfl, trivial⟩ (fun w hw => hw)
  · rw [bif_neg h36] at hL1
    have q37 := (of_decide_eq_false h36)
    refine TC.exit ?_
    refine TN.thenE ?_
    refine TN.thenE ?_
    rw [← hL1, elim_next] at hF
    try dsimp only at hF
    refine TN.blockH ?_
    refine TN.seq ?_
    refine TC.seq ?_
    refine TC.region ?_
    refine TL.op (yq (y_move (ev_t rfl))) rfl rfl rfl ?_
    refine TL.callr (ι := Value) (vs := [vout1]) (fun i => i) (fun i => [rowI 3 i (F_impl_rising out1)]) en_133 ⟨(ev_t rfl), trivial⟩ rfl (fun w hw => impl_rising_ok w vout1 out1 ((ri_row 0 rfl) w hw) (by first | assumption | omega | grind)) (fun r15_1 => ?_)
    refine TL.op (yq (y_assign (ev_t rfl))) rfl rfl rfl ?_
    refine TL.nil ?_
    refine TN.seq ?_
    refine TC.ret ?_
    subst hF
    exact TN.ret1 rfl (ev_t rfl) (fun w' hw => ⟨r15_1, rfl, Hp.sublist hw (.cons_cons _ (.cons _ .slnil))⟩)

set_option maxRecDepth 4000 in
set_option maxHeartbeats 1000000 in
theorem impl_Metric_spanningTree_ok (w : World) (vm : Value) (um : List Value) (m : List (List Int)) (hm : RII w vm um m) (hp0 : Tab m) :
    Calls Try.prog 92 ([(.agg #[vm])] : List Value).toArray w (fun e w' => ∃ i : Value, e = .returned i ∧ Hp w [rowP 85 i (F_impl_Metric_spanningTree m)] w') := by
  obtain ⟨rz, hF⟩ : ∃ rz, (F_impl_Metric_spanningTree m) = rz := ⟨_, rfl⟩
  rw [hF]
  unfold F_impl_Metric_spanningTree at hF
  have hn1 := hp0.n1
  have hn6 := hp0.n6
  have ht0 := tri_le hn6
  have hlen_m := argT_len hm
  refine calls_tc Try.func92 rfl rfl rfl ?_
  change TC _ _ _ _ (Hp w []) [(0, (.agg #[vm]))]
  refine TC.seq ?_
  refine TC.region ?_
  refine TL.box (ev_t rfl) rfl (fun g0_0 => ?_)
  refine TL.op (yq (y_assign ev_c)) rfl rfl rfl ?_
  refine TL.nil ?_
  refine TN.seq ?_
  refine TC.seq ?_
  refine TC.region ?_
  refine TL.buildP (zs := []) (ps := ([] : List (Int × Int))) slT_37 rfl trivial rfl (by decide) rfl (fun v1_0 => ?_)
  refine TL.op (yq (y_assign (ev_t rfl))) rfl rfl rfl ?_
  refine TL.nil ?_
  refine TN.seq ?_
  refine TC.seq ?_
  refine TC.seq ?_
  refine TC.region ?_
  refine TL.op (yq (y_fa (fa_55_0 g0_0) (ev_t rfl))) rfl rfl rfl ?_
  refine TL.op (yq (y_ldb 1 (ev_t rfl) one_49 rfl rfl)) rfl rfl rfl ?_
  refine TL.op (yq (y_len (ev_t rfl) Try.underlying49 (fun w hw => ((fun w hw => ((rii_arg hm) w hw).1) w hw).ln))) rfl rfl rfl ?_
  refine TL.op (yq (y_move ev_c)) rfl rfl rfl ?_
  refine TL.nil ?_
  refine TN.seq ?_
  refine TC.block ?_
  obtain ⟨c21, hc22⟩ : ∃ c, F_impl_Metric_spanningTree_L1 m ((m.length - 0) + 1) (([] : List (Int × Int)), 0) = c := ⟨_, rfl⟩
  rw [hc22] at hF
  refine TC.loop (ι := Nat × List (Int × Int) × Nat × Value) (fun (fu1, edges1, k13_1, vedges1) => [(1, (.pointer (some ⟨g0_0, 0, none⟩))), (3, vedges1), (12, (.int .i64 (m.length : Int))), (13, (.int .i64 (k13_1 : Int)))]) (fun (fu1, edges1, k13_1, vedges1) => Hp w [rowP 85 vedges1 edges1, .blk g0_0 55 [vm]]) (fun (fu1, edges1, k13_1, vedges1) => (k13_1 ≤ m.length) ∧ (edges1.length + tri (m.length - k13_1) ≤ 15) ∧ (DmA (m.length : Int) edges1) ∧ m.length - k13_1 < fu1 ∧ F_impl_Metric_spanningTree_L1 m fu1 (edges1, k13_1) = c21) (fun (fu1, edges1, k13_1, vedges1) => fu1) ((m.length - 0) + 1, ([] : List (Int × Int)), 0, v1_0) ⟨(by first | omega | (simp [-List.getD_eq_getElem?_getD] <;> omega)), (by rw [Nat.sub_zero]; simp only [List.length_nil]; omega), (DmA.nil (by omega)), (by omega), hc22⟩ ⟨rfl, rfl, rfl, rfl, trivial⟩ (fun w hw => hw) ?_
  rintro ⟨fu1, edges1, k13_1, vedges1⟩ hJ1
  obtain ⟨hi1_0, hi1_1, hi1_2, hmu1, hL1⟩ : (k13_1 ≤ m.length) ∧ (edges1.length + tri (m.length - k13_1) ≤ 15) ∧ (DmA (m.length : Int) edges1) ∧ m.length - k13_1 < fu1 ∧ F_impl_Metric_spanningTree_L1 m fu1 (edges1, k13_1) = c21 := hJ1
  change TC _ _ _ _ (Hp w [rowP 85 vedges1 edges1, .blk g0_0 55 [vm]]) [(1, (.pointer (some ⟨g0_0, 0, none⟩))), (3, vedges1), (12, (.int .i64 (m.length : Int))), (13, (.int .i64 (k13_1 : Int)))]
  obtain ⟨mf1, rfl⟩ : ∃ m, fu1 = m + 1 := ⟨fu1 - 1, by omega⟩
  rw [F_impl_Metric_spanningTree_L1_s] at hL1
  have htr : k13_1 < m.length → _ := fun h => tri_s h
  refine TC.seq ?_
  refine TC.region ?_
  refine TL.op (yq (y_lss (ev_t rfl) (ev_t rfl))) rfl rfl rfl ?_
  refine TL.nil ?_
  refine TN.seq ?_
  refine TC.seq ?_
  refine TC.cond (b := decide ((k13_1 : Int) < (m.length : Int))) (ev_t rfl) (fun h23 => ?_) (fun h23 => ?_)
  · rw [bif_pos h23] at hL1
    have q24 := (of_decide_eq_true h23)
    refine TC.skip ?_
    refine TN.seq ?_
    refine TC.seq ?_
    refine TC.block ?_
    refine TC.seq ?_
    refine TC.region ?_
    refine TL.op (yq (y_move (ev_t rfl))) rfl rfl rfl ?_
    refine TL.op (yq (y_assign (ev_t rfl))) rfl rfl rfl ?_
    refine TL.nil ?_
    refine TN.seq ?_
    refine TC.seq ?_
    refine TC.region ?_
    refine TL.op (yq (y_move (ev_t rfl))) rfl rfl rfl ?_
    refine TL.op (yq (y_add (ev_t rfl) ev_c (by unfold In64; constructor <;> omega))) rfl rfl rfl ?_
    refine TL.op (yq (y_assign (ev_t rfl))) rfl rfl rfl ?_
    refine TL.nil ?_
    refine TN.seq ?_
    refine TC.block ?_
    obtain ⟨c25, hc26⟩ : ∃ c, F_impl_Metric_spanningTree_L2 m k13_1 ((m.length - (k13_1 + 1)) + 1) (edges1, (k13_1 + 1)) = c := ⟨_, rfl⟩
    rw [hc26] at hL1
    refine TC.loop (ι := Nat × List (Int × Int) × Nat × Value) (fun (fu2, edges2, y2, vedges2) => [(1, (.pointer (some ⟨g0_0, 0, none⟩))), (3, vedges2), (4, (.int .i64 (k13_1 : Int))), (5, (.int .i64 (y2 : Int))), (12, (.int .i64 (m.length : Int))), (13, (.int .i64 (k13_1 : Int)))]) (fun (fu2, edges2, y2, vedges2) => Hp w [rowP 85 vedges2 edges2, .blk g0_0 55 [vm]]) (fun (fu2, edges2, y2, vedges2) => (y2 ≤ max m.length (k13_1 + 1)) ∧ (edges2.length + tri (m.length - k13_1) + k13_1 + 1 ≤ 15 + y2) ∧ (DmA (m.length : Int) edges2) ∧ (k13_1 < y2) ∧ m.length - y2 < fu2 ∧ F_impl_Metric_spanningTree_L2 m k13_1 fu2 (edges2, y2) = c25) (fun (fu2, edges2, y2, vedges2) => fu2) ((m.length - (k13_1 + 1)) + 1, edges1, (k13_1 + 1), vedges1) ⟨(by first | omega | (simp [-List.getD_eq_getElem?_getD] <;> omega)), (by first | omega | (simp [-List.getD_eq_getElem?_getD] <;> omega)), hi1_2, (by first | omega | (simp [-List.getD_eq_getElem?_getD] <;> omega)), (by omega), hc26⟩ ⟨rfl, rfl, rfl, rfl, rfl, rfl, trivial⟩ (fun w hw => hw) ?_
    rintro ⟨fu2, edges2, y2, vedges2⟩ hJ2
    obtain ⟨hi2_0, hi2_1, hi2_2, hi2_3, hmu2, hL2⟩ : (y2 ≤ max m.length (k13_1 + 1)) ∧ (edges2.length + tri (m.length - k13_1) + k13_1 + 1 ≤ 15 + y2) ∧ (DmA (m.length : Int) edges2) ∧ (k13_1 < y2) ∧ m.length - y2 < fu2 ∧ F_impl_Metric_spanningTree_L2 m k13_1 fu2 (edges2, y2) = c25 := hJ2
    change TC _ _ _ _ (Hp w [rowP 85 vedges2 edges2, .blk g0_0 55 [vm]]) [(1, (.pointer (some ⟨g0_0, 0, none⟩))), (3, vedges2), (4, (.int .i64 (k13_1 : Int))), (5, (.int .i64 (y2 : Int))), (12, (.int .i64 (m.length : Int))), (13, (.int .i64 (k13_1 : Int)))]
    obtain ⟨mf2, rfl⟩ : ∃ m, fu2 = m + 1 := ⟨fu2 - 1, by omega⟩
    rw [F_impl_Metric_spanningTree_L2_s] at hL2
    refine TC.seq ?_
    refine TC.seq ?_
    refine TC.region ?_
    refine TL.op (yq (y_move (ev_t rfl))) rfl rfl rfl ?_
    refine TL.op (yq (y_fa (fa_55_0 g0_0) (ev_t rfl))) rfl rfl rfl ?_
    refine TL.op (yq (y_ldb 1 (ev_t rfl) one_49 rfl rfl)) rfl rfl rfl ?_
    refine TL.op (yq (y_len (ev_t rfl) Try.underlying49 (fun w hw => ((fun w hw => ((rii_arg hm) w hw).1) w hw).ln))) rfl rfl rfl ?_
    refine TL.op (yq (y_lss (ev_t rfl) (ev_t rfl))) rfl rfl rfl ?_
    refine TL.nil ?_
    refine TN.seq ?_
    refine TC.cond (b := decide ((y2 : Int) < (m.length : Int))) (ev_t rfl) (fun h27 => ?_) (fun h27 => ?_)
    · rw [bif_pos h27] at hL2
      have q28 := (of_decide_eq_true h27)
      refine TC.skip ?_
      refine TN.seq ?_
      refine TC.seq ?_
      refine TC.block ?_
      refine TC.region ?_
      refine TL.op (yq (y_move (ev_t rfl))) rfl rfl rfl ?_
      refine TL.op (yq (y_move (ev_t rfl))) rfl rfl rfl ?_
      refine TL.op (yq (y_move (ev_t rfl))) rfl rfl rfl ?_
      refine TL.op (yq (y_bldA (ev_t rfl) (ev_t rfl) bd_85_a)) rfl rfl rfl ?_
      refine TL.buildP (zs := [.tmp 28]) (ps := [((k13_1 : Int), (y2 : Int))]) slT_37 rfl ⟨(ev_t rfl), trivial⟩ rfl (by decide) rfl (fun v8_4 => ?_)
      refine TL.appendP 1 (ev_t rfl) (ev_t rfl) rfl slT_37 (rp_row 0 rfl) (by first | omega | (simp [-List.getD_eq_getElem?_getD] <;> omega)) rfl (fun v8_5 => ?_)
      refine TL.op (yq (y_assign (ev_t rfl))) rfl rfl rfl ?_
      refine TL.nil ?_
      refine TN.blockN ?_
      refine TN.seq ?_
      refine TC.region ?_
      refine TL.op (yq (y_move (ev_t rfl))) rfl rfl rfl ?_
      refine TL.op (yq (y_add (ev_t rfl) ev_c (by unfold In64; constructor <;> omega))) rfl rfl rfl ?_
      refine TL.op (yq (y_assign (ev_t rfl))) rfl rfl rfl ?_
      refine TL.nil ?_
      exact TN.hand (mf2, (edges2 ++ ([((k13_1 : Int), (y2 : Int))])), (y2 + 1), v8_5) ⟨(by first | omega | (simp [-List.getD_eq_getElem?_getD] <;> omega)), (by first | omega | (simp [-List.getD_eq_getElem?_getD] <;> omega)), (hi2_2.app (dm_mk (by omega) (by omega))), (by first | omega | (simp [-List.getD_eq_getElem?_getD] <;> omega)), (by omega), hL2⟩ (Nat.lt_succ_self _) ⟨rfl, rfl, rfl, rfl, rfl, rfl, trivial⟩ (fun w hw => Hp.sublist hw (.cons _ (.cons_cons _ (.cons_cons _ .slnil))))
    · rw [bif_neg h27] at hL2
      have q28 := (of_decide_eq_false h27)
      refine TC.exit ?_
      refine TN.thenE ?_
      refine TN.thenE ?_
      rw [← hL2, elim_next] at hL1
      try dsimp only at hL1
      refine TN.blockH ?_
      refine TN.blockN ?_
      refine TN.seq ?_
      refine TC.region ?_
      refine TL.op (yq (y_add (ev_t rfl) ev_c (by unfold In64; constructor <;> omega))) rfl rfl rfl ?_
      refine TL.op (yq (y_move (ev_t rfl))) rfl rfl rfl ?_
      refine TL.nil ?_
      exact TN.hand (mf1, edges2, (k13_1 + 1), vedges2) ⟨(by first | omega | (simp [-List.getD_eq_getElem?_getD] <;> omega)), (by first | omega | (simp [-List.getD_eq_getElem?_getD] <;> omega)), hi2_2, (by omega), hL1⟩ (Nat.lt_succ_self _) ⟨rfl, rfl, rfl, rfl, trivial⟩ (fun w hw => hw)
  · rw [bif_neg h23] at hL1
    have q24 := (of_decide_eq_false h23)
    refine TC.exit ?_
    refine TN.thenE ?_
    refine TN.thenE ?_
    rw [← hL1, elim_next] at hF
    try dsimp only at hF
    have hsl := sort_like edges1 (m.length : Int) (fun a b => F_impl_Metric_spanningTree_1 a b m)
    have hsl1 := hsl.1
    have hsl2 := hsl.2 _ hi1_2
    refine TN.blockH ?_
    refine TN.seq ?_
    refine TC.seq ?_
    refine TC.region ?_
    refine TL.op (yq (y_move (ev_t rfl))) rfl rfl rfl ?_
    refine TL.op (yq (y_mkf (us := [(.pointer (some ⟨g0_0, 0, none⟩))]) ⟨(ev_t rfl), trivial⟩)) rfl rfl rfl ?_
    refine TL.callmR (ι := Unit) 0 (vs := [vedges1, (.func (.func 132) #[] ([(.pointer (some ⟨g0_0, 0, none⟩))] : List Value).toArray)]) (fun _ => (.tuple #[])) (fun _ => rowP 85 vedges1 (F_slices_SortStableFunc_S_2_int_2_int edges1 (m.length : Int) (fun a b => F_impl_Metric_spanningTree_1 a b m))) en_131 ⟨(ev_t rfl), (ev_t rfl), trivial⟩ rfl rfl (fun w1 _ hw => slices_SortStableFunc_S_2_int_2_int_ok w w1 _ vedges1 edges1 hw (m.length : Int) 132 [(.pointer (some ⟨g0_0, 0, none⟩))] (fun a b => F_impl_Metric_spanningTree_1 a b m) en_132 (fun w2 _ hw2 a b hd0 hd1 => impl_Metric_spanningTree_1_ok w2 a b g0_0 vm um m ((rii_arg hm) w2 hw2) (agg_blk 1 rfl hw2 (Below.refl _ _)) (by first | assumption | omega | grind) (by first | assumption | omega | grind) (by first | assumption | omega | grind)) (by first | assumption | omega | grind) (by first | assumption | omega | grind)) (fun _ => ?_)
    refine TL.nil ?_
    refine TN.seq ?_
    refine TC.seq ?_
    refine TC.region ?_
    refine TL.buildP (zs := []) (ps := ([] : List (Int × Int))) slT_37 rfl trivial rfl (by decide) rfl (fun v11_0 => ?_)
    refine TL.op (yq (y_assign (ev_t rfl))) rfl rfl rfl ?_
    refine TL.nil ?_
    refine TN.seq ?_
    refine TC.seq ?_
    refine TC.seq ?_
    refine TC.region ?_
    refine TL.op (yq (y_move (ev_t rfl))) rfl rfl rfl ?_
    refine TL.op (yq (y_len (ev_t rfl) Try.underlying37 (fun w hw => ((rp_row 1 rfl) w hw).ln))) rfl rfl rfl ?_
    refine TL.op (yq (y_move ev_c)) rfl rfl rfl ?_
    refine TL.nil ?_
    refine TN.seq ?_
    refine TC.block ?_
    obtain ⟨c29, hc30⟩ : ∃ c, F_impl_Metric_spanningTree_L3 m edges1 ((((F_slices_SortStableFunc_S_2_int_2_int edges1 (m.length : Int) (fun a b => F_impl_Metric_spanningTree_1 a b m)).length) - 0) + 1) (([] : List (Int × Int)), 0) = c := ⟨_, rfl⟩
    rw [hc30] at hF
    refine TC.loop (ι := Nat × List (Int × Int) × Nat × Value) (fun (fu3, out3, k38_3, vout3) => [(6, vout3), (36, vedges1), (37, (.int .i64 ((F_slices_SortStableFunc_S_2_int_2_int edges1 (m.length : Int) (fun a b => F_impl_Metric_spanningTree_1 a b m)).length : Int))), (38, (.int .i64 (k38_3 : Int)))]) (fun (fu3, out3, k38_3, vout3) => Hp w [rowP 85 vout3 out3, rowP 85 vedges1 (F_slices_SortStableFunc_S_2_int_2_int edges1 (m.length : Int) (fun a b => F_impl_Metric_spanningTree_1 a b m))]) (fun (fu3, out3, k38_3, vout3) => (k38_3 ≤ ((F_slices_SortStableFunc_S_2_int_2_int edges1 (m.length : Int) (fun a b => F_impl_Metric_spanningTree_1 a b m)).length)) ∧ (out3.length ≤ k38_3) ∧ (DmA (m.length : Int) out3) ∧ ((F_slices_SortStableFunc_S_2_int_2_int edges1 (m.length : Int) (fun a b => F_impl_Metric_spanningTree_1 a b m)).length) - k38_3 < fu3 ∧ F_impl_Metric_spanningTree_L3 m edges1 fu3 (out3, k38_3) = c29) (fun (fu3, out3, k38_3, vout3) => fu3) ((((F_slices_SortStableFunc_S_2_int_2_int edges1 (m.length : Int) (fun a b => F_impl_Metric_spanningTree_1 a b m)).length) - 0) + 1, ([] : List (Int × Int)), 0, v11_0) ⟨(by first | omega | (simp [-List.getD_eq_getElem?_getD] <;> omega)), (by first | omega | (simp [-List.getD_eq_getElem?_getD] <;> omega)), (DmA.nil (by omega)), (by omega), hc30⟩ ⟨rfl, rfl, rfl, rfl, trivial⟩ (fun w hw => Hp.sublist hw (.cons_cons _ (.cons_cons _ (.cons _ .slnil)))) ?_
    rintro ⟨fu3, out3, k38_3, vout3⟩ hJ3
    obtain ⟨hi3_0, hi3_1, hi3_2, hmu3, hL3⟩ : (k38_3 ≤ ((F_slices_SortStableFunc_S_2_int_2_int edges1 (m.length : Int) (fun a b => F_impl_Metric_spanningTree_1 a b m)).length)) ∧ (out3.length ≤ k38_3) ∧ (DmA (m.length : Int) out3) ∧ ((F_slices_SortStableFunc_S_2_int_2_int edges1 (m.length : Int) (fun a b => F_impl_Metric_spanningTree_1 a b m)).length) - k38_3 < fu3 ∧ F_impl_Metric_spanningTree_L3 m edges1 fu3 (out3, k38_3) = c29 := hJ3
    change TC _ _ _ _ (Hp w [rowP 85 vout3 out3, rowP 85 vedges1 (F_slices_SortStableFunc_S_2_int_2_int edges1 (m.length : Int) (fun a b => F_impl_Metric_spanningTree_1 a b m))]) [(6, vout3), (36, vedges1), (37, (.int .i64 ((F_slices_SortStableFunc_S_2_int_2_int edges1 (m.length : Int) (fun a b => F_impl_Metric_spanningTree_1 a b m)).length : Int))), (38, (.int .i64 (k38_3 : Int)))]
    obtain ⟨mf3, rfl⟩ : ∃ m, fu3 = m + 1 := ⟨fu3 - 1, by omega⟩
    rw [F_impl_Metric_spanningTree_L3_s] at hL3
    have hse := (hsl2 k38_3).p
    have hm6 := hi3_2.mono (k := 6) (by omega)
    refine TC.seq ?_
    refine TC.region ?_
    refine TL.op (yq (y_lss (ev_t rfl) (ev_t rfl))) rfl rfl rfl ?_
    refine TL.nil ?_
    refine TN.seq ?_
    refine TC.seq ?_
    refine TC.cond (b := decide ((k38_3 : Int) < ((F_slices_SortStableFunc_S_2_int_2_int edges1 (m.length : Int) (fun a b => F_impl_Metric_spanningTree_1 a b m)).length : Int))) (ev_t rfl) (fun h31 => ?_) (fun h31 => ?_)
    · rw [bif_pos h31] at hL3
      have q32 := (of_decide_eq_true h31)
      refine TC.skip ?_
      refine TN.seq ?_
      refine TC.seq ?_
      refine TC.block ?_
      refine TC.seq ?_
      refine TC.region ?_
      have hb33 : k38_3 < (F_slices_SortStableFunc_S_2_int_2_int edges1 (m.length : Int) (fun a b => F_impl_Metric_spanningTree_1 a b m)).length := (by first | omega | (simp only [List.length_set, List.length_append, List.length_cons, List.length_nil, List.length_replicate]; omega) | (rw [sortI_length]; simp only [List.length_cons, List.length_nil]; omega))
      refine TL.op (yq (y_idx (k := k38_3) (ev_t rfl) (ev_t rfl) (by first | omega | simp) slT_37 (rp_row 1 rfl) hb33)) rfl rfl rfl ?_
      refine TL.op (yq (y_ldpr (ev_t rfl) arT_85 (rp_row 1 rfl) hb33)) rfl rfl rfl ?_
      refine TL.alloc (u := (.agg #[(.int .i64 0), (.int .i64 0)])) (by kernel_rfl) rfl (fun g14_2 => ?_)
      refine TL.storeAgg (cs := [(.int .i64 0), (.int .i64 0)]) (us := [(.int .i64 (((F_slices_SortStableFunc_S_2_int_2_int edges1 (m.length : Int) (fun a b => F_impl_Metric_spanningTree_1 a b m)).getD k38_3 (0, 0)).1)), (.int .i64 (((F_slices_SortStableFunc_S_2_int_2_int edges1 (m.length : Int) (fun a b => F_impl_Metric_spanningTree_1 a b m)).getD k38_3 (0, 0)).2))]) 0 (ev_t rfl) (ev_t rfl) agg_85 rfl rfl (fun w hw => (ocs_cons rfl (ocs_cons rfl ocs_nil))) ?_
      refine TL.nil ?_
      refine TN.seq ?_
      refine TC.seq ?_
      refine TC.regionH 8 (Hp w [.blk g14_2 85 [(.int .i64 (((F_slices_SortStableFunc_S_2_int_2_int edges1 (m.length : Int) (fun a b => F_impl_Metric_spanningTree_1 a b m)).getD k38_3 (0, 0)).1)), (.int .i64 (((F_slices_SortStableFunc_S_2_int_2_int edges1 (m.length : Int) (fun a b => F_impl_Metric_spanningTree_1 a b m)).getD k38_3 (0, 0)).2))], rowP 85 vout3 out3, rowP 85 vedges1 (F_slices_SortStableFunc_S_2_int_2_int edges1 (m.length : Int) (fun a b => F_impl_Metric_spanningTree_1 a b m))]) rfl (by kernel_rfl) dr_hp (fun w hw => hw) ?_
      refine TH.take 0 rfl (by kernel_rfl) (y_move (ev_t rfl)) rfl rfl rfl ?_
      refine TH.take 1 rfl (by kernel_rfl) (y_ixb (c := 0) (ev_t rfl) ev_c rfl arT_85 (by decide)) rfl rfl rfl ?_
      refine TH.take 2 rfl (by kernel_rfl) (y_ldb 0 (ev_t rfl) one_3 rfl rfl) rfl rfl rfl ?_
      refine TH.take 4 rfl (by kernel_rfl) (y_ixb (c := 1) (ev_t rfl) ev_c rfl arT_85 (by decide)) rfl rfl rfl ?_
      refine TH.take 5 rfl (by kernel_rfl) (y_ldb 0 (ev_t rfl) one_3 rfl rfl) rfl rfl rfl ?_
      refine TH.loud 3 rfl (by kernel_rfl) ?_
      refine TL.callr (ι := Value) (vs := [vout3, (.int .i64 (((F_slices_SortStableFunc_S_2_int_2_int edges1 (m.length : Int) (fun a b => F_impl_Metric_spanningTree_1 a b m)).getD k38_3 (0, 0)).1))]) (fun i => i) (fun i => [rowI 3 i (F_impl_sideOf out3 (((F_slices_SortStableFunc_S_2_int_2_int edges1 (m.length : Int) (fun a b => F_impl_Metric_spanningTree_1 a b m)).getD k38_3 (0, 0)).1))]) en_95 ⟨(ev_t rfl), (ev_t rfl), trivial⟩ rfl (fun w hw => impl_sideOf_ok w vout3 out3 ((rp_row 1 rfl) w hw) (((F_slices_SortStableFunc_S_2_int_2_int edges1 (m.length : Int) (fun a b => F_impl_Metric_spanningTree_1 a b m)).getD k38_3 (0, 0)).1) (by first | assumption | omega | grind) (by first | assumption | omega | grind) (by first | assumption | omega | grind)) (fun r15_3 => ?_)
      refine TL.nil ?_
      refine TH.back (fun w hw => Hp.sublist hw (.cons _ (.cons_cons _ (.cons_cons _ (.cons_cons _ .slnil))))) ?_
      refine TH.loud 6 rfl (by kernel_rfl) ?_
      refine TL.op (y_call (vs := [r15_3, (.int .i64 (((F_slices_SortStableFunc_S_2_int_2_int edges1 (m.length : Int) (fun a b => F_impl_Metric_spanningTree_1 a b m)).getD k38_3 (0, 0)).2))]) (v := (.bool (F_slices_Contains_Sint_int (F_impl_sideOf out3 (((F_slices_SortStableFunc_S_2_int_2_int edges1 (m.length : Int) (fun a b => F_impl_Metric_spanningTree_1 a b m)).getD k38_3 (0, 0)).1)) (((F_slices_SortStableFunc_S_2_int_2_int edges1 (m.length : Int) (fun a b => F_impl_Metric_spanningTree_1 a b m)).getD k38_3 (0, 0)).2)))) en_108 ⟨(ev_t rfl), (ev_t rfl), trivial⟩ (fun w hw => slices_Contains_Sint_int_ok w r15_3 (F_impl_sideOf out3 (((F_slices_SortStableFunc_S_2_int_2_int edges1 (m.length : Int) (fun a b => F_impl_Metric_spanningTree_1 a b m)).getD k38_3 (0, 0)).1)) ((ri_row 0 rfl) w hw) (((F_slices_SortStableFunc_S_2_int_2_int edges1 (m.length : Int) (fun a b => F_impl_Metric_spanningTree_1 a b m)).getD k38_3 (0, 0)).2))) rfl rfl rfl ?_
      refine TL.nil ?_
      refine TH.back (fun w hw => Hp.sublist hw (.cons _ (.cons_cons _ (.cons_cons _ (.cons_cons _ .slnil))))) ?_
      refine TH.take 7 rfl (by kernel_rfl) (y_not (ev_t rfl)) rfl rfl rfl ?_
      refine TH.done (by kernel_rfl) ?_
      refine TN.seq ?_
      refine TC.cond (b := !(F_slices_Contains_Sint_int (F_impl_sideOf out3 (((F_slices_SortStableFunc_S_2_int_2_int edges1 (m.length : Int) (fun a b => F_impl_Metric_spanningTree_1 a b m)).getD k38_3 (0, 0)).1)) (((F_slices_SortStableFunc_S_2_int_2_int edges1 (m.length : Int) (fun a b => F_impl_Metric_spanningTree_1 a b m)).getD k38_3 (0, 0)).2))) (ev_t rfl) (fun h34 => ?_) (fun h34 => ?_)
      · rw [bif_pos h34] at hL3
        have q35 := (not_t h34)
        refine TC.region ?_
        refine TL.op (yq (y_move (ev_t rfl))) rfl rfl rfl ?_
        refine TL.op (yq (y_ldagg (cs := [(.int .i64 (((F_slices_SortStableFunc_S_2_int_2_int edges1 (m.length : Int) (fun a b => F_impl_Metric_spanningTree_1 a b m)).getD k38_3 (0, 0)).1)), (.int .i64 (((F_slices_SortStableFunc_S_2_int_2_int edges1 (m.length : Int) (fun a b => F_impl_Metric_spanningTree_1 a b m)).getD k38_3 (0, 0)).2))]) 1 (ev_t rfl) agg_85 rfl)) rfl rfl rfl ?_
        refine TL.buildP (zs := [.tmp 51]) (ps := [(((F_slices_SortStableFunc_S_2_int_2_int edges1 (m.length : Int) (fun a b => F_impl_Metric_spanningTree_1 a b m)).getD k38_3 (0, 0)).1, ((F_slices_SortStableFunc_S_2_int_2_int edges1 (m.length : Int) (fun a b => F_impl_Metric_spanningTree_1 a b m)).getD k38_3 (0, 0)).2)]) slT_37 rfl ⟨(ev_t rfl), trivial⟩ rfl (by decide) rfl (fun v16_2 => ?_)
        refine TL.appendP 3 (ev_t rfl) (ev_t rfl) rfl slT_37 (rp_row 0 rfl) (by first | omega | (simp [-List.getD_eq_getElem?_getD] <;> omega)) rfl (fun v16_3 => ?_)
        refine TL.op (yq (y_assign (ev_t rfl))) rfl rfl rfl ?_
        refine TL.nil ?_
        refine TN.blockN ?_
        refine TN.seq ?_
        refine TC.region ?_
        refine TL.op (yq (y_add (ev_t rfl) ev_c (by unfold In64; constructor <;> omega))) rfl rfl rfl ?_
        refine TL.op (yq (y_move (ev_t rfl))) rfl rfl rfl ?_
        refine TL.nil ?_
        exact TN.hand (mf3, (out3 ++ ([(((F_slices_SortStableFunc_S_2_int_2_int edges1 (m.length : Int) (fun a b => F_impl_Metric_spanningTree_1 a b m)).getD k38_3 (0, 0)).1, ((F_slices_SortStableFunc_S_2_int_2_int edges1 (m.length : Int) (fun a b => F_impl_Metric_spanningTree_1 a b m)).getD k38_3 (0, 0)).2)])), (k38_3 + 1), v16_3) ⟨(by first | omega | (simp [-List.getD_eq_getElem?_getD] <;> omega)), (by first | omega | (simp [-List.getD_eq_getElem?_getD] <;> omega)), (by first | exact hi3_2 | exact hi3_2.app (hsl2 _)), (by omega), hL3⟩ (Nat.lt_succ_self _) ⟨rfl, rfl, rfl, rfl, trivial⟩ (fun w hw => Hp.sublist hw (.cons _ (.cons _ (.cons _ (.cons_cons _ (.cons_cons _ .slnil))))))
      · rw [bif_neg h34] at hL3
        have q35 := (not_f h34)
        refine TC.skip ?_
        refine TN.blockN ?_
        refine TN.seq ?_
        refine TC.region ?_
        refine TL.op (yq (y_add (ev_t rfl) ev_c (by unfold In64; constructor <;> omega))) rfl rfl rfl ?_
        refine TL.op (yq (y_move (ev_t rfl))) rfl rfl rfl ?_
        refine TL.nil ?_
        exact TN.hand (mf3, out3, (k38_3 + 1), vout3) ⟨(by first | omega | (simp [-List.getD_eq_getElem?_getD] <;> omega)), (by first | omega | (simp [-List.getD_eq_getElem?_getD] <;> omega)), (by first | exact hi3_2 | exact hi3_2.app (hsl2 _)), (by omega), hL3⟩ (Nat.lt_succ_self _) ⟨rfl, rfl, rfl, rfl, trivial⟩ (fun w hw => Hp.sublist hw (.cons _ (.cons _ (.cons_cons _ (.cons_cons _ .slnil)))))
    · rw [bif_neg h31] at hL3
      have q32 := (of_decide_eq_false h31)
      refine TC.exit ?_
      refine TN.thenE ?_
      refine TN.thenE ?_
      rw [← hL3, elim_next] at hF
      try dsimp only at hF
      refine TN.blockH ?_
      refine TN.seq ?_
      refine TC.seq ?_
      refine TC.region ?_
      refine TL.op (yq (y_move (ev_t rfl))) rfl rfl rfl ?_
      refine TL.op (yq (y_assign (ev_t rfl))) rfl rfl rfl ?_
      refine TL.nil ?_
      refine TN.seq ?_
      refine TC.ret ?_
      subst hF
      exact TN.ret1 rfl (ev_t rfl) (fun w' hw => ⟨vout3, rfl, Hp.sublist hw (.cons_cons _ (.cons _ .slnil))⟩)

set_option maxRecDepth 4000 in
set_option maxHeartbeats 1000000 in
theorem impl_SpanningTree_ok (w : World) (vm : Value) (um : List Value) (m : List (List Int)) (hm : RII w vm um m)  :
    Calls Try.prog 39 ([(.agg #[vm])] : List Value).toArray w (fun e w' => ∃ i : Value, e = .returned (.tuple #[i, (.int .i64 ((F_impl_SpanningTree m).2.1)), (.bool ((F_impl_SpanningTree m).2.2))]) ∧ Hp w [rowP 85 i ((F_impl_SpanningTree m).1)] w') := by
  obtain ⟨rz, hF⟩ : ∃ rz, (F_impl_SpanningTree m) = rz := ⟨_, rfl⟩
  rw [hF]
  unfold F_impl_SpanningTree at hF
  have hlen_m := argT_len hm
  refine calls_tc Try.func39 rfl rfl rfl ?_
  change TC _ _ _ _ (Hp w []) [(0, (.agg #[vm]))]
  refine TC.seq ?_
  refine TC.region ?_
  refine TL.box (ev_t rfl) rfl (fun g0_0 => ?_)
  refine TL.op (yq (y_assign ev_c)) rfl rfl rfl ?_
  refine TL.op (yq (y_assign ev_c)) rfl rfl rfl ?_
  refine TL.op (yq (y_assign ev_c)) rfl rfl rfl ?_
  refine TL.nil ?_
  refine TN.seq ?_
  refine TC.seq ?_
  refine TC.seq ?_
  refine TC.region ?_
  refine TL.op (yq (y_ldagg (cs := [vm]) 0 (ev_t rfl) agg_55 rfl)) rfl rfl rfl ?_
  refine TL.op (y_call (vs := [(.agg #[vm])]) (v := (.bool (F_impl_IsMetric m))) en_91 ⟨(ev_t rfl), trivial⟩ (fun w hw => impl_IsMetric_ok w vm um m ((rii_arg hm) w hw))) rfl rfl rfl ?_
  refine TL.op (yq (y_not (ev_t rfl))) rfl rfl rfl ?_
  refine TL.nil ?_
  refine TN.seq ?_
  refine TC.cond (b := !(F_impl_IsMetric m)) (ev_t rfl) (fun h21 => ?_) (fun h21 => ?_)
  · rw [bif_pos h21] at hF
    have q22 := (not_t h21)
    refine TC.seq ?_
    refine TC.region ?_
    refine TL.op (yq (y_assign ev_c)) rfl rfl rfl ?_
    refine TL.op (yq (y_assign ev_c)) rfl rfl rfl ?_
    refine TL.op (yq (y_assign ev_c)) rfl rfl rfl ?_
    refine TL.nil ?_
    refine TN.seq ?_
    refine TC.ret ?_
    refine TN.thenR ?_
    subst hF
    refine TN.cls (fun w hw => hw.nil 85 2) ?_
    exact TN.ret3 rfl (ev_t rfl) (ev_t rfl) (ev_t rfl) (fun w' hw => ⟨(.slice none 0 0), rfl, Hp.sublist hw (.cons_cons _ (.cons _ .slnil))⟩)
  · rw [bif_neg h21] at hF
    have q22 := (isMetric_t (not_f h21))
    have hT := q22
    have hst := st_bd hT
    have hst1 := hst.1
    refine TC.skip ?_
    refine TN.seq ?_
    refine TC.seq ?_
    refine TC.region ?_
    refine TL.op (yq (y_ldagg (cs := [vm]) 0 (ev_t rfl) agg_55 rfl)) rfl rfl rfl ?_
    refine TL.callr (ι := Value) (vs := [(.agg #[vm])]) (fun i => i) (fun i => [rowP 85 i (F_impl_Metric_spanningTree m)]) en_92 ⟨(ev_t rfl), trivial⟩ rfl (fun w hw => impl_Metric_spanningTree_ok w vm um m ((rii_arg hm) w hw) (by first | assumption | omega | grind)) (fun r3_1 => ?_)
    refine TL.op (yq (y_assign (ev_t rfl))) rfl rfl rfl ?_
    refine TL.nil ?_
    refine TN.seq ?_
    refine TC.seq ?_
    refine TC.region ?_
    refine TL.op (yq (y_assign ev_c)) rfl rfl rfl ?_
    refine TL.nil ?_
    refine TN.seq ?_
    refine TC.seq ?_
    refine TC.seq ?_
    refine TC.region ?_
    refine TL.op (yq (y_move (ev_t rfl))) rfl rfl rfl ?_
    refine TL.op (yq (y_len (ev_t rfl) Try.underlying37 (fun w hw => ((rp_row 0 rfl) w hw).ln))) rfl rfl rfl ?_
    refine TL.op (yq (y_move ev_c)) rfl rfl rfl ?_
    refine TL.nil ?_
    refine TN.seq ?_
    refine TC.block ?_
    obtain ⟨c24, hc25⟩ : ∃ c, F_impl_SpanningTree_L1 m ((((F_impl_Metric_spanningTree m).length) - 0) + 1) (0, 0) = c := ⟨_, rfl⟩
    rw [hc25] at hF
    refine TC.loop (ι := Nat × Int × Nat) (fun (fu1, sum1, k16_1) => [(1, (.pointer (some ⟨g0_0, 0, none⟩))), (5, r3_1), (6, (.int .i64 sum1)), (14, r3_1), (15, (.int .i64 ((F_impl_Metric_spanningTree m).length : Int))), (16, (.int .i64 (k16_1 : Int)))]) (fun (fu1, sum1, k16_1) => Hp w [rowP 85 r3_1 (F_impl_Metric_spanningTree m), .blk g0_0 55 [vm]]) (fun (fu1, sum1, k16_1) => (k16_1 ≤ ((F_impl_Metric_spanningTree m).length)) ∧ (-100 * (k16_1 : Int) ≤ sum1) ∧ (sum1 ≤ 100 * (k16_1 : Int)) ∧ ((F_impl_Metric_spanningTree m).length) - k16_1 < fu1 ∧ F_impl_SpanningTree_L1 m fu1 (sum1, k16_1) = c24) (fun (fu1, sum1, k16_1) => fu1) ((((F_impl_Metric_spanningTree m).length) - 0) + 1, 0, 0) ⟨(by first | omega | (simp [-List.getD_eq_getElem?_getD] <;> omega)), (by first | omega | (simp [-List.getD_eq_getElem?_getD] <;> omega)), (by first | omega | (simp [-List.getD_eq_getElem?_getD] <;> omega)), (by omega), hc25⟩ ⟨rfl, rfl, rfl, rfl, rfl, rfl, trivial⟩ (fun w hw => hw) ?_
    rintro ⟨fu1, sum1, k16_1⟩ hJ1
    obtain ⟨hi1_0, hi1_1, hi1_2, hmu1, hL1⟩ : (k16_1 ≤ ((F_impl_Metric_spanningTree m).length)) ∧ (-100 * (k16_1 : Int) ≤ sum1) ∧ (sum1 ≤ 100 * (k16_1 : Int)) ∧ ((F_impl_Metric_spanningTree m).length) - k16_1 < fu1 ∧ F_impl_SpanningTree_L1 m fu1 (sum1, k16_1) = c24 := hJ1
    change TC _ _ _ _ (Hp w [rowP 85 r3_1 (F_impl_Metric_spanningTree m), .blk g0_0 55 [vm]]) [(1, (.pointer (some ⟨g0_0, 0, none⟩))), (5, r3_1), (6, (.int .i64 sum1)), (14, r3_1), (15, (.int .i64 ((F_impl_Metric_spanningTree m).length : Int))), (16, (.int .i64 (k16_1 : Int)))]
    obtain ⟨mf1, rfl⟩ : ∃ m, fu1 = m + 1 := ⟨fu1 - 1, by omega⟩
    rw [F_impl_SpanningTree_L1_s] at hL1
    have hse := (hst.2 k16_1).p
    have hrw := hT.rows ((F_impl_Metric_spanningTree m).getD k16_1 (0, 0)).1.toNat
    have hel := hT.el ((F_impl_Metric_spanningTree m).getD k16_1 (0, 0)).1.toNat ((F_impl_Metric_spanningTree m).getD k16_1 (0, 0)).2.toNat
    refine TC.seq ?_
    refine TC.region ?_
    refine TL.op (yq (y_lss (ev_t rfl) (ev_t rfl))) rfl rfl rfl ?_
    refine TL.nil ?_
    refine TN.seq ?_
    refine TC.seq ?_
    refine TC.cond (b := decide ((k16_1 : Int) < ((F_impl_Metric_spanningTree m).length : Int))) (ev_t rfl) (fun h26 => ?_) (fun h26 => ?_)
    · rw [bif_pos h26] at hL1
      have q27 := (of_decide_eq_true h26)
      refine TC.skip ?_
      refine TN.seq ?_
      refine TC.seq ?_
      refine TC.block ?_
      refine TC.seq ?_
      refine TC.region ?_
      have hb28 : k16_1 < (F_impl_Metric_spanningTree m).length := (by first | omega | (simp only [List.length_set, List.length_append, List.length_cons, List.length_nil, List.length_replicate]; omega) | (rw [sortI_length]; simp only [List.length_cons, List.length_nil]; omega))
      refine TL.op (yq (y_idx (k := k16_1) (ev_t rfl) (ev_t rfl) (by first | omega | simp) slT_37 (rp_row 0 rfl) hb28)) rfl rfl rfl ?_
      refine TL.op (yq (y_ldpr (ev_t rfl) arT_85 (rp_row 0 rfl) hb28)) rfl rfl rfl ?_
      refine TL.alloc (u := (.agg #[(.int .i64 0), (.int .i64 0)])) (by kernel_rfl) rfl (fun g7_2 => ?_)
      refine TL.storeAgg (cs := [(.int .i64 0), (.int .i64 0)]) (us := [(.int .i64 (((F_impl_Metric_spanningTree m).getD k16_1 (0, 0)).1)), (.int .i64 (((F_impl_Metric_spanningTree m).getD k16_1 (0, 0)).2))]) 0 (ev_t rfl) (ev_t rfl) agg_85 rfl rfl (fun w hw => (ocs_cons rfl (ocs_cons rfl ocs_nil))) ?_
      refine TL.nil ?_
      refine TN.seq ?_
      refine TC.regionQ (by kernel_rfl) (by kernel_rfl) dr_hp ?_
      refine TQ.op (yq (y_move (ev_t rfl))) rfl rfl rfl ?_
      refine TQ.op (yq (y_fa (fa_55_0 g0_0) (ev_t rfl))) rfl rfl rfl ?_
      refine TQ.op (yq (y_ldb 2 (ev_t rfl) one_49 rfl rfl)) rfl rfl rfl ?_
      refine TQ.op (yq (y_ixb (c := 0) (ev_t rfl) ev_c rfl arT_85 (by decide))) rfl rfl rfl ?_
      refine TQ.op (yq (y_ldb 0 (ev_t rfl) one_3 rfl rfl)) rfl rfl rfl ?_
      have hb29 : (((F_impl_Metric_spanningTree m).getD k16_1 (0, 0)).1).toNat < m.length := (by first | omega | (simp only [List.length_set, List.length_append, List.length_cons, List.length_nil, List.length_replicate]; omega) | (rw [sortI_length]; simp only [List.length_cons, List.length_nil]; omega))
      refine TQ.op (yq (y_idx (k := (((F_impl_Metric_spanningTree m).getD k16_1 (0, 0)).1).toNat) (ev_t rfl) (ev_t rfl) (by first | omega | simp) slT_49 (fun w hw => ((rii_arg hm) w hw).1) hb29)) rfl rfl rfl ?_
      have ha30 := hm.row (i := (((F_impl_Metric_spanningTree m).getD k16_1 (0, 0)).1).toNat) hb29
      refine TQ.op (yq (y_ldA (ev_t rfl) one_34 (rii_arg hm) hb29)) rfl rfl rfl ?_
      refine TQ.op (yq (y_ixb (c := 1) (ev_t rfl) ev_c rfl arT_85 (by decide))) rfl rfl rfl ?_
      refine TQ.op (yq (y_ldb 0 (ev_t rfl) one_3 rfl rfl)) rfl rfl rfl ?_
      have hb31 : (((F_impl_Metric_spanningTree m).getD k16_1 (0, 0)).2).toNat < (m.getD ((((F_impl_Metric_spanningTree m).getD k16_1 (0, 0)).1).toNat) []).length := (by first | omega | (simp only [List.length_set, List.length_append, List.length_cons, List.length_nil, List.length_replicate]; omega) | (rw [sortI_length]; simp only [List.length_cons, List.length_nil]; omega))
      refine TQ.op (yq (y_idx (k := (((F_impl_Metric_spanningTree m).getD k16_1 (0, 0)).2).toNat) (ev_t rfl) (ev_t rfl) (by first | omega | simp) slT_34 (ri_arg ha30) hb31)) rfl rfl rfl ?_
      refine TQ.op (yq (y_ldi (ev_t rfl) one_3 (ri_arg ha30) hb31)) rfl rfl rfl ?_
      refine TQ.op (yq (y_add (ev_t rfl) (ev_t rfl) (by unfold In64; constructor <;> omega))) rfl rfl rfl ?_
      refine TQ.op (yq (y_assign (ev_t rfl))) rfl rfl rfl ?_
      refine TQ.nil ?_
      refine TN.blockN ?_
      refine TN.seq ?_
      refine TC.region ?_
      refine TL.op (yq (y_add (ev_t rfl) ev_c (by unfold In64; constructor <;> omega))) rfl rfl rfl ?_
      refine TL.op (yq (y_move (ev_t rfl))) rfl rfl rfl ?_
      refine TL.nil ?_
      exact TN.hand (mf1, sum1 + ((m.getD ((((F_impl_Metric_spanningTree m).getD k16_1 (0, 0)).1).toNat) []).getD ((((F_impl_Metric_spanningTree m).getD k16_1 (0, 0)).2).toNat) 0), (k16_1 + 1)) ⟨(by first | omega | (simp [-List.getD_eq_getElem?_getD] <;> omega)), (by first | omega | (simp [-List.getD_eq_getElem?_getD] <;> omega)), (by first | omega | (simp [-List.getD_eq_getElem?_getD] <;> omega)), (by omega), hL1⟩ (Nat.lt_succ_self _) ⟨rfl, rfl, rfl, rfl, rfl, rfl, trivial⟩ (fun w hw => Hp.sublist hw (.cons _ (.cons_cons _ (.cons_cons _ .slnil))))
    · rw [bif_neg h26] at hL1
      have q27 := (of_decide_eq_false h26)
      refine TC.exit ?_
      refine TN.thenE ?_
      refine TN.thenE ?_
      rw [← hL1, elim_next] at hF
      try dsimp only at hF
      refine TN.blockH ?_
      refine TN.seq ?_
      refine TC.seq ?_
      refine TC.region ?_
      refine TL.op (yq (y_move (ev_t rfl))) rfl rfl rfl ?_
      refine TL.op (yq (y_move (ev_t rfl))) rfl rfl rfl ?_
      refine TL.op (yq (y_assign (ev_t rfl))) rfl rfl rfl ?_
      refine TL.op (yq (y_assign (ev_t rfl))) rfl rfl rfl ?_
      refine TL.op (yq (y_assign ev_c)) rfl rfl rfl ?_
      refine TL.nil ?_
      refine TN.seq ?_
      refine TC.ret ?_
      subst hF
      exact TN.ret3 rfl (ev_t rfl) (ev_t rfl) (ev_t rfl) (fun w' hw => ⟨r3_1, rfl, Hp.sublist hw (.cons_cons _ (.cons _ .slnil))⟩)

end Go.Proofs.Ytcmhgkcifejgcaa
namespace Go.Proofs.Ytcmhgkcifejgcaa
set_option linter.unusedVariables false
set_option linter.unusedSimpArgs false
open Go Go.RowKit
set_option linter.unusedVariables false

set_option maxRecDepth 4000 in
set_option maxHeartbeats 1000000 in
theorem spec_l6Edges_ok (w : World) (vm : Value) (um : List Value) (m : List (List Int)) (hm : RII w vm um m) (hp0 : Tab m) :
    Calls Try.prog 128 ([(.agg #[vm])] : List Value).toArray w (fun e w' => ∃ i : Value, e = .returned i ∧ Hp w [rowP 85 i (F_spec_l6Edges m)] w') := by
  obtain ⟨rz, hF⟩ : ∃ rz, (F_spec_l6Edges m) = rz := ⟨_, rfl⟩
  rw [hF]
  unfold F_spec_l6Edges at hF
  have hn6 := hp0.n6
  have hlen_m := argT_len hm
  refine calls_tc Try.func128 rfl rfl rfl ?_
  change TC _ _ _ _ (Hp w []) [(0, (.agg #[vm]))]
  refine TC.seq ?_
  refine TC.region ?_
  refine TL.box (ev_t rfl) rfl (fun g0_0 => ?_)
  refine TL.op (yq (y_assign ev_c)) rfl rfl rfl ?_
  refine TL.nil ?_
  refine TN.seq ?_
  refine TC.seq ?_
  refine TC.region ?_
  refine TL.buildP (zs := []) (ps := ([] : List (Int × Int))) slT_37 rfl trivial rfl (by decide) rfl (fun v1_0 => ?_)
  refine TL.op (yq (y_assign (ev_t rfl))) rfl rfl rfl ?_
  refine TL.nil ?_
  refine TN.seq ?_
  refine TC.seq ?_
  refine TC.seq ?_
  refine TC.region ?_
  refine TL.op (yq (y_assign ev_c)) rfl rfl rfl ?_
  refine TL.nil ?_
  refine TN.seq ?_
  refine TC.block ?_
  obtain ⟨c39, hc40⟩ : ∃ c, F_spec_l6Edges_L1 m ((100 - 1) + 1) (([] : List (Int × Int)), 1) = c := ⟨_, rfl⟩
  rw [hc40] at hF
  refine TC.loop (ι := Nat × List (Int × Int) × Nat × Value) (fun (fu1, out1, d1, vout1) => [(1, (.pointer (some ⟨g0_0, 0, none⟩))), (3, vout1), (4, (.int .i64 (d1 : Int)))]) (fun (fu1, out1, d1, vout1) => Hp w [rowP 85 vout1 out1, .blk g0_0 55 [vm]]) (fun (fu1, out1, d1, vout1) => (1 ≤ d1 ∧ d1 ≤ 100) ∧ (out1.length ≤ 40 * d1) ∧ 100 - d1 < fu1 ∧ F_spec_l6Edges_L1 m fu1 (out1, d1) = c39) (fun (fu1, out1, d1, vout1) => fu1) ((100 - 1) + 1, ([] : List (Int × Int)), 1, v1_0) ⟨(by first | omega | (simp [-List.getD_eq_getElem?_getD] <;> omega)), (by first | omega | (simp [-List.getD_eq_getElem?_getD] <;> omega)), (by omega), hc40⟩ ⟨rfl, rfl, rfl, trivial⟩ (fun w hw => hw) ?_
  rintro ⟨fu1, out1, d1, vout1⟩ hJ1
  obtain ⟨hi1_0, hi1_1, hmu1, hL1⟩ : (1 ≤ d1 ∧ d1 ≤ 100) ∧ (out1.length ≤ 40 * d1) ∧ 100 - d1 < fu1 ∧ F_spec_l6Edges_L1 m fu1 (out1, d1) = c39 := hJ1
  change TC _ _ _ _ (Hp w [rowP 85 vout1 out1, .blk g0_0 55 [vm]]) [(1, (.pointer (some ⟨g0_0, 0, none⟩))), (3, vout1), (4, (.int .i64 (d1 : Int)))]
  obtain ⟨mf1, rfl⟩ : ∃ m, fu1 = m + 1 := ⟨fu1 - 1, by omega⟩
  rw [F_spec_l6Edges_L1_s] at hL1
  refine TC.seq ?_
  refine TC.seq ?_
  refine TC.region ?_
  refine TL.op (yq (y_move (ev_t rfl))) rfl rfl rfl ?_
  refine TL.op (yq (y_leq (ev_t rfl) ev_c)) rfl rfl rfl ?_
  refine TL.nil ?_
  refine TN.seq ?_
  refine TC.cond (b := decide ((d1 : Int) ≤ 99)) (ev_t rfl) (fun h41 => ?_) (fun h41 => ?_)
  · rw [bif_pos h41] at hL1
    have q42 := (of_decide_eq_true h41)
    refine TC.skip ?_
    refine TN.seq ?_
    refine TC.seq ?_
    refine TC.block ?_
    refine TC.seq ?_
    refine TC.region ?_
    refine TL.op (yq (y_assign ev_c)) rfl rfl rfl ?_
    refine TL.nil ?_
    refine TN.seq ?_
    refine TC.block ?_
    obtain ⟨c43, hc44⟩ : ∃ c, F_spec_l6Edges_L2 m d1 ((m.length - 0) + 1) (out1, 0) = c := ⟨_, rfl⟩
    rw [hc44] at hL1
    refine TC.loop (ι := Nat × List (Int × Int) × Nat × Value) (fun (fu2, out2, x2, vout2) => [(1, (.pointer (some ⟨g0_0, 0, none⟩))), (3, vout2), (4, (.int .i64 (d1 : Int))), (5, (.int .i64 (x2 : Int)))]) (fun (fu2, out2, x2, vout2) => Hp w [rowP 85 vout2 out2, .blk g0_0 55 [vm]]) (fun (fu2, out2, x2, vout2) => (x2 ≤ m.length) ∧ (out2.length ≤ 40 * d1 + 6 * x2) ∧ m.length - x2 < fu2 ∧ F_spec_l6Edges_L2 m d1 fu2 (out2, x2) = c43) (fun (fu2, out2, x2, vout2) => fu2) ((m.length - 0) + 1, out1, 0, vout1) ⟨(by first | omega | (simp [-List.getD_eq_getElem?_getD] <;> omega)), (by first | omega | (simp [-List.getD_eq_getElem?_getD] <;> omega)), (by omega), hc44⟩ ⟨rfl, rfl, rfl, rfl, trivial⟩ (fun w hw => hw) ?_
    rintro ⟨fu2, out2, x2, vout2⟩ hJ2
    obtain ⟨hi2_0, hi2_1, hmu2, hL2⟩ : (x2 ≤ m.length) ∧ (out2.length ≤ 40 * d1 + 6 * x2) ∧ m.length - x2 < fu2 ∧ F_spec_l6Edges_L2 m d1 fu2 (out2, x2) = c43 := hJ2
    change TC _ _ _ _ (Hp w [rowP 85 vout2 out2, .blk g0_0 55 [vm]]) [(1, (.pointer (some ⟨g0_0, 0, none⟩))), (3, vout2), (4, (.int .i64 (d1 : Int))), (5, (.int .i64 (x2 : Int)))]
    obtain ⟨mf2, rfl⟩ : ∃ m, fu2 = m + 1 := ⟨fu2 - 1, by omega⟩
    rw [F_spec_l6Edges_L2_s] at hL2
    have hrw := hp0.rows x2
    refine TC.seq ?_
    refine TC.seq ?_
    refine TC.region ?_
    refine TL.op (yq (y_move (ev_t rfl))) rfl rfl rfl ?_
    refine TL.op (yq (y_fa (fa_55_0 g0_0) (ev_t rfl))) rfl rfl rfl ?_
    refine TL.op (yq (y_ldb 1 (ev_t rfl) one_49 rfl rfl)) rfl rfl rfl ?_
    refine TL.op (yq (y_len (ev_t rfl) Try.underlying49 (fun w hw => ((fun w hw => ((rii_arg hm) w hw).1) w hw).ln))) rfl rfl rfl ?_
    refine TL.op (yq (y_lss (ev_t rfl) (ev_t rfl))) rfl rfl rfl ?_
    refine TL.nil ?_
    refine TN.seq ?_
    refine TC.cond (b := decide ((x2 : Int) < (m.length : Int))) (ev_t rfl) (fun h45 => ?_) (fun h45 => ?_)
    · rw [bif_pos h45] at hL2
      have q46 := (of_decide_eq_true h45)
      refine TC.skip ?_
      refine TN.seq ?_
      refine TC.seq ?_
      refine TC.block ?_
      refine TC.seq ?_
      refine TC.region ?_
      refine TL.op (yq (y_move (ev_t rfl))) rfl rfl rfl ?_
      refine TL.op (yq (y_add (ev_t rfl) ev_c (by unfold In64; constructor <;> omega))) rfl rfl rfl ?_
      refine TL.op (yq (y_assign (ev_t rfl))) rfl rfl rfl ?_
      refine TL.nil ?_
      refine TN.seq ?_
      refine TC.block ?_
      obtain ⟨c47, hc48⟩ : ∃ c, F_spec_l6Edges_L3 m d1 x2 ((m.length - (x2 + 1)) + 1) (out2, (x2 + 1)) = c := ⟨_, rfl⟩
      rw [hc48] at hL2
      refine TC.loop (ι := Nat × List (Int × Int) × Nat × Value) (fun (fu3, out3, y3, vout3) => [(1, (.pointer (some ⟨g0_0, 0, none⟩))), (3, vout3), (4, (.int .i64 (d1 : Int))), (5, (.int .i64 (x2 : Int))), (6, (.int .i64 (y3 : Int)))]) (fun (fu3, out3, y3, vout3) => Hp w [rowP 85 vout3 out3, .blk g0_0 55 [vm]]) (fun (fu3, out3, y3, vout3) => (y3 ≤ max m.length (x2 + 1)) ∧ (out3.length ≤ 40 * d1 + 6 * x2 + y3) ∧ m.length - y3 < fu3 ∧ F_spec_l6Edges_L3 m d1 x2 fu3 (out3, y3) = c47) (fun (fu3, out3, y3, vout3) => fu3) ((m.length - (x2 + 1)) + 1, out2, (x2 + 1), vout2) ⟨(by first | omega | (simp [-List.getD_eq_getElem?_getD] <;> omega)), (by first | omega | (simp [-List.getD_eq_getElem?_getD] <;> omega)), (by omega), hc48⟩ ⟨rfl, rfl, rfl, rfl, rfl, trivial⟩ (fun w hw => hw) ?_
      rintro ⟨fu3, out3, y3, vout3⟩ hJ3
      obtain ⟨hi3_0, hi3_1, hmu3, hL3⟩ : (y3 ≤ max m.length (x2 + 1)) ∧ (out3.length ≤ 40 * d1 + 6 * x2 + y3) ∧ m.length - y3 < fu3 ∧ F_spec_l6Edges_L3 m d1 x2 fu3 (out3, y3) = c47 := hJ3
      change TC _ _ _ _ (Hp w [rowP 85 vout3 out3, .blk g0_0 55 [vm]]) [(1, (.pointer (some ⟨g0_0, 0, none⟩))), (3, vout3), (4, (.int .i64 (d1 : Int))), (5, (.int .i64 (x2 : Int))), (6, (.int .i64 (y3 : Int)))]
      obtain ⟨mf3, rfl⟩ : ∃ m, fu3 = m + 1 := ⟨fu3 - 1, by omega⟩
      rw [F_spec_l6Edges_L3_s] at hL3
      refine TC.seq ?_
      refine TC.seq ?_
      refine TC.region ?_
      refine TL.op (yq (y_move (ev_t rfl))) rfl rfl rfl ?_
      refine TL.op (yq (y_fa (fa_55_0 g0_0) (ev_t rfl))) rfl rfl rfl ?_
      refine TL.op (yq (y_ldb 1 (ev_t rfl) one_49 rfl rfl)) rfl rfl rfl ?_
      refine TL.op (yq (y_len (ev_t rfl) Try.underlying49 (fun w hw => ((fun w hw => ((rii_arg hm) w hw).1) w hw).ln))) rfl rfl rfl ?_
      refine TL.op (yq (y_lss (ev_t rfl) (ev_t rfl))) rfl rfl rfl ?_
      refine TL.nil ?_
      refine TN.seq ?_
      refine TC.cond (b := decide ((y3 : Int) < (m.length : Int))) (ev_t rfl) (fun h49 => ?_) (fun h49 => ?_)
      · rw [bif_pos h49] at hL3
        have q50 := (of_decide_eq_true h49)
        refine TC.skip ?_
        refine TN.seq ?_
        refine TC.seq ?_
        refine TC.block ?_
        refine TC.seq ?_
        refine TC.region ?_
        refine TL.op (yq (y_fa (fa_55_0 g0_0) (ev_t rfl))) rfl rfl rfl ?_
        refine TL.op (yq (y_ldb 1 (ev_t rfl) one_49 rfl rfl)) rfl rfl rfl ?_
        refine TL.op (yq (y_move (ev_t rfl))) rfl rfl rfl ?_
        have hb51 : x2 < m.length := (by first | omega | (simp only [List.length_set, List.length_append, List.length_cons, List.length_nil, List.length_replicate]; omega) | (rw [sortI_length]; simp only [List.length_cons, List.length_nil]; omega))
        refine TL.op (yq (y_idx (k := x2) (ev_t rfl) (ev_t rfl) (by first | omega | simp) slT_49 (fun w hw => ((rii_arg hm) w hw).1) hb51)) rfl rfl rfl ?_
        have ha52 := hm.row (i := x2) hb51
        refine TL.op (yq (y_ldA (ev_t rfl) one_34 (rii_arg hm) hb51)) rfl rfl rfl ?_
        refine TL.op (yq (y_move (ev_t rfl))) rfl rfl rfl ?_
        have hb53 : y3 < (m.getD x2 []).length := (by first | omega | (simp only [List.length_set, List.length_append, List.length_cons, List.length_nil, List.length_replicate]; omega) | (rw [sortI_length]; simp only [List.length_cons, List.length_nil]; omega))
        refine TL.op (yq (y_idx (k := y3) (ev_t rfl) (ev_t rfl) (by first | omega | simp) slT_34 (ri_arg ha52) hb53)) rfl rfl rfl ?_
        refine TL.op (yq (y_ldi (ev_t rfl) one_3 (ri_arg ha52) hb53)) rfl rfl rfl ?_
        refine TL.op (yq (y_move (ev_t rfl))) rfl rfl rfl ?_
        refine TL.op (yq (y_eql (ev_t rfl) (ev_t rfl))) rfl rfl rfl ?_
        refine TL.nil ?_
        refine TN.seq ?_
        refine TC.cond (b := decide (((m.getD x2 []).getD y3 0) = (d1 : Int))) (ev_t rfl) (fun h54 => ?_) (fun h54 => ?_)
        · rw [bif_pos h54] at hL3
          have q55 := (of_decide_eq_true h54)
          refine TC.region ?_
          refine TL.op (yq (y_move (ev_t rfl))) rfl rfl rfl ?_
          refine TL.op (yq (y_move (ev_t rfl))) rfl rfl rfl ?_
          refine TL.op (yq (y_move (ev_t rfl))) rfl rfl rfl ?_
          refine TL.op (yq (y_bldA (ev_t rfl) (ev_t rfl) bd_85_a)) rfl rfl rfl ?_
          refine TL.buildP (zs := [.tmp 41]) (ps := [((x2 : Int), (y3 : Int))]) slT_37 rfl ⟨(ev_t rfl), trivial⟩ rfl (by decide) rfl (fun v12_4 => ?_)
          refine TL.appendP 1 (ev_t rfl) (ev_t rfl) rfl slT_37 (rp_row 0 rfl) (by first | omega | (simp [-List.getD_eq_getElem?_getD] <;> omega)) rfl (fun v12_5 => ?_)
          refine TL.op (yq (y_assign (ev_t rfl))) rfl rfl rfl ?_
          refine TL.nil ?_
          refine TN.blockN ?_
          refine TN.seq ?_
          refine TC.region ?_
          refine TL.op (yq (y_move (ev_t rfl))) rfl rfl rfl ?_
          refine TL.op (yq (y_add (ev_t rfl) ev_c (by unfold In64; constructor <;> omega))) rfl rfl rfl ?_
          refine TL.op (yq (y_assign (ev_t rfl))) rfl rfl rfl ?_
          refine TL.nil ?_
          exact TN.hand (mf3, (out3 ++ ([((x2 : Int), (y3 : Int))])), (y3 + 1), v12_5) ⟨(by first | omega | (simp [-List.getD_eq_getElem?_getD] <;> omega)), (by first | omega | (simp [-List.getD_eq_getElem?_getD] <;> omega)), (by omega), hL3⟩ (Nat.lt_succ_self _) ⟨rfl, rfl, rfl, rfl, rfl, trivial⟩ (fun w hw => Hp.sublist hw (.cons _ (.cons_cons _ (.cons_cons _ .slnil))))
        · rw [bif_neg h54] at hL3
          have q55 := (of_decide_eq_false h54)
          refine TC.skip ?_
          refine TN.blockN ?_
          refine TN.seq ?_
          refine TC.region ?_
          refine TL.op (yq (y_move (ev_t rfl))) rfl rfl rfl ?_
          refine TL.op (yq (y_add (ev_t rfl) ev_c (by unfold In64; constructor <;> omega))) rfl rfl rfl ?_
          refine TL.op (yq (y_assign (ev_t rfl))) rfl rfl rfl ?_
          refine TL.nil ?_
          exact TN.hand (mf3, out3, (y3 + 1), vout3) ⟨(by first | omega | (simp [-List.getD_eq_getElem?_getD] <;> omega)), (by first | omega | (simp [-List.getD_eq_getElem?_getD] <;> omega)), (by omega), hL3⟩ (Nat.lt_succ_self _) ⟨rfl, rfl, rfl, rfl, rfl, trivial⟩ (fun w hw => hw)
      · rw [bif_neg h49] at hL3
        have q50 := (of_decide_eq_false h49)
        refine TC.exit ?_
        refine TN.thenE ?_
        refine TN.thenE ?_
        rw [← hL3, elim_next] at hL2
        try dsimp only at hL2
        refine TN.blockH ?_
        refine TN.blockN ?_
        refine TN.seq ?_
        refine TC.region ?_
        refine TL.op (yq (y_move (ev_t rfl))) rfl rfl rfl ?_
        refine TL.op (yq (y_add (ev_t rfl) ev_c (by unfold In64; constructor <;> omega))) rfl rfl rfl ?_
        refine TL.op (yq (y_assign (ev_t rfl))) rfl rfl rfl ?_
        refine TL.nil ?_
        exact TN.hand (mf2, out3, (x2 + 1), vout3) ⟨(by first | omega | (simp [-List.getD_eq_getElem?_getD] <;> omega)), (by first | omega | (simp [-List.getD_eq_getElem?_getD] <;> omega)), (by omega), hL2⟩ (Nat.lt_succ_self _) ⟨rfl, rfl, rfl, rfl, trivial⟩ (fun w hw => hw)
    · rw [bif_neg h45] at hL2
      have q46 := (of_decide_eq_false h45)
      refine TC.exit ?_
      refine TN.thenE ?_
      refine TN.thenE ?_
      rw [← hL2, elim_next] at hL1
      try dsimp only at hL1
      refine TN.blockH ?_
      refine TN.blockN ?_
      refine TN.seq ?_
      refine TC.region ?_
      refine TL.op (yq (y_move (ev_t rfl))) rfl rfl rfl ?_
      refine TL.op (yq (y_add (ev_t rfl) ev_c (by unfold In64; constructor <;> omega))) rfl rfl rfl ?_
      refine TL.op (yq (y_assign (ev_t rfl))) rfl rfl rfl ?_
      refine TL.nil ?_
      exact TN.hand (mf1, out2, (d1 + 1), vout2) ⟨(by first | omega | (simp [-List.getD_eq_getElem?_getD] <;> omega)), (by first | omega | (simp [-List.getD_eq_getElem?_getD] <;> omega)), (by omega), hL1⟩ (Nat.lt_succ_self _) ⟨rfl, rfl, rfl, trivial⟩ (fun w hw => hw)
  · rw [bif_neg h41] at hL1
    have q42 := (of_decide_eq_false h41)
    refine TC.exit ?_
    refine TN.thenE ?_
    refine TN.thenE ?_
    rw [← hL1, elim_next] at hF
    try dsimp only at hF
    refine TN.blockH ?_
    refine TN.seq ?_
    refine TC.seq ?_
    refine TC.region ?_
    refine TL.op (yq (y_move (ev_t rfl))) rfl rfl rfl ?_
    refine TL.op (yq (y_assign (ev_t rfl))) rfl rfl rfl ?_
    refine TL.nil ?_
    refine TN.seq ?_
    refine TC.ret ?_
    subst hF
    exact TN.ret1 rfl (ev_t rfl) (fun w' hw => ⟨vout1, rfl, Hp.sublist hw (.cons_cons _ (.cons _ .slnil))⟩)

set_option maxRecDepth 4000 in
set_option maxHeartbeats 1000000 in
theorem spec_l6Side_ok (w : World) (n : Int) (vedges : Value) (edges : List (Int × Int)) (hedges : RP w vedges edges) (without : Int) (from_ : Int) (hp0 : 0 ≤ n ∧ n ≤ 6) (hp1 : edges.length ≤ 100000) (hp2 : DmA 6 edges) (hp3 : 0 ≤ from_ ∧ from_ < 6) :
    Calls Try.prog 94 ([(.int .i64 n), vedges, (.int .i64 without), (.int .i64 from_)] : List Value).toArray w (fun e w' => ∃ i : Value, e = .returned i ∧ Hp w [rowI 3 i (F_spec_l6Side n edges without from_)] w') := by
  obtain ⟨rz, hF⟩ : ∃ rz, (F_spec_l6Side n edges without from_) = rz := ⟨_, rfl⟩
  rw [hF]
  unfold F_spec_l6Side at hF
  have hlen_edges := argP_len hedges
  refine calls_tc Try.func94 rfl rfl rfl ?_
  change TC _ _ _ _ (Hp w []) [(0, (.int .i64 n)), (1, vedges), (2, (.int .i64 without)), (3, (.int .i64 from_))]
  refine TC.seq ?_
  refine TC.region ?_
  refine TL.op (yq (y_assign ev_c)) rfl rfl rfl ?_
  refine TL.nil ?_
  refine TN.seq ?_
  refine TC.seq ?_
  refine TC.region ?_
  refine TL.op (yq (y_move (ev_t rfl))) rfl rfl rfl ?_
  refine TL.buildI (zs := [.tmp 14]) (qs := [from_]) slT_34 rfl ⟨(ev_t rfl), trivial⟩ rfl (by decide) rfl (fun v1_1 => ?_)
  refine TL.op (yq (y_assign (ev_t rfl))) rfl rfl rfl ?_
  refine TL.nil ?_
  refine TN.seq ?_
  refine TC.seq ?_
  refine TC.seq ?_
  refine TC.region ?_
  refine TL.op (yq (y_assign ev_c)) rfl rfl rfl ?_
  refine TL.nil ?_
  refine TN.seq ?_
  refine TC.block ?_
  obtain ⟨c70, hc71⟩ : ∃ c, F_spec_l6Side_L1 edges without ((6 - 0) + 1) (([from_]), 0) = c := ⟨_, rfl⟩
  rw [hc71] at hF
  refine TC.loop (ι := Nat × List Int × Nat × Value) (fun (fu1, k9_1, k10_1, vk9_1) => [(0, (.int .i64 n)), (1, vedges), (2, (.int .i64 without)), (9, vk9_1), (10, (.int .i64 (k10_1 : Int)))]) (fun (fu1, k9_1, k10_1, vk9_1) => Hp w [rowI 3 vk9_1 k9_1]) (fun (fu1, k9_1, k10_1, vk9_1) => (k10_1 ≤ k9_1.length) ∧ (Dn k9_1) ∧ 6 - k10_1 < fu1 ∧ F_spec_l6Side_L1 edges without fu1 (k9_1, k10_1) = c70) (fun (fu1, k9_1, k10_1, vk9_1) => fu1) ((6 - 0) + 1, [from_], 0, v1_1) ⟨(by first | omega | (simp [-List.getD_eq_getElem?_getD] <;> omega)), (Dn.one hp3), (by omega), hc71⟩ ⟨rfl, rfl, rfl, rfl, rfl, trivial⟩ (fun w hw => hw) ?_
  rintro ⟨fu1, k9_1, k10_1, vk9_1⟩ hJ1
  obtain ⟨hi1_0, hi1_1, hmu1, hL1⟩ : (k10_1 ≤ k9_1.length) ∧ (Dn k9_1) ∧ 6 - k10_1 < fu1 ∧ F_spec_l6Side_L1 edges without fu1 (k9_1, k10_1) = c70 := hJ1
  change TC _ _ _ _ (Hp w [rowI 3 vk9_1 k9_1]) [(0, (.int .i64 n)), (1, vedges), (2, (.int .i64 without)), (9, vk9_1), (10, (.int .i64 (k10_1 : Int)))]
  obtain ⟨mf1, rfl⟩ : ∃ m, fu1 = m + 1 := ⟨fu1 - 1, by omega⟩
  rw [F_spec_l6Side_L1_s] at hL1
  have hdl := hi1_1.len
  refine TC.seq ?_
  refine TC.seq ?_
  refine TC.region ?_
  refine TL.op (yq (y_move (ev_t rfl))) rfl rfl rfl ?_
  refine TL.op (yq (y_move (ev_t rfl))) rfl rfl rfl ?_
  refine TL.op (yq (y_len (ev_t rfl) Try.underlying34 (fun w hw => ((ri_row 0 rfl) w hw).ln))) rfl rfl rfl ?_
  refine TL.op (yq (y_lss (ev_t rfl) (ev_t rfl))) rfl rfl rfl ?_
  refine TL.nil ?_
  refine TN.seq ?_
  refine TC.cond (b := decide ((k10_1 : Int) < (k9_1.length : Int))) (ev_t rfl) (fun h72 => ?_) (fun h72 => ?_)
  · rw [bif_pos h72] at hL1
    have q73 := (of_decide_eq_true h72)
    refine TC.skip ?_
    refine TN.seq ?_
    refine TC.seq ?_
    refine TC.block ?_
    refine TC.seq ?_
    refine TC.region ?_
    refine TL.op (yq (y_assign ev_c)) rfl rfl rfl ?_
    refine TL.nil ?_
    refine TN.seq ?_
    refine TC.block ?_
    obtain ⟨c74, hc75⟩ : ∃ c, F_spec_l6Side_L2 edges without k10_1 ((edges.length - 0) + 1) (k9_1, 0) = c := ⟨_, rfl⟩
    rw [hc75] at hL1
    refine TC.loop (ι := Nat × List Int × Nat × Value) (fun (fu2, k9_2, k11_2, vk9_2) => [(0, (.int .i64 n)), (1, vedges), (2, (.int .i64 without)), (9, vk9_2), (10, (.int .i64 (k10_1 : Int))), (11, (.int .i64 (k11_2 : Int)))]) (fun (fu2, k9_2, k11_2, vk9_2) => Hp w [rowI 3 vk9_2 k9_2]) (fun (fu2, k9_2, k11_2, vk9_2) => (k11_2 ≤ edges.length) ∧ (k9_1.length ≤ k9_2.length) ∧ (Dn k9_2) ∧ edges.length - k11_2 < fu2 ∧ F_spec_l6Side_L2 edges without k10_1 fu2 (k9_2, k11_2) = c74) (fun (fu2, k9_2, k11_2, vk9_2) => fu2) ((edges.length - 0) + 1, k9_1, 0, vk9_1) ⟨(by first | omega | (simp [-List.getD_eq_getElem?_getD] <;> omega)), (by first | omega | (simp [-List.getD_eq_getElem?_getD] <;> omega)), hi1_1, (by omega), hc75⟩ ⟨rfl, rfl, rfl, rfl, rfl, rfl, trivial⟩ (fun w hw => hw) ?_
    rintro ⟨fu2, k9_2, k11_2, vk9_2⟩ hJ2
    obtain ⟨hi2_0, hi2_1, hi2_2, hmu2, hL2⟩ : (k11_2 ≤ edges.length) ∧ (k9_1.length ≤ k9_2.length) ∧ (Dn k9_2) ∧ edges.length - k11_2 < fu2 ∧ F_spec_l6Side_L2 edges without k10_1 fu2 (k9_2, k11_2) = c74 := hJ2
    change TC _ _ _ _ (Hp w [rowI 3 vk9_2 k9_2]) [(0, (.int .i64 n)), (1, vedges), (2, (.int .i64 without)), (9, vk9_2), (10, (.int .i64 (k10_1 : Int))), (11, (.int .i64 (k11_2 : Int)))]
    obtain ⟨mf2, rfl⟩ : ∃ m, fu2 = m + 1 := ⟨fu2 - 1, by omega⟩
    rw [F_spec_l6Side_L2_s] at hL2
    have hpe := (hp2 k11_2).p
    have hdl2 := hi2_2.len
    refine TC.seq ?_
    refine TC.seq ?_
    refine TC.region ?_
    refine TL.op (yq (y_move (ev_t rfl))) rfl rfl rfl ?_
    refine TL.op (yq (y_move (ev_t rfl))) rfl rfl rfl ?_
    refine TL.op (yq (y_len (ev_t rfl) Try.underlying37 (fun w hw => ((rp_arg hedges) w hw).ln))) rfl rfl rfl ?_
    refine TL.op (yq (y_lss (ev_t rfl) (ev_t rfl))) rfl rfl rfl ?_
    refine TL.nil ?_
    refine TN.seq ?_
    refine TC.cond (b := decide ((k11_2 : Int) < (edges.length : Int))) (ev_t rfl) (fun h76 => ?_) (fun h76 => ?_)
    · rw [bif_pos h76] at hL2
      have q77 := (of_decide_eq_true h76)
      refine TC.skip ?_
      refine TN.seq ?_
      refine TC.seq ?_
      refine TC.block ?_
      refine TC.seq ?_
      refine TC.seq ?_
      refine TC.region ?_
      refine TL.op (yq (y_move (ev_t rfl))) rfl rfl rfl ?_
      refine TL.op (yq (y_move (ev_t rfl))) rfl rfl rfl ?_
      refine TL.op (yq (y_eql (ev_t rfl) (ev_t rfl))) rfl rfl rfl ?_
      refine TL.nil ?_
      refine TN.seq ?_
      refine TC.cond (b := decide ((k11_2 : Int) = without)) (ev_t rfl) (fun h78 => ?_) (fun h78 => ?_)
      · rw [bif_pos h78] at hL2
        have q79 := (of_decide_eq_true h78)
        refine TC.exit ?_
        refine TN.thenE ?_
        refine TN.blockH ?_
        refine TN.seq ?_
        refine TC.region ?_
        refine TL.op (yq (y_move (ev_t rfl))) rfl rfl rfl ?_
        refine TL.op (yq (y_add (ev_t rfl) ev_c (by unfold In64; constructor <;> omega))) rfl rfl rfl ?_
        refine TL.op (yq (y_assign (ev_t rfl))) rfl rfl rfl ?_
        refine TL.nil ?_
        exact TN.hand (mf2, k9_2, (k11_2 + 1), vk9_2) ⟨(by first | omega | (simp [-List.getD_eq_getElem?_getD] <;> omega)), (by first | omega | (simp [-List.getD_eq_getElem?_getD] <;> omega)), (by first | exact hi2_2 | exact hd1 | exact hd1.app hpe.1 (st_nm hq78.2) | exact hi2_2.app hpe.1 (st_nm hq78.2)), (by omega), hL2⟩ (Nat.lt_succ_self _) ⟨rfl, rfl, rfl, rfl, rfl, rfl, trivial⟩ (fun w hw => hw)
      · rw [bif_neg h78] at hL2
        have q79 := (of_decide_eq_false h78)
        refine TC.skip ?_
        refine TN.seq ?_
        refine TC.seq ?_
        refine TC.seq ?_
        refine TC.regionQ (by kernel_rfl) (by kernel_rfl) dr_hp ?_
        refine TQ.op (yq (y_move (ev_t rfl))) rfl rfl rfl ?_
        refine TQ.op (yq (y_move (ev_t rfl))) rfl rfl rfl ?_
        have hb80 : k11_2 < edges.length := (by first | omega | (simp only [List.length_set, List.length_append, List.length_cons, List.length_nil, List.length_replicate]; omega) | (rw [sortI_length]; simp only [List.length_cons, List.length_nil]; omega))
        refine TQ.op (yq (y_idx (k := k11_2) (ev_t rfl) (ev_t rfl) (by first | omega | simp) slT_37 (rp_arg hedges) hb80)) rfl rfl rfl ?_
        refine TQ.op (yq (y_ixa (c := 0) (ev_t rfl) ev_c rfl arT_85 (rp_arg hedges) hb80 (by decide))) rfl rfl rfl ?_
        refine TQ.op (yq (y_ldp1 (ev_t rfl) one_3 (rp_arg hedges) hb80)) rfl rfl rfl ?_
        refine TQ.op (yq (y_move (ev_t rfl))) rfl rfl rfl ?_
        refine TQ.op (yq (y_move (ev_t rfl))) rfl rfl rfl ?_
        have hb81 : k10_1 < k9_2.length := (by first | omega | (simp only [List.length_set, List.length_append, List.length_cons, List.length_nil, List.length_replicate]; omega) | (rw [sortI_length]; simp only [List.length_cons, List.length_nil]; omega))
        refine TQ.op (yq (y_idx (k := k10_1) (ev_t rfl) (ev_t rfl) (by first | omega | simp) slT_34 (ri_row 0 rfl) hb81)) rfl rfl rfl ?_
        refine TQ.op (yq (y_ldi (ev_t rfl) one_3 (ri_row 0 rfl) hb81)) rfl rfl rfl ?_
        refine TQ.op (yq (y_eql (ev_t rfl) (ev_t rfl))) rfl rfl rfl ?_
        refine TQ.op (yq (y_move (ev_t rfl))) rfl rfl rfl ?_
        refine TQ.opw (w_t rfl rfl rfl) (fun hg => yq (y_move (ev_t rfl))) rfl rfl ?_
        refine TQ.opw (w_t rfl rfl rfl) (fun hg => yq (y_move (ev_t rfl))) rfl rfl ?_
        refine TQ.opw (w_t rfl rfl rfl) (fun hg => yq (y_move (ev_t rfl))) rfl rfl ?_
        refine TQ.opw (w_t rfl rfl rfl) (fun hg => yq (y_idx (k := k11_2) (ev_g rfl hg) (ev_g rfl hg) (by have hgf := (of_decide_eq_true hg); first | omega | simp) slT_37 (rp_arg hedges) (show k11_2 < edges.length by have hgf := (of_decide_eq_true hg); omega))) rfl rfl ?_
        refine TQ.opw (w_t rfl rfl rfl) (fun hg => yq (y_ixa (c := 1) (ev_g rfl hg) ev_c rfl arT_85 (rp_arg hedges) (show k11_2 < edges.length by have hgf := (of_decide_eq_true hg); omega) (by decide))) rfl rfl ?_
        refine TQ.opw (w_t rfl rfl rfl) (fun hg => yq (y_ldp2 (ev_g rfl hg) one_3 (rp_arg hedges) (show k11_2 < edges.length by have hgf := (of_decide_eq_true hg); omega))) rfl rfl ?_
        refine TQ.opw (w_t rfl rfl rfl) (fun hg => y_call (vs := [vk9_2, (.int .i64 ((edges.getD k11_2 (0, 0)).2))]) (v := (.bool (F_spec_l1Has k9_2 ((edges.getD k11_2 (0, 0)).2)))) en_104 ⟨(ev_g rfl hg), (ev_g rfl hg), trivial⟩ (fun w hw => spec_l1Has_ok w vk9_2 k9_2 ((ri_row 0 rfl) w hw) ((edges.getD k11_2 (0, 0)).2))) rfl rfl ?_
        refine TQ.opw (w_t rfl rfl rfl) (fun hg => yq (y_not (ev_g rfl hg))) rfl rfl ?_
        refine TQ.op (yq (y_and (ev_t rfl) (fun hq => (ev_g rfl hq)))) rfl rfl rfl ?_
        refine TQ.nil ?_
        refine TN.seq ?_
        refine TC.cond (b := ((decide ((edges.getD k11_2 (0, 0)).1 = (k9_2.getD k10_1 0))) && (!(F_spec_l1Has k9_2 ((edges.getD k11_2 (0, 0)).2))))) (ev_t rfl) (fun h82 => ?_) (fun h82 => ?_)
        · rw [bif_pos h82] at hL2
          have q83 := (and_imp (and_t h82) (fun h => (of_decide_eq_true h)) (fun h => (l1Has_f (not_t h))))
          have hd1 := hi2_2.app hpe.2 (st_nm q83.2)
          have hl1 : (k9_2 ++ [(edges.getD k11_2 (0, 0)).2]).length = k9_2.length + 1 := by simp
          refine TC.region ?_
          refine TL.op (yq (y_move (ev_t rfl))) rfl rfl rfl ?_
          refine TL.op (yq (y_move (ev_t rfl))) rfl rfl rfl ?_
          refine TL.op (yq (y_move (ev_t rfl))) rfl rfl rfl ?_
          have hb84 : k11_2 < edges.length := (by first | omega | (simp only [List.length_set, List.length_append, List.length_cons, List.length_nil, List.length_replicate]; omega) | (rw [sortI_length]; simp only [List.length_cons, List.length_nil]; omega))
          refine TL.op (yq (y_idx (k := k11_2) (ev_t rfl) (ev_t rfl) (by first | omega | simp) slT_37 (rp_arg hedges) hb84)) rfl rfl rfl ?_
          refine TL.op (yq (y_ixa (c := 1) (ev_t rfl) ev_c rfl arT_85 (rp_arg hedges) hb84 (by decide))) rfl rfl rfl ?_
          refine TL.op (yq (y_ldp2 (ev_t rfl) one_3 (rp_arg hedges) hb84)) rfl rfl rfl ?_
          refine TL.buildI (zs := [.tmp 56]) (qs := [(edges.getD k11_2 (0, 0)).2]) slT_34 rfl ⟨(ev_t rfl), trivial⟩ rfl (by decide) rfl (fun v10_6 => ?_)
          refine TL.appendI 1 (ev_t rfl) (ev_t rfl) rfl slT_34 (ri_row 0 rfl) (by first | omega | (simp [-List.getD_eq_getElem?_getD] <;> omega)) rfl (fun v10_7 => ?_)
          refine TL.op (yq (y_assign (ev_t rfl))) rfl rfl rfl ?_
          refine TL.nil ?_
          refine TN.seq ?_
          refine TC.seq ?_
          refine TC.regionQ (by kernel_rfl) (by kernel_rfl) dr_hp ?_
          refine TQ.op (yq (y_move (ev_t rfl))) rfl rfl rfl ?_
          refine TQ.op (yq (y_move (ev_t rfl))) rfl rfl rfl ?_
          have hb85 : k11_2 < edges.length := (by first | omega | (simp only [List.length_set, List.length_append, List.length_cons, List.length_nil, List.length_replicate]; omega) | (rw [sortI_length]; simp only [List.length_cons, List.length_nil]; omega))
          refine TQ.op (yq (y_idx (k := k11_2) (ev_t rfl) (ev_t rfl) (by first | omega | simp) slT_37 (rp_arg hedges) hb85)) rfl rfl rfl ?_
          refine TQ.op (yq (y_ixa (c := 1) (ev_t rfl) ev_c rfl arT_85 (rp_arg hedges) hb85 (by decide))) rfl rfl rfl ?_
          refine TQ.op (yq (y_ldp2 (ev_t rfl) one_3 (rp_arg hedges) hb85)) rfl rfl rfl ?_
          refine TQ.op (yq (y_move (ev_t rfl))) rfl rfl rfl ?_
          refine TQ.op (yq (y_move (ev_t rfl))) rfl rfl rfl ?_
          have hb86 : k10_1 < (k9_2 ++ ([(edges.getD k11_2 (0, 0)).2])).length := (by first | (simp only [List.length_set, List.length_append, List.length_cons, List.length_nil, List.length_replicate]; omega) | omega | (rw [sortI_length]; simp only [List.length_cons, List.length_nil]; omega))
          refine TQ.op (yq (y_idx (k := k10_1) (ev_t rfl) (ev_t rfl) (by first | omega | simp) slT_34 (ri_row 1 rfl) hb86)) rfl rfl rfl ?_
          refine TQ.op (yq (y_ldi (ev_t rfl) one_3 (ri_row 1 rfl) hb86)) rfl rfl rfl ?_
          refine TQ.op (yq (y_eql (ev_t rfl) (ev_t rfl))) rfl rfl rfl ?_
          refine TQ.op (yq (y_move (ev_t rfl))) rfl rfl rfl ?_
          refine TQ.opw (w_t rfl rfl rfl) (fun hg => yq (y_move (ev_t rfl))) rfl rfl ?_
          refine TQ.opw (w_t rfl rfl rfl) (fun hg => yq (y_move (ev_t rfl))) rfl rfl ?_
          refine TQ.opw (w_t rfl rfl rfl) (fun hg => yq (y_move (ev_t rfl))) rfl rfl ?_
          refine TQ.opw (w_t rfl rfl rfl) (fun hg => yq (y_idx (k := k11_2) (ev_g rfl hg) (ev_g rfl hg) (by have hgf := (of_decide_eq_true hg); first | omega | simp) slT_37 (rp_arg hedges) (show k11_2 < edges.length by have hgf := (of_decide_eq_true hg); omega))) rfl rfl ?_
          refine TQ.opw (w_t rfl rfl rfl) (fun hg => yq (y_ixa (c := 0) (ev_g rfl hg) ev_c rfl arT_85 (rp_arg hedges) (show k11_2 < edges.length by have hgf := (of_decide_eq_true hg); omega) (by decide))) rfl rfl ?_
          refine TQ.opw (w_t rfl rfl rfl) (fun hg => yq (y_ldp1 (ev_g rfl hg) one_3 (rp_arg hedges) (show k11_2 < edges.length by have hgf := (of_decide_eq_true hg); omega))) rfl rfl ?_
          refine TQ.opw (w_t rfl rfl rfl) (fun hg => y_call (vs := [v10_7, (.int .i64 ((edges.getD k11_2 (0, 0)).1))]) (v := (.bool (F_spec_l1Has (k9_2 ++ ([(edges.getD k11_2 (0, 0)).2])) ((edges.getD k11_2 (0, 0)).1)))) en_104 ⟨(ev_g rfl hg), (ev_g rfl hg), trivial⟩ (fun w hw => spec_l1Has_ok w v10_7 (k9_2 ++ ([(edges.getD k11_2 (0, 0)).2])) ((ri_row 1 rfl) w hw) ((edges.getD k11_2 (0, 0)).1))) rfl rfl ?_
          refine TQ.opw (w_t rfl rfl rfl) (fun hg => yq (y_not (ev_g rfl hg))) rfl rfl ?_
          refine TQ.op (yq (y_and (ev_t rfl) (fun hq => (ev_g rfl hq)))) rfl rfl rfl ?_
          refine TQ.nil ?_
          refine TN.seq ?_
          refine TC.cond (b := ((decide ((edges.getD k11_2 (0, 0)).2 = ((k9_2 ++ ([(edges.getD k11_2 (0, 0)).2])).getD k10_1 0))) && (!(F_spec_l1Has (k9_2 ++ ([(edges.getD k11_2 (0, 0)).2])) ((edges.getD k11_2 (0, 0)).1))))) (ev_t rfl) (fun h87 => ?_) (fun h87 => ?_)
          · rw [bif_pos h87] at hL2
            have q88 := (and_imp (and_t h87) (fun h => (of_decide_eq_true h)) (fun h => (l1Has_f (not_t h))))
            have hq78 := q88
            refine TC.region ?_
            refine TL.op (yq (y_move (ev_t rfl))) rfl rfl rfl ?_
            refine TL.op (yq (y_move (ev_t rfl))) rfl rfl rfl ?_
            refine TL.op (yq (y_move (ev_t rfl))) rfl rfl rfl ?_
            have hb89 : k11_2 < edges.length := (by first | omega | (simp only [List.length_set, List.length_append, List.length_cons, List.length_nil, List.length_replicate]; omega) | (rw [sortI_length]; simp only [List.length_cons, List.length_nil]; omega))
            refine TL.op (yq (y_idx (k := k11_2) (ev_t rfl) (ev_t rfl) (by first | omega | simp) slT_37 (rp_arg hedges) hb89)) rfl rfl rfl ?_
            refine TL.op (yq (y_ixa (c := 0) (ev_t rfl) ev_c rfl arT_85 (rp_arg hedges) hb89 (by decide))) rfl rfl rfl ?_
            refine TL.op (yq (y_ldp1 (ev_t rfl) one_3 (rp_arg hedges) hb89)) rfl rfl rfl ?_
            refine TL.buildI (zs := [.tmp 84]) (qs := [(edges.getD k11_2 (0, 0)).1]) slT_34 rfl ⟨(ev_t rfl), trivial⟩ rfl (by decide) rfl (fun v12_6 => ?_)
            refine TL.appendI 2 (ev_t rfl) (ev_t rfl) rfl slT_34 (ri_row 0 rfl) (by first | omega | (simp [-List.getD_eq_getElem?_getD] <;> omega)) rfl (fun v12_7 => ?_)
            refine TL.op (yq (y_assign (ev_t rfl))) rfl rfl rfl ?_
            refine TL.nil ?_
            refine TN.blockN ?_
            refine TN.seq ?_
            refine TC.region ?_
            refine TL.op (yq (y_move (ev_t rfl))) rfl rfl rfl ?_
            refine TL.op (yq (y_add (ev_t rfl) ev_c (by unfold In64; constructor <;> omega))) rfl rfl rfl ?_
            refine TL.op (yq (y_assign (ev_t rfl))) rfl rfl rfl ?_
            refine TL.nil ?_
            exact TN.hand (mf2, ((k9_2 ++ ([(edges.getD k11_2 (0, 0)).2])) ++ ([(edges.getD k11_2 (0, 0)).1])), (k11_2 + 1), v12_7) ⟨(by first | omega | (simp [-List.getD_eq_getElem?_getD] <;> omega)), (by first | omega | (simp [-List.getD_eq_getElem?_getD] <;> omega)), (by first | exact hi2_2 | exact hd1 | exact hd1.app hpe.1 (st_nm hq78.2) | exact hi2_2.app hpe.1 (st_nm hq78.2)), (by omega), hL2⟩ (Nat.lt_succ_self _) ⟨rfl, rfl, rfl, rfl, rfl, rfl, trivial⟩ (fun w hw => Hp.sublist hw (.cons _ (.cons _ (.cons_cons _ .slnil))))
          · rw [bif_neg h87] at hL2
            have q88 := ((and_f h87).imp (fun h => (of_decide_eq_false h)) (fun h => (not_f h)))
            refine TC.skip ?_
            refine TN.blockN ?_
            refine TN.seq ?_
            refine TC.region ?_
            refine TL.op (yq (y_move (ev_t rfl))) rfl rfl rfl ?_
            refine TL.op (yq (y_add (ev_t rfl) ev_c (by unfold In64; constructor <;> omega))) rfl rfl rfl ?_
            refine TL.op (yq (y_assign (ev_t rfl))) rfl rfl rfl ?_
            refine TL.nil ?_
            exact TN.hand (mf2, (k9_2 ++ ([(edges.getD k11_2 (0, 0)).2])), (k11_2 + 1), v10_7) ⟨(by first | omega | (simp [-List.getD_eq_getElem?_getD] <;> omega)), (by first | omega | (simp [-List.getD_eq_getElem?_getD] <;> omega)), (by first | exact hi2_2 | exact hd1 | exact hd1.app hpe.1 (st_nm hq78.2) | exact hi2_2.app hpe.1 (st_nm hq78.2)), (by omega), hL2⟩ (Nat.lt_succ_self _) ⟨rfl, rfl, rfl, rfl, rfl, rfl, trivial⟩ (fun w hw => Hp.sublist hw (.cons _ (.cons_cons _ .slnil)))
        · rw [bif_neg h82] at hL2
          have q83 := ((and_f h82).imp (fun h => (of_decide_eq_false h)) (fun h => (not_f h)))
          refine TC.skip ?_
          refine TN.seq ?_
          refine TC.seq ?_
          refine TC.regionQ (by kernel_rfl) (by kernel_rfl) dr_hp ?_
          refine TQ.op (yq (y_move (ev_t rfl))) rfl rfl rfl ?_
          refine TQ.op (yq (y_move (ev_t rfl))) rfl rfl rfl ?_
          have hb90 : k11_2 < edges.length := (by first | omega | (simp only [List.length_set, List.length_append, List.length_cons, List.length_nil, List.length_replicate]; omega) | (rw [sortI_length]; simp only [List.length_cons, List.length_nil]; omega))
          refine TQ.op (yq (y_idx (k := k11_2) (ev_t rfl) (ev_t rfl) (by first | omega | simp) slT_37 (rp_arg hedges) hb90)) rfl rfl rfl ?_
          refine TQ.op (yq (y_ixa (c := 1) (ev_t rfl) ev_c rfl arT_85 (rp_arg hedges) hb90 (by decide))) rfl rfl rfl ?_
          refine TQ.op (yq (y_ldp2 (ev_t rfl) one_3 (rp_arg hedges) hb90)) rfl rfl rfl ?_
          refine TQ.op (yq (y_move (ev_t rfl))) rfl rfl rfl ?_
          refine TQ.op (yq (y_move (ev_t rfl))) rfl rfl rfl ?_
          have hb91 : k10_1 < k9_2.length := (by first | omega | (simp only [List.length_set, List.length_append, List.length_cons, List.length_nil, List.length_replicate]; omega) | (rw [sortI_length]; simp only [List.length_cons, List.length_nil]; omega))
          refine TQ.op (yq (y_idx (k := k10_1) (ev_t rfl) (ev_t rfl) (by first | omega | simp) slT_34 (ri_row 0 rfl) hb91)) rfl rfl rfl ?_
          refine TQ.op (yq (y_ldi (ev_t rfl) one_3 (ri_row 0 rfl) hb91)) rfl rfl rfl ?_
          refine TQ.op (yq (y_eql (ev_t rfl) (ev_t rfl))) rfl rfl rfl ?_
          refine TQ.op (yq (y_move (ev_t rfl))) rfl rfl rfl ?_
          refine TQ.opw (w_t rfl rfl rfl) (fun hg => yq (y_move (ev_t rfl))) rfl rfl ?_
          refine TQ.opw (w_t rfl rfl rfl) (fun hg => yq (y_move (ev_t rfl))) rfl rfl ?_
          refine TQ.opw (w_t rfl rfl rfl) (fun hg => yq (y_move (ev_t rfl))) rfl rfl ?_
          refine TQ.opw (w_t rfl rfl rfl) (fun hg => yq (y_idx (k := k11_2) (ev_g rfl hg) (ev_g rfl hg) (by have hgf := (of_decide_eq_true hg); first | omega | simp) slT_37 (rp_arg hedges) (show k11_2 < edges.length by have hgf := (of_decide_eq_true hg); omega))) rfl rfl ?_
          refine TQ.opw (w_t rfl rfl rfl) (fun hg => yq (y_ixa (c := 0) (ev_g rfl hg) ev_c rfl arT_85 (rp_arg hedges) (show k11_2 < edges.length by have hgf := (of_decide_eq_true hg); omega) (by decide))) rfl rfl ?_
          refine TQ.opw (w_t rfl rfl rfl) (fun hg => yq (y_ldp1 (ev_g rfl hg) one_3 (rp_arg hedges) (show k11_2 < edges.length by have hgf := (of_decide_eq_true hg); omega))) rfl rfl ?_
          refine TQ.opw (w_t rfl rfl rfl) (fun hg => y_call (vs := [vk9_2, (.int .i64 ((edges.getD k11_2 (0, 0)).1))]) (v := (.bool (F_spec_l1Has k9_2 ((edges.getD k11_2 (0, 0)).1)))) en_104 ⟨(ev_g rfl hg), (ev_g rfl hg), trivial⟩ (fun w hw => spec_l1Has_ok w vk9_2 k9_2 ((ri_row 0 rfl) w hw) ((edges.getD k11_2 (0, 0)).1))) rfl rfl ?_
          refine TQ.opw (w_t rfl rfl rfl) (fun hg => yq (y_not (ev_g rfl hg))) rfl rfl ?_
          refine TQ.op (yq (y_and (ev_t rfl) (fun hq => (ev_g rfl hq)))) rfl rfl rfl ?_
          refine TQ.nil ?_
          refine TN.seq ?_
          refine TC.cond (b := ((decide ((edges.getD k11_2 (0, 0)).2 = (k9_2.getD k10_1 0))) && (!(F_spec_l1Has k9_2 ((edges.getD k11_2 (0, 0)).1))))) (ev_t rfl) (fun h92 => ?_) (fun h92 => ?_)
          · rw [bif_pos h92] at hL2
            have q93 := (and_imp (and_t h92) (fun h => (of_decide_eq_true h)) (fun h => (l1Has_f (not_t h))))
            have hq78 := q93
            refine TC.region ?_
            refine TL.op (yq (y_move (ev_t rfl))) rfl rfl rfl ?_
            refine TL.op (yq (y_move (ev_t rfl))) rfl rfl rfl ?_
            refine TL.op (yq (y_move (ev_t rfl))) rfl rfl rfl ?_
            have hb94 : k11_2 < edges.length := (by first | omega | (simp only [List.length_set, List.length_append, List.length_cons, List.length_nil, List.length_replicate]; omega) | (rw [sortI_length]; simp only [List.length_cons, List.length_nil]; omega))
            refine TL.op (yq (y_idx (k := k11_2) (ev_t rfl) (ev_t rfl) (by first | omega | simp) slT_37 (rp_arg hedges) hb94)) rfl rfl rfl ?_
            refine TL.op (yq (y_ixa (c := 0) (ev_t rfl) ev_c rfl arT_85 (rp_arg hedges) hb94 (by decide))) rfl rfl rfl ?_
            refine TL.op (yq (y_ldp1 (ev_t rfl) one_3 (rp_arg hedges) hb94)) rfl rfl rfl ?_
            refine TL.buildI (zs := [.tmp 84]) (qs := [(edges.getD k11_2 (0, 0)).1]) slT_34 rfl ⟨(ev_t rfl), trivial⟩ rfl (by decide) rfl (fun v12_6 => ?_)
            refine TL.appendI 1 (ev_t rfl) (ev_t rfl) rfl slT_34 (ri_row 0 rfl) (by first | omega | (simp [-List.getD_eq_getElem?_getD] <;> omega)) rfl (fun v12_7 => ?_)
            refine TL.op (yq (y_assign (ev_t rfl))) rfl rfl rfl ?_
            refine TL.nil ?_
            refine TN.blockN ?_
            refine TN.seq ?_
            refine TC.region ?_
            refine TL.op (yq (y_move (ev_t rfl))) rfl rfl rfl ?_
            refine TL.op (yq (y_add (ev_t rfl) ev_c (by unfold In64; constructor <;> omega))) rfl rfl rfl ?_
            refine TL.op (yq (y_assign (ev_t rfl))) rfl rfl rfl ?_
            refine TL.nil ?_
            exact TN.hand (mf2, (k9_2 ++ ([(edges.getD k11_2 (0, 0)).1])), (k11_2 + 1), v12_7) ⟨(by first | omega | (simp [-List.getD_eq_getElem?_getD] <;> omega)), (by first | omega | (simp [-List.getD_eq_getElem?_getD] <;> omega)), (by first | exact hi2_2 | exact hd1 | exact hd1.app hpe.1 (st_nm hq78.2) | exact hi2_2.app hpe.1 (st_nm hq78.2)), (by omega), hL2⟩ (Nat.lt_succ_self _) ⟨rfl, rfl, rfl, rfl, rfl, rfl, trivial⟩ (fun w hw => Hp.sublist hw (.cons _ (.cons_cons _ .slnil)))
          · rw [bif_neg h92] at hL2
            have q93 := ((and_f h92).imp (fun h => (of_decide_eq_false h)) (fun h => (not_f h)))
            refine TC.skip ?_
            refine TN.blockN ?_
            refine TN.seq ?_
            refine TC.region ?_
            refine TL.op (yq (y_move (ev_t rfl))) rfl rfl rfl ?_
            refine TL.op (yq (y_add (ev_t rfl) ev_c (by unfold In64; constructor <;> omega))) rfl rfl rfl ?_
            refine TL.op (yq (y_assign (ev_t rfl))) rfl rfl rfl ?_
            refine TL.nil ?_
            exact TN.hand (mf2, k9_2, (k11_2 + 1), vk9_2) ⟨(by first | omega | (simp [-List.getD_eq_getElem?_getD] <;> omega)), (by first | omega | (simp [-List.getD_eq_getElem?_getD] <;> omega)), (by first | exact hi2_2 | exact hd1 | exact hd1.app hpe.1 (st_nm hq78.2) | exact hi2_2.app hpe.1 (st_nm hq78.2)), (by omega), hL2⟩ (Nat.lt_succ_self _) ⟨rfl, rfl, rfl, rfl, rfl, rfl, trivial⟩ (fun w hw => hw)
    · rw [bif_neg h76] at hL2
      have q77 := (of_decide_eq_false h76)
      refine TC.exit ?_
      refine TN.thenE ?_
      refine TN.thenE ?_
      rw [← hL2, elim_next] at hL1
      try dsimp only at hL1
      refine TN.blockH ?_
      refine TN.blockN ?_
      refine TN.seq ?_
      refine TC.region ?_
      refine TL.op (yq (y_move (ev_t rfl))) rfl rfl rfl ?_
      refine TL.op (yq (y_add (ev_t rfl) ev_c (by unfold In64; constructor <;> omega))) rfl rfl rfl ?_
      refine TL.op (yq (y_assign (ev_t rfl))) rfl rfl rfl ?_
      refine TL.nil ?_
      exact TN.hand (mf1, k9_2, (k10_1 + 1), vk9_2) ⟨(by first | omega | (simp [-List.getD_eq_getElem?_getD] <;> omega)), hi2_2, (by omega), hL1⟩ (Nat.lt_succ_self _) ⟨rfl, rfl, rfl, rfl, rfl, trivial⟩ (fun w hw => hw)
  · rw [bif_neg h72] at hL1
    have q73 := (of_decide_eq_false h72)
    refine TC.exit ?_
    refine TN.thenE ?_
    refine TN.thenE ?_
    rw [← hL1, elim_next] at hF
    try dsimp only at hF
    refine TN.blockH ?_
    refine TN.seq ?_
    refine TC.seq ?_
    refine TC.region ?_
    refine TL.buildI (zs := []) (qs := []) slT_34 rfl trivial rfl (by decide) rfl (fun v13_0 => ?_)
    refine TL.op (yq (y_assign (ev_t rfl))) rfl rfl rfl ?_
    refine TL.nil ?_
    refine TN.seq ?_
    refine TC.seq ?_
    refine TC.seq ?_
    refine TC.region ?_
    refine TL.op (yq (y_assign ev_c)) rfl rfl rfl ?_
    refine TL.nil ?_
    refine TN.seq ?_
    refine TC.block ?_
    obtain ⟨c95, hc96⟩ : ∃ c, F_spec_l6Side_L3 n k9_1 ((((n).toNat) - 0) + 1) (([] : List Int), 0) = c := ⟨_, rfl⟩
    rw [hc96] at hF
    refine TC.loop (ι := Nat × List Int × Nat × Value) (fun (fu3, k12_3, k13_3, vk12_3) => [(0, (.int .i64 n)), (9, vk9_1), (12, vk12_3), (13, (.int .i64 (k13_3 : Int)))]) (fun (fu3, k12_3, k13_3, vk12_3) => Hp w [rowI 3 vk12_3 k12_3, rowI 3 vk9_1 k9_1]) (fun (fu3, k12_3, k13_3, vk12_3) => (k13_3 ≤ ((n).toNat)) ∧ (k12_3.length ≤ k13_3) ∧ ((n).toNat) - k13_3 < fu3 ∧ F_spec_l6Side_L3 n k9_1 fu3 (k12_3, k13_3) = c95) (fun (fu3, k12_3, k13_3, vk12_3) => fu3) ((((n).toNat) - 0) + 1, ([] : List Int), 0, v13_0) ⟨(by first | omega | (simp [-List.getD_eq_getElem?_getD] <;> omega)), (by first | omega | (simp [-List.getD_eq_getElem?_getD] <;> omega)), (by omega), hc96⟩ ⟨rfl, rfl, rfl, rfl, trivial⟩ (fun w hw => hw) ?_
    rintro ⟨fu3, k12_3, k13_3, vk12_3⟩ hJ3
    obtain ⟨hi3_0, hi3_1, hmu3, hL3⟩ : (k13_3 ≤ ((n).toNat)) ∧ (k12_3.length ≤ k13_3) ∧ ((n).toNat) - k13_3 < fu3 ∧ F_spec_l6Side_L3 n k9_1 fu3 (k12_3, k13_3) = c95 := hJ3
    change TC _ _ _ _ (Hp w [rowI 3 vk12_3 k12_3, rowI 3 vk9_1 k9_1]) [(0, (.int .i64 n)), (9, vk9_1), (12, vk12_3), (13, (.int .i64 (k13_3 : Int)))]
    obtain ⟨mf3, rfl⟩ : ∃ m, fu3 = m + 1 := ⟨fu3 - 1, by omega⟩
    rw [F_spec_l6Side_L3_s] at hL3
    refine TC.seq ?_
    refine TC.seq ?_
    refine TC.region ?_
    refine TL.op (yq (y_move (ev_t rfl))) rfl rfl rfl ?_
    refine TL.op (yq (y_move (ev_t rfl))) rfl rfl rfl ?_
    refine TL.op (yq (y_lss (ev_t rfl) (ev_t rfl))) rfl rfl rfl ?_
    refine TL.nil ?_
    refine TN.seq ?_
    refine TC.cond (b := decide ((k13_3 : Int) < n)) (ev_t rfl) (fun h97 => ?_) (fun h97 => ?_)
    · rw [bif_pos h97] at hL3
      have q98 := (of_decide_eq_true h97)
      refine TC.skip ?_
      refine TN.seq ?_
      refine TC.seq ?_
      refine TC.block ?_
      refine TC.seq ?_
      refine TC.region ?_
      refine TL.op (yq (y_move (ev_t rfl))) rfl rfl rfl ?_
      refine TL.op (yq (y_move (ev_t rfl))) rfl rfl rfl ?_
      refine TL.op (y_call (vs := [vk9_1, (.int .i64 (k13_3 : Int))]) (v := (.bool (F_spec_l1Has k9_1 (k13_3 : Int)))) en_104 ⟨(ev_t rfl), (ev_t rfl), trivial⟩ (fun w hw => spec_l1Has_ok w vk9_1 k9_1 ((ri_row 1 rfl) w hw) (k13_3 : Int))) rfl rfl rfl ?_
      refine TL.nil ?_
      refine TN.seq ?_
      refine TC.cond (b := (F_spec_l1Has k9_1 (k13_3 : Int))) (ev_t rfl) (fun h99 => ?_) (fun h99 => ?_)
      · rw [bif_pos h99] at hL3
        have q100 := h99
        refine TC.region ?_
        refine TL.op (yq (y_move (ev_t rfl))) rfl rfl rfl ?_
        refine TL.op (yq (y_move (ev_t rfl))) rfl rfl rfl ?_
        refine TL.buildI (zs := [.tmp 97]) (qs := [(k13_3 : Int)]) slT_34 rfl ⟨(ev_t rfl), trivial⟩ rfl (by decide) rfl (fun v18_2 => ?_)
        refine TL.appendI 1 (ev_t rfl) (ev_t rfl) rfl slT_34 (ri_row 0 rfl) (by first | omega | (simp [-List.getD_eq_getElem?_getD] <;> omega)) rfl (fun v18_3 => ?_)
        refine TL.op (yq (y_assign (ev_t rfl))) rfl rfl rfl ?_
        refine TL.nil ?_
        refine TN.blockN ?_
        refine TN.seq ?_
        refine TC.region ?_
        refine TL.op (yq (y_move (ev_t rfl))) rfl rfl rfl ?_
        refine TL.op (yq (y_add (ev_t rfl) ev_c (by unfold In64; constructor <;> omega))) rfl rfl rfl ?_
        refine TL.op (yq (y_assign (ev_t rfl))) rfl rfl rfl ?_
        refine TL.nil ?_
        exact TN.hand (mf3, (k12_3 ++ ([(k13_3 : Int)])), (k13_3 + 1), v18_3) ⟨(by first | omega | (simp [-List.getD_eq_getElem?_getD] <;> omega)), (by first | omega | (simp [-List.getD_eq_getElem?_getD] <;> omega)), (by omega), hL3⟩ (Nat.lt_succ_self _) ⟨rfl, rfl, rfl, rfl, trivial⟩ (fun w hw => Hp.sublist hw (.cons _ (.cons_cons _ (.cons_cons _ .slnil))))
      · rw [bif_neg h99] at hL3
        have q100 := (l1Has_f h99)
        refine TC.skip ?_
        refine TN.blockN ?_
        refine TN.seq ?_
        refine TC.region ?_
        refine TL.op (yq (y_move (ev_t rfl))) rfl rfl rfl ?_
        refine TL.op (yq (y_add (ev_t rfl) ev_c (by unfold In64; constructor <;> omega))) rfl rfl rfl ?_
        refine TL.op (yq (y_assign (ev_t rfl))) rfl rfl rfl ?_
        refine TL.nil ?_
        exact TN.hand (mf3, k12_3, (k13_3 + 1), vk12_3) ⟨(by first | omega | (simp [-List.getD_eq_getElem?_getD] <;> omega)), (by first | omega | (simp [-List.getD_eq_getElem?_getD] <;> omega)), (by omega), hL3⟩ (Nat.lt_succ_self _) ⟨rfl, rfl, rfl, rfl, trivial⟩ (fun w hw => hw)
    · rw [bif_neg h97] at hL3
      have q98 := (of_decide_eq_false h97)
      refine TC.exit ?_
      refine TN.thenE ?_
      refine TN.thenE ?_
      rw [← hL3, elim_next] at hF
      try dsimp only at hF
      refine TN.blockH ?_
      refine TN.seq ?_
      refine TC.seq ?_
      refine TC.region ?_
      refine TL.op (yq (y_move (ev_t rfl))) rfl rfl rfl ?_
      refine TL.op (yq (y_assign (ev_t rfl))) rfl rfl rfl ?_
      refine TL.nil ?_
      refine TN.seq ?_
      refine TC.ret ?_
      subst hF
      exact TN.ret1 rfl (ev_t rfl) (fun w' hw => ⟨vk12_3, rfl, Hp.sublist hw (.cons_cons _ (.cons _ .slnil))⟩)

end Go.Proofs.Ytcmhgkcifejgcaa
namespace Go.Proofs.Ytcmhgkcifejgcaa
set_option linter.unusedVariables false
set_option linter.unusedSimpArgs false
open Go Go.RowKit
set_option linter.unusedVariables false

set_option maxRecDepth 4000 in
set_option maxHeartbeats 1000000 in
theorem spec_l6Tree_ok (w : World) (vm : Value) (um : List Value) (m : List (List Int)) (hm : RII w vm um m) (hp0 : Tab m) :
    Calls Try.prog 89 ([(.agg #[vm])] : List Value).toArray w (fun e w' => ∃ i : Value, e = .returned (.tuple #[i, (.int .i64 ((F_spec_l6Tree m).2))]) ∧ Hp w [rowP 85 i ((F_spec_l6Tree m).1)] w') := by
  obtain ⟨rz, hF⟩ : ∃ rz, (F_spec_l6Tree m) = rz := ⟨_, rfl⟩
  rw [hF]
  unfold F_spec_l6Tree at hF
  have hn1 := hp0.n1
  have hn6 := hp0.n6
  have hle := edges_bd hp0
  have hle1 := hle.1
  have hlen_m := argT_len hm
  refine calls_tc Try.func89 rfl rfl rfl ?_
  change TC _ _ _ _ (Hp w []) [(0, (.agg #[vm]))]
  refine TC.seq ?_
  refine TC.region ?_
  refine TL.box (ev_t rfl) rfl (fun g0_0 => ?_)
  refine TL.op (yq (y_assign ev_c)) rfl rfl rfl ?_
  refine TL.op (yq (y_assign ev_c)) rfl rfl rfl ?_
  refine TL.nil ?_
  refine TN.seq ?_
  refine TC.seq ?_
  refine TC.region ?_
  refine TL.buildP (zs := []) (ps := ([] : List (Int × Int))) slT_37 rfl trivial rfl (by decide) rfl (fun v1_0 => ?_)
  refine TL.op (yq (y_ldagg (cs := [vm]) 1 (ev_t rfl) agg_55 rfl)) rfl rfl rfl ?_
  refine TL.callr (ι := Value) (vs := [(.agg #[vm])]) (fun i => i) (fun i => [rowP 85 i (F_spec_l6Edges m)]) en_128 ⟨(ev_t rfl), trivial⟩ rfl (fun w hw => spec_l6Edges_ok w vm um m ((rii_arg hm) w hw) (by first | assumption | omega | grind)) (fun r1_2 => ?_)
  refine TL.op (yq (y_assign (ev_t rfl))) rfl rfl rfl ?_
  refine TL.op (yq (y_assign ev_c)) rfl rfl rfl ?_
  refine TL.op (yq (y_assign (ev_t rfl))) rfl rfl rfl ?_
  refine TL.nil ?_
  refine TN.seq ?_
  refine TC.seq ?_
  refine TC.seq ?_
  refine TC.region ?_
  refine TL.op (yq (y_assign ev_c)) rfl rfl rfl ?_
  refine TL.nil ?_
  refine TN.seq ?_
  refine TC.block ?_
  obtain ⟨c38, hc39⟩ : ∃ c, F_spec_l6Tree_L1 m ((((F_spec_l6Edges m).length) - 0) + 1) (([] : List (Int × Int)), 0, 0) = c := ⟨_, rfl⟩
  rw [hc39] at hF
  refine TC.loop (ι := Nat × List (Int × Int) × Int × Nat × Value) (fun (fu1, taken1, sum1, i1, vtaken1) => [(1, (.pointer (some ⟨g0_0, 0, none⟩))), (4, vtaken1), (5, (.int .i64 sum1)), (6, r1_2), (7, (.int .i64 (i1 : Int)))]) (fun (fu1, taken1, sum1, i1, vtaken1) => Hp w [rowP 85 r1_2 (F_spec_l6Edges m), rowP 85 vtaken1 taken1, .blk g0_0 55 [vm]]) (fun (fu1, taken1, sum1, i1, vtaken1) => (i1 ≤ ((F_spec_l6Edges m).length)) ∧ (taken1.length ≤ i1) ∧ (DmA (m.length : Int) taken1) ∧ (-100 * (i1 : Int) ≤ sum1) ∧ (sum1 ≤ 100 * (i1 : Int)) ∧ ((F_spec_l6Edges m).length) - i1 < fu1 ∧ F_spec_l6Tree_L1 m fu1 (taken1, sum1, i1) = c38) (fun (fu1, taken1, sum1, i1, vtaken1) => fu1) ((((F_spec_l6Edges m).length) - 0) + 1, ([] : List (Int × Int)), 0, 0, v1_0) ⟨(by first | omega | (simp [-List.getD_eq_getElem?_getD] <;> omega)), (by first | omega | (simp [-List.getD_eq_getElem?_getD] <;> omega)), (DmA.nil (by omega)), (by first | omega | (simp [-List.getD_eq_getElem?_getD] <;> omega)), (by first | omega | (simp [-List.getD_eq_getElem?_getD] <;> omega)), (by omega), hc39⟩ ⟨rfl, rfl, rfl, rfl, rfl, trivial⟩ (fun w hw => hw) ?_
  rintro ⟨fu1, taken1, sum1, i1, vtaken1⟩ hJ1
  obtain ⟨hi1_0, hi1_1, hi1_2, hi1_3, hi1_4, hmu1, hL1⟩ : (i1 ≤ ((F_spec_l6Edges m).length)) ∧ (taken1.length ≤ i1) ∧ (DmA (m.length : Int) taken1) ∧ (-100 * (i1 : Int) ≤ sum1) ∧ (sum1 ≤ 100 * (i1 : Int)) ∧ ((F_spec_l6Edges m).length) - i1 < fu1 ∧ F_spec_l6Tree_L1 m fu1 (taken1, sum1, i1) = c38 := hJ1
  change TC _ _ _ _ (Hp w [rowP 85 r1_2 (F_spec_l6Edges m), rowP 85 vtaken1 taken1, .blk g0_0 55 [vm]]) [(1, (.pointer (some ⟨g0_0, 0, none⟩))), (4, vtaken1), (5, (.int .i64 sum1)), (6, r1_2), (7, (.int .i64 (i1 : Int)))]
  obtain ⟨mf1, rfl⟩ : ∃ m, fu1 = m + 1 := ⟨fu1 - 1, by omega⟩
  rw [F_spec_l6Tree_L1_s] at hL1
  have hse := (hle.2 i1).p
  have hm6 := hi1_2.mono (k := 6) (by omega)
  have hrw := hp0.rows ((F_spec_l6Edges m).getD i1 (0, 0)).1.toNat
  have hel := hp0.el ((F_spec_l6Edges m).getD i1 (0, 0)).1.toNat ((F_spec_l6Edges m).getD i1 (0, 0)).2.toNat
  refine TC.seq ?_
  refine TC.seq ?_
  refine TC.region ?_
  refine TL.op (yq (y_move (ev_t rfl))) rfl rfl rfl ?_
  refine TL.op (yq (y_move (ev_t rfl))) rfl rfl rfl ?_
  refine TL.op (yq (y_len (ev_t rfl) Try.underlying37 (fun w hw => ((rp_row 0 rfl) w hw).ln))) rfl rfl rfl ?_
  refine TL.op (yq (y_lss (ev_t rfl) (ev_t rfl))) rfl rfl rfl ?_
  refine TL.nil ?_
  refine TN.seq ?_
  refine TC.cond (b := decide ((i1 : Int) < ((F_spec_l6Edges m).length : Int))) (ev_t rfl) (fun h40 => ?_) (fun h40 => ?_)
  · rw [bif_pos h40] at hL1
    have q41 := (of_decide_eq_true h40)
    refine TC.skip ?_
    refine TN.seq ?_
    refine TC.seq ?_
    refine TC.block ?_
    refine TC.seq ?_
    refine TC.regionH 17 (Hp w [rowP 85 r1_2 (F_spec_l6Edges m), rowP 85 vtaken1 taken1, .blk g0_0 55 [vm]]) rfl (by kernel_rfl) dr_hp (fun w hw => hw) ?_
    refine TH.take 0 rfl (by kernel_rfl) (y_fa (fa_55_0 g0_0) (ev_t rfl)) rfl rfl rfl ?_
    refine TH.take 1 rfl (by kernel_rfl) (y_ldb 2 (ev_t rfl) one_49 rfl rfl) rfl rfl rfl ?_
    refine TH.take 2 rfl (by kernel_rfl) (y_len (ev_t rfl) Try.underlying49 (fun w hw => ((fun w hw => ((rii_arg hm) w hw).1) w hw).ln)) rfl rfl rfl ?_
    refine TH.take 3 rfl (by kernel_rfl) (y_move (ev_t rfl)) rfl rfl rfl ?_
    refine TH.take 4 rfl (by kernel_rfl) (y_move (ev_t rfl)) rfl rfl rfl ?_
    refine TH.take 5 rfl (by kernel_rfl) (y_move (ev_t rfl)) rfl rfl rfl ?_
    have hb42 : i1 < (F_spec_l6Edges m).length := (by first | omega | (simp only [List.length_set, List.length_append, List.length_cons, List.length_nil, List.length_replicate]; omega) | (rw [sortI_length]; simp only [List.length_cons, List.length_nil]; omega))
    refine TH.take 6 rfl (by kernel_rfl) (y_idx (k := i1) (ev_t rfl) (ev_t rfl) (by first | omega | simp) slT_37 (rp_row 0 rfl) hb42) rfl rfl rfl ?_
    refine TH.take 7 rfl (by kernel_rfl) (y_ixa (c := 0) (ev_t rfl) ev_c rfl arT_85 (rp_row 0 rfl) hb42 (by decide)) rfl rfl rfl ?_
    refine TH.take 8 rfl (by kernel_rfl) (y_ldp1 (ev_t rfl) one_3 (rp_row 0 rfl) hb42) rfl rfl rfl ?_
    refine TH.take 10 rfl (by kernel_rfl) (y_move (ev_t rfl)) rfl rfl rfl ?_
    refine TH.take 11 rfl (by kernel_rfl) (y_move (ev_t rfl)) rfl rfl rfl ?_
    have hb43 : i1 < (F_spec_l6Edges m).length := (by first | omega | (simp only [List.length_set, List.length_append, List.length_cons, List.length_nil, List.length_replicate]; omega) | (rw [sortI_length]; simp only [List.length_cons, List.length_nil]; omega))
    refine TH.take 12 rfl (by kernel_rfl) (y_idx (k := i1) (ev_t rfl) (ev_t rfl) (by first | omega | simp) slT_37 (rp_row 0 rfl) hb43) rfl rfl rfl ?_
    refine TH.take 13 rfl (by kernel_rfl) (y_ixa (c := 1) (ev_t rfl) ev_c rfl arT_85 (rp_row 0 rfl) hb43 (by decide)) rfl rfl rfl ?_
    refine TH.take 14 rfl (by kernel_rfl) (y_ldp2 (ev_t rfl) one_3 (rp_row 0 rfl) hb43) rfl rfl rfl ?_
    refine TH.loud 9 rfl (by kernel_rfl) ?_
    refine TL.callr (ι := Value) (vs := [(.int .i64 (m.length : Int)), vtaken1, (.int .i64 (-1)), (.int .i64 (((F_spec_l6Edges m).getD i1 (0, 0)).1))]) (fun i => i) (fun i => [rowI 3 i (F_spec_l6Side (m.length : Int) taken1 (-1) (((F_spec_l6Edges m).getD i1 (0, 0)).1))]) en_94 ⟨(ev_t rfl), (ev_t rfl), ev_c, (ev_t rfl), trivial⟩ rfl (fun w hw => spec_l6Side_ok w (m.length : Int) vtaken1 taken1 ((rp_row 1 rfl) w hw) (-1) (((F_spec_l6Edges m).getD i1 (0, 0)).1) (by first | assumption | omega | grind) (by first | assumption | omega | grind) (by first | assumption | omega | grind) (by first | assumption | omega | grind)) (fun r5_9 => ?_)
    refine TL.nil ?_
    refine TH.back (fun w hw => Hp.sublist hw (.cons _ (.cons_cons _ (.cons_cons _ (.cons_cons _ .slnil))))) ?_
    refine TH.loud 15 rfl (by kernel_rfl) ?_
    refine TL.op (y_call (vs := [r5_9, (.int .i64 (((F_spec_l6Edges m).getD i1 (0, 0)).2))]) (v := (.bool (F_spec_l1Has (F_spec_l6Side (m.length : Int) taken1 (-1) (((F_spec_l6Edges m).getD i1 (0, 0)).1)) (((F_spec_l6Edges m).getD i1 (0, 0)).2)))) en_104 ⟨(ev_t rfl), (ev_t rfl), trivial⟩ (fun w hw => spec_l1Has_ok w r5_9 (F_spec_l6Side (m.length : Int) taken1 (-1) (((F_spec_l6Edges m).getD i1 (0, 0)).1)) ((ri_row 0 rfl) w hw) (((F_spec_l6Edges m).getD i1 (0, 0)).2))) rfl rfl rfl ?_
    refine TL.nil ?_
    refine TH.back (fun w hw => Hp.sublist hw (.cons _ (.cons_cons _ (.cons_cons _ (.cons_cons _ .slnil))))) ?_
    refine TH.take 16 rfl (by kernel_rfl) (y_not (ev_t rfl)) rfl rfl rfl ?_
    refine TH.done (by kernel_rfl) ?_
    refine TN.seq ?_
    refine TC.cond (b := !(F_spec_l1Has (F_spec_l6Side (m.length : Int) taken1 (-1) (((F_spec_l6Edges m).getD i1 (0, 0)).1)) (((F_spec_l6Edges m).getD i1 (0, 0)).2))) (ev_t rfl) (fun h44 => ?_) (fun h44 => ?_)
    · rw [bif_pos h44] at hL1
      have q45 := (l1Has_f (not_t h44))
      refine TC.seq ?_
      refine TC.region ?_
      refine TL.op (yq (y_move (ev_t rfl))) rfl rfl rfl ?_
      refine TL.op (yq (y_move (ev_t rfl))) rfl rfl rfl ?_
      refine TL.op (yq (y_move (ev_t rfl))) rfl rfl rfl ?_
      have hb46 : i1 < (F_spec_l6Edges m).length := (by first | omega | (simp only [List.length_set, List.length_append, List.length_cons, List.length_nil, List.length_replicate]; omega) | (rw [sortI_length]; simp only [List.length_cons, List.length_nil]; omega))
      refine TL.op (yq (y_idx (k := i1) (ev_t rfl) (ev_t rfl) (by first | omega | simp) slT_37 (rp_row 1 rfl) hb46)) rfl rfl rfl ?_
      refine TL.op (yq (y_ldpr (ev_t rfl) arT_85 (rp_row 1 rfl) hb46)) rfl rfl rfl ?_
      refine TL.buildP (zs := [.tmp 38]) (ps := [(((F_spec_l6Edges m).getD i1 (0, 0)).1, ((F_spec_l6Edges m).getD i1 (0, 0)).2)]) slT_37 rfl ⟨(ev_t rfl), trivial⟩ rfl (by decide) rfl (fun v6_5 => ?_)
      refine TL.appendP 3 (ev_t rfl) (ev_t rfl) rfl slT_37 (rp_row 0 rfl) (by first | omega | (simp [-List.getD_eq_getElem?_getD] <;> omega)) rfl (fun v6_6 => ?_)
      refine TL.op (yq (y_assign (ev_t rfl))) rfl rfl rfl ?_
      refine TL.nil ?_
      refine TN.seq ?_
      refine TC.regionQ (by kernel_rfl) (by kernel_rfl) dr_hp ?_
      refine TQ.op (yq (y_move (ev_t rfl))) rfl rfl rfl ?_
      refine TQ.op (yq (y_fa (fa_55_0 g0_0) (ev_t rfl))) rfl rfl rfl ?_
      refine TQ.op (yq (y_ldb 4 (ev_t rfl) one_49 rfl rfl)) rfl rfl rfl ?_
      refine TQ.op (yq (y_move (ev_t rfl))) rfl rfl rfl ?_
      refine TQ.op (yq (y_move (ev_t rfl))) rfl rfl rfl ?_
      have hb47 : i1 < (F_spec_l6Edges m).length := (by first | omega | (simp only [List.length_set, List.length_append, List.length_cons, List.length_nil, List.length_replicate]; omega) | (rw [sortI_length]; simp only [List.length_cons, List.length_nil]; omega))
      refine TQ.op (yq (y_idx (k := i1) (ev_t rfl) (ev_t rfl) (by first | omega | simp) slT_37 (rp_row 2 rfl) hb47)) rfl rfl rfl ?_
      refine TQ.op (yq (y_ixa (c := 0) (ev_t rfl) ev_c rfl arT_85 (rp_row 2 rfl) hb47 (by decide))) rfl rfl rfl ?_
      refine TQ.op (yq (y_ldp1 (ev_t rfl) one_3 (rp_row 2 rfl) hb47)) rfl rfl rfl ?_
      have hb48 : (((F_spec_l6Edges m).getD i1 (0, 0)).1).toNat < m.length := (by first | omega | (simp only [List.length_set, List.length_append, List.length_cons, List.length_nil, List.length_replicate]; omega) | (rw [sortI_length]; simp only [List.length_cons, List.length_nil]; omega))
      refine TQ.op (yq (y_idx (k := (((F_spec_l6Edges m).getD i1 (0, 0)).1).toNat) (ev_t rfl) (ev_t rfl) (by first | omega | simp) slT_49 (fun w hw => ((rii_arg hm) w hw).1) hb48)) rfl rfl rfl ?_
      have ha49 := hm.row (i := (((F_spec_l6Edges m).getD i1 (0, 0)).1).toNat) hb48
      refine TQ.op (yq (y_ldA (ev_t rfl) one_34 (rii_arg hm) hb48)) rfl rfl rfl ?_
      refine TQ.op (yq (y_move (ev_t rfl))) rfl rfl rfl ?_
      refine TQ.op (yq (y_move (ev_t rfl))) rfl rfl rfl ?_
      have hb50 : i1 < (F_spec_l6Edges m).length := (by first | omega | (simp only [List.length_set, List.length_append, List.length_cons, List.length_nil, List.length_replicate]; omega) | (rw [sortI_length]; simp only [List.length_cons, List.length_nil]; omega))
      refine TQ.op (yq (y_idx (k := i1) (ev_t rfl) (ev_t rfl) (by first | omega | simp) slT_37 (rp_row 2 rfl) hb50)) rfl rfl rfl ?_
      refine TQ.op (yq (y_ixa (c := 1) (ev_t rfl) ev_c rfl arT_85 (rp_row 2 rfl) hb50 (by decide))) rfl rfl rfl ?_
      refine TQ.op (yq (y_ldp2 (ev_t rfl) one_3 (rp_row 2 rfl) hb50)) rfl rfl rfl ?_
      have hb51 : (((F_spec_l6Edges m).getD i1 (0, 0)).2).toNat < (m.getD ((((F_spec_l6Edges m).getD i1 (0, 0)).1).toNat) []).length := (by first | omega | (simp only [List.length_set, List.length_append, List.length_cons, List.length_nil, List.length_replicate]; omega) | (rw [sortI_length]; simp only [List.length_cons, List.length_nil]; omega))
      refine TQ.op (yq (y_idx (k := (((F_spec_l6Edges m).getD i1 (0, 0)).2).toNat) (ev_t rfl) (ev_t rfl) (by first | omega | simp) slT_34 (ri_arg ha49) hb51)) rfl rfl rfl ?_
      refine TQ.op (yq (y_ldi (ev_t rfl) one_3 (ri_arg ha49) hb51)) rfl rfl rfl ?_
      refine TQ.op (yq (y_add (ev_t rfl) (ev_t rfl) (by unfold In64; constructor <;> omega))) rfl rfl rfl ?_
      refine TQ.op (yq (y_assign (ev_t rfl))) rfl rfl rfl ?_
      refine TQ.nil ?_
      refine TN.blockN ?_
      refine TN.seq ?_
      refine TC.region ?_
      refine TL.op (yq (y_move (ev_t rfl))) rfl rfl rfl ?_
      refine TL.op (yq (y_add (ev_t rfl) ev_c (by unfold In64; constructor <;> omega))) rfl rfl rfl ?_
      refine TL.op (yq (y_assign (ev_t rfl))) rfl rfl rfl ?_
      refine TL.nil ?_
      exact TN.hand (mf1, (taken1 ++ ([(((F_spec_l6Edges m).getD i1 (0, 0)).1, ((F_spec_l6Edges m).getD i1 (0, 0)).2)])), sum1 + ((m.getD ((((F_spec_l6Edges m).getD i1 (0, 0)).1).toNat) []).getD ((((F_spec_l6Edges m).getD i1 (0, 0)).2).toNat) 0), (i1 + 1), v6_6) ⟨(by first | omega | (simp [-List.getD_eq_getElem?_getD] <;> omega)), (by first | omega | (simp [-List.getD_eq_getElem?_getD] <;> omega)), (by first | exact hi1_2 | exact hi1_2.app (hle.2 _)), (by first | omega | (simp [-List.getD_eq_getElem?_getD] <;> omega)), (by first | omega | (simp [-List.getD_eq_getElem?_getD] <;> omega)), (by omega), hL1⟩ (Nat.lt_succ_self _) ⟨rfl, rfl, rfl, rfl, rfl, trivial⟩ (fun w hw => Hp.sublist hw (.cons _ (.cons _ (.cons_cons _ (.cons_cons _ (.cons_cons _ .slnil))))))
    · rw [bif_neg h44] at hL1
      have q45 := (not_f h44)
      refine TC.skip ?_
      refine TN.blockN ?_
      refine TN.seq ?_
      refine TC.region ?_
      refine TL.op (yq (y_move (ev_t rfl))) rfl rfl rfl ?_
      refine TL.op (yq (y_add (ev_t rfl) ev_c (by unfold In64; constructor <;> omega))) rfl rfl rfl ?_
      refine TL.op (yq (y_assign (ev_t rfl))) rfl rfl rfl ?_
      refine TL.nil ?_
      exact TN.hand (mf1, taken1, sum1, (i1 + 1), vtaken1) ⟨(by first | omega | (simp [-List.getD_eq_getElem?_getD] <;> omega)), (by first | omega | (simp [-List.getD_eq_getElem?_getD] <;> omega)), (by first | exact hi1_2 | exact hi1_2.app (hle.2 _)), (by first | omega | (simp [-List.getD_eq_getElem?_getD] <;> omega)), (by first | omega | (simp [-List.getD_eq_getElem?_getD] <;> omega)), (by omega), hL1⟩ (Nat.lt_succ_self _) ⟨rfl, rfl, rfl, rfl, rfl, trivial⟩ (fun w hw => Hp.sublist hw (.cons _ (.cons_cons _ (.cons_cons _ (.cons_cons _ .slnil)))))
  · rw [bif_neg h40] at hL1
    have q41 := (of_decide_eq_false h40)
    refine TC.exit ?_
    refine TN.thenE ?_
    refine TN.thenE ?_
    rw [← hL1, elim_next] at hF
    try dsimp only at hF
    refine TN.blockH ?_
    refine TN.seq ?_
    refine TC.seq ?_
    refine TC.region ?_
    refine TL.op (yq (y_move (ev_t rfl))) rfl rfl rfl ?_
    refine TL.op (yq (y_move (ev_t rfl))) rfl rfl rfl ?_
    refine TL.op (yq (y_assign (ev_t rfl))) rfl rfl rfl ?_
    refine TL.op (yq (y_assign (ev_t rfl))) rfl rfl rfl ?_
    refine TL.nil ?_
    refine TN.seq ?_
    refine TC.ret ?_
    subst hF
    exact TN.ret2 rfl (ev_t rfl) (ev_t rfl) (fun w' hw => ⟨vtaken1, rfl, Hp.sublist hw (.cons _ (.cons_cons _ (.cons _ .slnil)))⟩)

set_option maxRecDepth 4000 in
set_option maxHeartbeats 1000000 in
theorem spec_SpanningTree_ok (w : World) (vm : Value) (um : List Value) (m : List (List Int)) (hm : RII w vm um m)  :
    Calls Try.prog 37 ([(.agg #[vm])] : List Value).toArray w (fun e w' => ∃ i : Value, e = .returned (.tuple #[i, (.int .i64 ((F_spec_SpanningTree m).2.1)), (.bool ((F_spec_SpanningTree m).2.2))]) ∧ Hp w [rowP 85 i ((F_spec_SpanningTree m).1)] w') := by
  obtain ⟨rz, hF⟩ : ∃ rz, (F_spec_SpanningTree m) = rz := ⟨_, rfl⟩
  rw [hF]
  unfold F_spec_SpanningTree at hF
  have hlen_m := argT_len hm
  refine calls_tc Try.func37 rfl rfl rfl ?_
  change TC _ _ _ _ (Hp w []) [(0, (.agg #[vm]))]
  refine TC.seq ?_
  refine TC.region ?_
  refine TL.box (ev_t rfl) rfl (fun g0_0 => ?_)
  refine TL.op (yq (y_assign ev_c)) rfl rfl rfl ?_
  refine TL.op (yq (y_assign ev_c)) rfl rfl rfl ?_
  refine TL.op (yq (y_assign ev_c)) rfl rfl rfl ?_
  refine TL.nil ?_
  refine TN.seq ?_
  refine TC.seq ?_
  refine TC.seq ?_
  refine TC.region ?_
  refine TL.op (yq (y_ldagg (cs := [vm]) 0 (ev_t rfl) agg_55 rfl)) rfl rfl rfl ?_
  refine TL.op (y_call (vs := [(.agg #[vm])]) (v := (.bool (F_spec_l6Good m))) en_88 ⟨(ev_t rfl), trivial⟩ (fun w hw => spec_l6Good_ok w vm um m ((rii_arg hm) w hw))) rfl rfl rfl ?_
  refine TL.op (yq (y_not (ev_t rfl))) rfl rfl rfl ?_
  refine TL.nil ?_
  refine TN.seq ?_
  refine TC.cond (b := !(F_spec_l6Good m)) (ev_t rfl) (fun h3 => ?_) (fun h3 => ?_)
  · rw [bif_pos h3] at hF
    have q4 := (not_t h3)
    refine TC.seq ?_
    refine TC.region ?_
    refine TL.buildP (zs := []) (ps := ([] : List (Int × Int))) slT_37 rfl trivial rfl (by decide) rfl (fun v2_0 => ?_)
    refine TL.op (yq (y_assign (ev_t rfl))) rfl rfl rfl ?_
    refine TL.op (yq (y_assign ev_c)) rfl rfl rfl ?_
    refine TL.op (yq (y_assign ev_c)) rfl rfl rfl ?_
    refine TL.nil ?_
    refine TN.seq ?_
    refine TC.ret ?_
    refine TN.thenR ?_
    subst hF
    exact TN.ret3 rfl (ev_t rfl) (ev_t rfl) (ev_t rfl) (fun w' hw => ⟨v2_0, rfl, Hp.sublist hw (.cons_cons _ (.cons _ .slnil))⟩)
  · rw [bif_neg h3] at hF
    have q4 := (l6Good_t (not_f h3))
    have hT := q4
    refine TC.skip ?_
    refine TN.seq ?_
    refine TC.seq ?_
    refine TC.region ?_
    refine TL.op (yq (y_ldagg (cs := [vm]) 0 (ev_t rfl) agg_55 rfl)) rfl rfl rfl ?_
    refine TL.callr (ι := Value) (vs := [(.agg #[vm])]) (fun i => (.tuple #[i, (.int .i64 ((F_spec_l6Tree m).2))])) (fun i => [rowP 85 i ((F_spec_l6Tree m).1)]) en_89 ⟨(ev_t rfl), trivial⟩ rfl (fun w hw => spec_l6Tree_ok w vm um m ((rii_arg hm) w hw) (by first | assumption | omega | grind)) (fun r3_1 => ?_)
    refine TL.op (yq (y_move (ev_t rfl))) rfl rfl rfl ?_
    refine TL.op (yq (y_extract (ev_t rfl) rfl)) rfl rfl rfl ?_
    refine TL.op (yq (y_extract (ev_t rfl) rfl)) rfl rfl rfl ?_
    refine TL.op (yq (y_assign (ev_t rfl))) rfl rfl rfl ?_
    refine TL.op (yq (y_assign (ev_t rfl))) rfl rfl rfl ?_
    refine TL.nil ?_
    refine TN.seq ?_
    refine TC.seq ?_
    refine TC.region ?_
    refine TL.op (yq (y_move (ev_t rfl))) rfl rfl rfl ?_
    refine TL.op (yq (y_move (ev_t rfl))) rfl rfl rfl ?_
    refine TL.op (yq (y_assign (ev_t rfl))) rfl rfl rfl ?_
    refine TL.op (yq (y_assign (ev_t rfl))) rfl rfl rfl ?_
    refine TL.op (yq (y_assign ev_c)) rfl rfl rfl ?_
    refine TL.nil ?_
    refine TN.seq ?_
    refine TC.ret ?_
    subst hF
    exact TN.ret3 rfl (ev_t rfl) (ev_t rfl) (ev_t rfl) (fun w' hw => ⟨r3_1, rfl, Hp.sublist hw (.cons_cons _ (.cons _ .slnil))⟩)

end Go.Proofs.Ytcmhgkcifejgcaa
namespace Go.Proofs.Ytcmhgkcifejgcaa
set_option linter.unusedVariables false
set_option linter.unusedSimpArgs false
open Go Go.RowKit
set_option linter.unusedVariables false
set_option linter.unusedSimpArgs false
/-- The list without an index. -/
def wo (es : List (Int × Int)) (i : Nat) : List (Int × Int) := es.take i ++ es.drop (i + 1)
theorem wo_len {es : List (Int × Int)} {i : Nat} (hi : i < es.length) : (wo es i).length = es.length - 1 := by
  unfold wo
  rw [List.length_append, List.length_take, List.length_drop]
  omega
theorem wo_lo {es : List (Int × Int)} {i k : Nat} (hi : i < es.length) (hk : k < i) : (wo es i).getD k (0, 0) = es.getD k (0, 0) := by
  unfold wo
  rw [List.getD_eq_getElem?_getD, List.getD_eq_getElem?_getD, List.getElem?_append_left (by rw [List.length_take]; omega), List.getElem?_take_of_lt hk]
theorem wo_hi {es : List (Int × Int)} {i k : Nat} (hi : i < es.length) (hk : i ≤ k) : (wo es i).getD k (0, 0) = es.getD (k + 1) (0, 0) := by
  unfold wo
  rw [List.getD_eq_getElem?_getD, List.getD_eq_getElem?_getD, List.getElem?_append_right (by rw [List.length_take]; omega), List.length_take, Nat.min_eq_left (by omega), List.getElem?_drop]
  congr 2
  omega
theorem ct_L2b (es : List (Int × Int)) (i : Nat) (hi : i < es.length) (j : Nat) : ∀ (fuel k : Nat) (o : List Int), i ≤ k → ∃ o' a b, F_spec_l6Side_L2 es (i : Int) j fuel (o, k + 1) = .next (o', a) ∧ F_spec_l6Side_L2 (wo es i) (-1) j fuel (o, k) = .next (o', b) := by
  have hw := wo_len hi
  intro fuel
  induction fuel with
  | zero => intro k o _; exact ⟨o, _, _, rfl, rfl⟩
  | succ f ih =>
    intro k o hk
    rw [F_spec_l6Side_L2_s, F_spec_l6Side_L2_s]
    by_cases hl : k + 1 < es.length
    · rw [bif_pos (decide_eq_true (by omega)), bif_neg (decide_eq_false (by omega)), bif_pos (decide_eq_true (by omega)), bif_neg (decide_eq_false (by omega)), wo_hi hi hk]
      cases (decide ((es.getD (k + 1) (0, 0)).1 = o.getD j 0) && !(F_spec_l1Has o (es.getD (k + 1) (0, 0)).2))
      · cases (decide ((es.getD (k + 1) (0, 0)).2 = o.getD j 0) && !(F_spec_l1Has o (es.getD (k + 1) (0, 0)).1))
        · exact ih (k + 1) _ (by omega)
        · exact ih (k + 1) _ (by omega)
      · cases (decide ((es.getD (k + 1) (0, 0)).2 = (o ++ [(es.getD (k + 1) (0, 0)).2]).getD j 0) && !(F_spec_l1Has (o ++ [(es.getD (k + 1) (0, 0)).2]) (es.getD (k + 1) (0, 0)).1))
        · exact ih (k + 1) _ (by omega)
        · exact ih (k + 1) _ (by omega)
    · rw [bif_neg (decide_eq_false (by omega)), bif_neg (decide_eq_false (by omega))]
      exact ⟨o, _, _, rfl, rfl⟩
theorem ct_L2 (es : List (Int × Int)) (i : Nat) (hi : i < es.length) (j : Nat) : ∀ (fuel k : Nat) (o : List Int), es.length - 1 - k < fuel → k ≤ i → ∃ o' a b, F_spec_l6Side_L2 es (i : Int) j (fuel + 1) (o, k) = .next (o', a) ∧ F_spec_l6Side_L2 (wo es i) (-1) j fuel (o, k) = .next (o', b) := by
  have hw := wo_len hi
  intro fuel
  induction fuel with
  | zero => intro k o h; omega
  | succ f ih =>
    intro k o h hk
    by_cases e : k = i
    · subst e
      rw [F_spec_l6Side_L2_s es, bif_pos (decide_eq_true (by omega)), bif_pos (decide_eq_true rfl)]
      exact ct_L2b es k hi j (f + 1) k o (Nat.le_refl _)
    · rw [F_spec_l6Side_L2_s es, F_spec_l6Side_L2_s (wo es i)]
      rw [bif_pos (decide_eq_true (by omega)), bif_neg (decide_eq_false (by omega)), bif_pos (decide_eq_true (by omega)), bif_neg (decide_eq_false (by omega)), wo_lo hi (by omega)]
      cases (decide ((es.getD k (0, 0)).1 = o.getD j 0) && !(F_spec_l1Has o (es.getD k (0, 0)).2))
      · cases (decide ((es.getD k (0, 0)).2 = o.getD j 0) && !(F_spec_l1Has o (es.getD k (0, 0)).1))
        · exact ih (k + 1) _ (by omega) (by omega)
        · exact ih (k + 1) _ (by omega) (by omega)
      · cases (decide ((es.getD k (0, 0)).2 = (o ++ [(es.getD k (0, 0)).2]).getD j 0) && !(F_spec_l1Has (o ++ [(es.getD k (0, 0)).2]) (es.getD k (0, 0)).1))
        · exact ih (k + 1) _ (by omega) (by omega)
        · exact ih (k + 1) _ (by omega) (by omega)
theorem ct_L1 (es : List (Int × Int)) (i : Nat) (hi : i < es.length) : ∀ (fuel q : Nat) (o : List Int), ∃ o' a b, F_spec_l6Side_L1 es (i : Int) fuel (o, q) = .next (o', a) ∧ F_spec_l6Side_L1 (wo es i) (-1) fuel (o, q) = .next (o', b) := by
  have hw := wo_len hi
  intro fuel
  induction fuel with
  | zero => intro q o; exact ⟨o, _, _, rfl, rfl⟩
  | succ f ih =>
    intro q o
    rw [F_spec_l6Side_L1_s, F_spec_l6Side_L1_s]
    by_cases hl : q < o.length
    · rw [bif_pos (decide_eq_true (by omega)), bif_pos (decide_eq_true (by omega))]
      obtain ⟨o1, a, b, h1, h2⟩ := ct_L2 es i hi q (es.length) 0 o (by omega) (by omega)
      rw [show es.length - 0 + 1 = es.length + 1 by omega, h1, show (wo es i).length - 0 + 1 = es.length by omega, h2, elim_next, elim_next]
      exact ih (q + 1) o1
    · rw [bif_neg (decide_eq_false (by omega)), bif_neg (decide_eq_false (by omega))]
      exact ⟨o, _, _, rfl, rfl⟩
theorem ct_side (n : Int) (es : List (Int × Int)) (i : Nat) (hi : i < es.length) (x : Int) : F_spec_l6Side n es (i : Int) x = F_spec_l6Side n (wo es i) (-1) x := by
  unfold F_spec_l6Side
  obtain ⟨o1, a, b, h1, h2⟩ := ct_L1 es i hi (6 - 0 + 1) 0 [x]
  rw [h1, h2]
  rfl
theorem wo_dm {n : Int} {es : List (Int × Int)} (h : DmA n es) (i : Nat) : DmA n (wo es i) := fun k => by
  unfold wo
  rw [List.getD_eq_getElem?_getD]
  by_cases e : k < (es.take i).length
  · rw [List.getElem?_append_left e]
    have h2 := h k
    rw [List.getD_eq_getElem?_getD] at h2
    rw [List.length_take] at e
    rw [List.getElem?_take_of_lt (by omega)]
    exact h2
  · rw [List.getElem?_append_right (by omega), List.getElem?_drop]
    have h2 := h (i + 1 + (k - (es.take i).length))
    rw [List.getD_eq_getElem?_getD] at h2
    exact h2
end Go.Proofs.Ytcmhgkcifejgcaa
namespace Go.Proofs.Ytcmhgkcifejgcaa
set_option linter.unusedVariables false
set_option linter.unusedSimpArgs false
open Go Go.RowKit
set_option linter.unusedVariables false

def F_slices_Concat_S_2_int_2_int_L1 (slices : List (List (Int × Int))) : Nat → Nat × Nat → Ctl (Nat × Nat) (List (Int × Int))
  | 0, s => .next s
  | mf1 + 1, (size1, k11_1) => (bif decide ((k11_1 : Int) < (slices.length : Int)) then (bif decide ((size1 : Int) + ((slices.getD k11_1 []).length : Int) < 0) then default else F_slices_Concat_S_2_int_2_int_L1 slices mf1 ((size1 + (slices.getD k11_1 []).length), (k11_1 + 1))) else (.next (size1, k11_1)))
theorem F_slices_Concat_S_2_int_2_int_L1_s (slices : List (List (Int × Int))) (size1 : Nat) (k11_1 : Nat) (mf1 : Nat) : F_slices_Concat_S_2_int_2_int_L1 slices (mf1 + 1) (size1, k11_1) = (bif decide ((k11_1 : Int) < (slices.length : Int)) then (bif decide ((size1 : Int) + ((slices.getD k11_1 []).length : Int) < 0) then default else F_slices_Concat_S_2_int_2_int_L1 slices mf1 ((size1 + (slices.getD k11_1 []).length), (k11_1 + 1))) else (.next (size1, k11_1))) := rfl
def F_slices_Concat_S_2_int_2_int_L2 (slices : List (List (Int × Int))) : Nat → List (Int × Int) × Nat → Ctl (List (Int × Int) × Nat) (List (Int × Int))
  | 0, s => .next s
  | mf2 + 1, (newslice2, k27_2) => (bif decide ((k27_2 : Int) < (slices.length : Int)) then F_slices_Concat_S_2_int_2_int_L2 slices mf2 ((newslice2 ++ (slices.getD k27_2 [])), (k27_2 + 1)) else (.next (newslice2, k27_2)))
theorem F_slices_Concat_S_2_int_2_int_L2_s (slices : List (List (Int × Int))) (newslice2 : List (Int × Int)) (k27_2 : Nat) (mf2 : Nat) : F_slices_Concat_S_2_int_2_int_L2 slices (mf2 + 1) (newslice2, k27_2) = (bif decide ((k27_2 : Int) < (slices.length : Int)) then F_slices_Concat_S_2_int_2_int_L2 slices mf2 ((newslice2 ++ (slices.getD k27_2 [])), (k27_2 + 1)) else (.next (newslice2, k27_2))) := rfl
def F_slices_Concat_S_2_int_2_int (slices : List (List (Int × Int))) : List (Int × Int) := ((F_slices_Concat_S_2_int_2_int_L1 slices ((slices.length - 0) + 1) (0, 0)).elim (fun (_, _) => ((F_slices_Concat_S_2_int_2_int_L2 slices ((slices.length - 0) + 1) (([] : List (Int × Int)), 0)).elim (fun (newslice2, _) => newslice2) (fun r => r))) (fun r => r))

def F_impl_CutsOfTree_L1 (m : List (List Int)) : Nat → List (List Int) × Nat → Ctl (List (List Int) × Nat) (List (List Int) × Bool)
  | 0, s => .next s
  | mf1 + 1, (out1, k16_1) => (bif decide ((k16_1 : Int) < ((F_impl_Metric_spanningTree m).length : Int)) then F_impl_CutsOfTree_L1 m mf1 ((out1 ++ [(F_impl_sideOf (F_slices_Concat_S_2_int_2_int ([(((F_impl_Metric_spanningTree m).take k16_1).drop 0), (((F_impl_Metric_spanningTree m).take ((F_impl_Metric_spanningTree m).length)).drop (k16_1 + 1))])) (((F_impl_Metric_spanningTree m).getD k16_1 (0, 0)).1))]), (k16_1 + 1)) else (.next (out1, k16_1)))
theorem F_impl_CutsOfTree_L1_s (m : List (List Int)) (out1 : List (List Int)) (k16_1 : Nat) (mf1 : Nat) : F_impl_CutsOfTree_L1 m (mf1 + 1) (out1, k16_1) = (bif decide ((k16_1 : Int) < ((F_impl_Metric_spanningTree m).length : Int)) then F_impl_CutsOfTree_L1 m mf1 ((out1 ++ [(F_impl_sideOf (F_slices_Concat_S_2_int_2_int ([(((F_impl_Metric_spanningTree m).take k16_1).drop 0), (((F_impl_Metric_spanningTree m).take ((F_impl_Metric_spanningTree m).length)).drop (k16_1 + 1))])) (((F_impl_Metric_spanningTree m).getD k16_1 (0, 0)).1))]), (k16_1 + 1)) else (.next (out1, k16_1))) := rfl
def F_impl_CutsOfTree (m : List (List Int)) : List (List Int) × Bool := (bif !(F_impl_IsMetric m) then ([], false) else ((F_impl_CutsOfTree_L1 m ((((F_impl_Metric_spanningTree m).length) - 0) + 1) (([]), 0)).elim (fun (out1, _) => (out1, true)) (fun r => r)))

def F_spec_CutsOfTree_L1 (m : List (List Int)) : Nat → List (List Int) × Nat → Ctl (List (List Int) × Nat) (List (List Int) × Bool)
  | 0, s => .next s
  | mf1 + 1, (out1, i1) => (bif decide ((i1 : Int) < ((F_spec_l6Tree m).1.length : Int)) then F_spec_CutsOfTree_L1 m mf1 ((out1 ++ [(F_spec_l6Side (m.length : Int) ((F_spec_l6Tree m).1) (i1 : Int) (((F_spec_l6Tree m).1.getD i1 (0, 0)).1))]), (i1 + 1)) else (.next (out1, i1)))
theorem F_spec_CutsOfTree_L1_s (m : List (List Int)) (out1 : List (List Int)) (i1 : Nat) (mf1 : Nat) : F_spec_CutsOfTree_L1 m (mf1 + 1) (out1, i1) = (bif decide ((i1 : Int) < ((F_spec_l6Tree m).1.length : Int)) then F_spec_CutsOfTree_L1 m mf1 ((out1 ++ [(F_spec_l6Side (m.length : Int) ((F_spec_l6Tree m).1) (i1 : Int) (((F_spec_l6Tree m).1.getD i1 (0, 0)).1))]), (i1 + 1)) else (.next (out1, i1))) := rfl
def F_spec_CutsOfTree (m : List (List Int)) : List (List Int) × Bool := (bif !(F_spec_l6Good m) then ([], false) else ((F_spec_CutsOfTree_L1 m ((((F_spec_l6Tree m).1.length) - 0) + 1) (([]), 0)).elim (fun (out1, _) => (out1, true)) (fun r => r)))

def F_laws_FnExactCutsOfTree (m : List (List Int)) : Bool := (bif decide ((F_laws_szMetric m 1048576) < 0) then true else (bif ((!(F_laws_eqIntSS ((F_impl_CutsOfTree (F_laws_toMetric m)).1) ((F_spec_CutsOfTree (F_laws_toMetric m)).1))) || (((F_impl_CutsOfTree (F_laws_toMetric m)).2) != ((F_spec_CutsOfTree (F_laws_toMetric m)).2))) then false else (bif !(F_laws_eqMetric (F_laws_toMetric m) (F_laws_toMetric m)) then false else (bif (((decide ((F_laws_markMetric (F_laws_toMetric m) 1).1 < 0)) || (!(F_laws_eqIntSS ((F_impl_CutsOfTree (F_laws_toMetric m)).1) ((F_spec_CutsOfTree (F_laws_toMetric m)).1)))) || (((F_impl_CutsOfTree (F_laws_toMetric m)).2) != ((F_spec_CutsOfTree (F_laws_toMetric m)).2))) then false else (bif decide ((F_laws_heldIntSS ((F_laws_markIntSS ((F_impl_CutsOfTree (F_laws_toMetric m)).1) 1).2) 1) < 0) then false else (bif !decide ((F_laws_heldIntSS ((F_laws_markIntSS ((F_impl_CutsOfTree (F_laws_toMetric m)).1) 1).2) 1) = (F_laws_markIntSS ((F_impl_CutsOfTree (F_laws_toMetric m)).1) 1).1) then false else true))))))


end Go.Proofs.Ytcmhgkcifejgcaa
namespace Go.Proofs.Ytcmhgkcifejgcaa
set_option linter.unusedVariables false
set_option linter.unusedSimpArgs false
open Go Go.RowKit
set_option linter.unusedVariables false
set_option linter.unusedSimpArgs false
theorem concatP_eq (a b : List (Int × Int)) : F_slices_Concat_S_2_int_2_int [a, b] = a ++ b := by
  unfold F_slices_Concat_S_2_int_2_int
  have h1 : ∃ s, F_slices_Concat_S_2_int_2_int_L1 [a, b] (([a, b] : List (List (Int × Int))).length - 0 + 1) (0, 0) = .next s := by
    show ∃ s, F_slices_Concat_S_2_int_2_int_L1 [a, b] (2 + 1) (0, 0) = .next s
    rw [F_slices_Concat_S_2_int_2_int_L1_s, decide_eq_true (by simp), cond_true, decide_eq_false (by omega), cond_false, F_slices_Concat_S_2_int_2_int_L1_s, decide_eq_true (by simp), cond_true, decide_eq_false (by omega), cond_false, F_slices_Concat_S_2_int_2_int_L1_s, decide_eq_false (by simp), cond_false]
    exact ⟨_, rfl⟩
  obtain ⟨s, h1⟩ := h1
  have h2 : F_slices_Concat_S_2_int_2_int_L2 [a, b] (([a, b] : List (List (Int × Int))).length - 0 + 1) ([], 0) = .next (a ++ b, 2) := by
    show F_slices_Concat_S_2_int_2_int_L2 [a, b] (2 + 1) ([], 0) = .next (a ++ b, 2)
    rw [F_slices_Concat_S_2_int_2_int_L2_s, decide_eq_true (by simp), cond_true, F_slices_Concat_S_2_int_2_int_L2_s, decide_eq_true (by simp), cond_true, F_slices_Concat_S_2_int_2_int_L2_s, decide_eq_false (by simp), cond_false]
    rfl
  rw [h1, elim_next, h2, elim_next]
theorem concat_wo {t : List (Int × Int)} (i : Nat) : F_slices_Concat_S_2_int_2_int [(t.take i).drop 0, (t.take t.length).drop (i + 1)] = wo t i := by
  rw [concatP_eq, List.drop_zero, List.take_length]
  rfl
/-- What the walk of the cuts asks at an edge. -/
structure CtOk (t : List (Int × Int)) (i : Nat) : Prop where
  a : ([(t.take i).drop 0, (t.take t.length).drop (i + 1)] : List (List (Int × Int))).length ≤ 4
  b : ∀ j : Nat, (([(t.take i).drop 0, (t.take t.length).drop (i + 1)] : List (List (Int × Int))).getD j []).length ≤ 1000
  c : (F_slices_Concat_S_2_int_2_int [(t.take i).drop 0, (t.take t.length).drop (i + 1)]).length ≤ 100000
  d : DmA 6 (F_slices_Concat_S_2_int_2_int [(t.take i).drop 0, (t.take t.length).drop (i + 1)])
theorem ct_ok {t : List (Int × Int)} {i : Nat} (h : DmA 6 t) (hl : t.length ≤ 1000) (hi : i < t.length) : CtOk t i := by
  have hw := wo_len hi
  refine ⟨by simp, fun j => ?_, by rw [concat_wo, hw]; omega, by rw [concat_wo]; exact wo_dm h i⟩
  match j with
  | 0 => simp; omega
  | 1 => simp; omega
  | j + 2 => simp
theorem lt_L1 (m : List (List Int)) (he : DmA m.length (F_spec_l6Edges m)) : ∀ (fuel k : Nat) (s : Int) (d : List (Int × Int)), ∃ d' s' k', F_spec_l6Tree_L1 m fuel (d, s, k) = .next (d', s', k') ∧ Mor m.length fuel d d' := by
  intro fuel
  induction fuel with
  | zero => intro k s d; exact ⟨d, s, k, rfl, Mor.refl d⟩
  | succ f ih =>
    intro k s d
    rw [F_spec_l6Tree_L1_s]
    cases decide ((k : Int) < ((F_spec_l6Edges m).length : Int))
    · exact ⟨d, s, k, rfl, Mor.refl d⟩
    · cases (!(F_spec_l1Has (F_spec_l6Side (m.length : Int) d (-1) (((F_spec_l6Edges m).getD k (0, 0)).1)) (((F_spec_l6Edges m).getD k (0, 0)).2)))
      · obtain ⟨d', s', k', h1, h2⟩ := ih (k + 1) s d
        exact ⟨d', s', k', h1, (Mor.refl (k := 0) d).trans h2 (by omega)⟩
      · obtain ⟨d', s', k', h1, h2⟩ := ih (k + 1) _ (d ++ [(((F_spec_l6Edges m).getD k (0, 0)).1, ((F_spec_l6Edges m).getD k (0, 0)).2)])
        exact ⟨d', s', k', h1, (Mor.one d (he k)).trans h2 (by omega)⟩
theorem tree_bd {m : List (List Int)} (h : Tab m) : (F_spec_l6Tree m).1.length ≤ 100000 ∧ DmA m.length (F_spec_l6Tree m).1 := by
  have h1 := h.n1
  obtain ⟨e1, e2⟩ := edges_bd h
  unfold F_spec_l6Tree
  obtain ⟨d, s', k', f1, f2⟩ := lt_L1 m e2 ((F_spec_l6Edges m).length - 0 + 1) 0 0 []
  have f3 := f2 (DmA.nil (by omega))
  rw [f1, elim_next]
  have f4 := f3.2
  simp only [List.length_nil] at f4
  exact ⟨by dsimp only; omega, f3.1⟩
theorem side_len (n : Nat) (es : List (Int × Int)) (wi x : Int) : (F_spec_l6Side n es wi x).length ≤ n := by
  unfold F_spec_l6Side
  rcases hR : F_spec_l6Side_L1 es wi (6 - 0 + 1) ([x], 0) with ⟨o, i'⟩ | r
  · rw [elim_next]
    dsimp only
    obtain ⟨k', d, g1, g2, g3⟩ := sd_L3b n o (((n : Int)).toNat - 0 + 1) 0 [] (by omega) (by omega) (by simp [Rise]) (by simp) (fun v => by simp <;> omega)
    rw [g1, elim_next]
    dsimp only
    exact st_len n d (g2.imp (fun h => by omega)) (fun v hv => ((g3 v).1 hv).2)
  · exfalso
    revert hR
    have : ∀ (fuel i : Nat) (o : List Int) (r : List Int), F_spec_l6Side_L1 es wi fuel (o, i) ≠ .ret r := by
      intro fuel
      induction fuel with
      | zero => intro i o r h; cases h
      | succ f ih =>
        intro i o r
        rw [F_spec_l6Side_L1_s]
        cases decide ((i : Int) < (o.length : Int))
        · intro h; cases h
        · rw [cond_true]
          obtain ⟨o', k', h⟩ : ∃ o' k', F_spec_l6Side_L2 es wi i (es.length - 0 + 1) (o, 0) = .next (o', k') := by
            generalize es.length - 0 + 1 = fu
            generalize 0 = k
            induction fu generalizing k o with
            | zero => exact ⟨o, k, rfl⟩
            | succ g ih2 =>
              rw [F_spec_l6Side_L2_s]
              cases decide ((k : Int) < (es.length : Int))
              · exact ⟨o, k, rfl⟩
              · cases decide ((k : Int) = wi)
                · rw [cond_true, cond_false]
                  cases (decide ((es.getD k (0, 0)).1 = o.getD i 0) && !(F_spec_l1Has o (es.getD k (0, 0)).2))
                  · cases (decide ((es.getD k (0, 0)).2 = o.getD i 0) && !(F_spec_l1Has o (es.getD k (0, 0)).1))
                    · exact ih2 _ _
                    · exact ih2 _ _
                  · cases (decide ((es.getD k (0, 0)).2 = (o ++ [(es.getD k (0, 0)).2]).getD i 0) && !(F_spec_l1Has (o ++ [(es.getD k (0, 0)).2]) (es.getD k (0, 0)).1))
                    · exact ih2 _ _
                    · exact ih2 _ _
                · exact ih2 _ _
          rw [h, elim_next]
          exact ih _ _ _
    exact this _ _ _ _
theorem cu_L1 {m : List (List Int)} (hT : Tab m) (ht : F_impl_Metric_spanningTree m = (F_spec_l6Tree m).1) : ∀ (fuel i : Nat) (d : List (List Int)), F_impl_CutsOfTree_L1 m fuel (d, i) = F_spec_CutsOfTree_L1 m fuel (d, i) := by
  intro fuel
  induction fuel with
  | zero => intro i d; rfl
  | succ f ih =>
    intro i d
    rw [F_impl_CutsOfTree_L1_s, F_spec_CutsOfTree_L1_s, ht, concat_wo]
    by_cases hl : i < (F_spec_l6Tree m).1.length
    · rw [bif_pos (decide_eq_true (by omega)), bif_pos (decide_eq_true (by omega))]
      have hd := (tree_bd hT).2
      rw [side_eq m.length (wo (F_spec_l6Tree m).1 i) _ (wo_dm hd i) (hd i).p.1, ct_side _ _ i hl]
      exact ih (i + 1) _
    · rw [bif_neg (decide_eq_false (by omega)), bif_neg (decide_eq_false (by omega))]
theorem cuts_both (m : List (List Int)) : F_impl_CutsOfTree m = F_spec_CutsOfTree m := by
  unfold F_impl_CutsOfTree F_spec_CutsOfTree
  rw [isMetric_eq]
  cases hg : F_spec_l6Good m
  · rfl
  · have hT := l6Good_t hg
    have ht := (tree_eq hT (srt_good ((l6Good_iff m).1 hg).1)).1
    rw [Bool.not_true, cond_false, cond_false, cu_L1 hT ht, ht]
theorem cu_tot (m : List (List Int)) (hn : m.length ≤ 6) : ∀ (fuel i : Nat) (d : List (List Int)), (∀ r ∈ d, r.length ≤ 6) → ∃ d' i', F_spec_CutsOfTree_L1 m fuel (d, i) = .next (d', i') ∧ d'.length ≤ d.length + fuel ∧ ∀ r ∈ d', r.length ≤ 6 := by
  intro fuel
  induction fuel with
  | zero => intro i d h; exact ⟨d, i, rfl, by omega, h⟩
  | succ f ih =>
    intro i d h
    rw [F_spec_CutsOfTree_L1_s]
    cases decide ((i : Int) < ((F_spec_l6Tree m).1.length : Int))
    · exact ⟨d, i, rfl, by omega, h⟩
    · obtain ⟨d', i', h1, h2, h3⟩ := ih (i + 1) (d ++ [(F_spec_l6Side (m.length : Int) ((F_spec_l6Tree m).1) (i : Int) (((F_spec_l6Tree m).1.getD i (0, 0)).1))]) (fun r hr => by
        rcases List.mem_append.1 hr with e | e
        · exact h r e
        · rw [List.mem_singleton.1 e]
          have := side_len m.length (F_spec_l6Tree m).1 i ((F_spec_l6Tree m).1.getD i (0, 0)).1
          omega)
      refine ⟨d', i', h1, ?_, h3⟩
      simp only [List.length_append, List.length_singleton] at h2
      omega
theorem cuts_total (m : List (List Int)) : total (F_impl_CutsOfTree m).1 ≤ 1000000 := by
  rw [cuts_both]
  unfold F_spec_CutsOfTree
  cases hg : F_spec_l6Good m
  · simp [total]
  · have hT := l6Good_t hg
    have hb := (tree_bd hT).1
    obtain ⟨d', i', h1, h2, h3⟩ := cu_tot m hT.n6 ((F_spec_l6Tree m).1.length - 0 + 1) 0 [] (fun r hr => by cases hr)
    rw [Bool.not_true, cond_false, h1, elim_next]
    have h4 := total_le 6 d' h3
    simp only [List.length_nil] at h2
    dsimp only
    omega
theorem law_CutsOfTree (m : List (List Int)) : F_laws_FnExactCutsOfTree m = true := by
  unfold F_laws_FnExactCutsOfTree
  simp only [toMetric_eq, cuts_both, eqMetric_refl, eqIntSS_refl, markMetric_eq, heldIntSS_marked _ 1 (by omega)]
  simp only [markIntSS_eq]
  have h1 : ¬ ((1 : Int) + (total m : Int) < 0) := by omega
  have h2 : ¬ ((1 : Int) + (total (F_spec_CutsOfTree m).1 : Int) < 0) := by omega
  simp [h1, h2]
end Go.Proofs.Ytcmhgkcifejgcaa
namespace Go.Proofs.Ytcmhgkcifejgcaa
set_option linter.unusedVariables false
set_option linter.unusedSimpArgs false
open Go Go.RowKit
set_option linter.unusedVariables false

set_option maxRecDepth 4000 in
set_option maxHeartbeats 1000000 in
theorem slices_Concat_S_2_int_2_int_ok (w : World) (vslices : Value) (uslices : List Value) (slices : List (List (Int × Int))) (hslices : RPP w vslices uslices slices) (hp0 : slices.length ≤ 4) (hp1 : ∀ i : Nat, (slices.getD i []).length ≤ 1000) :
    Calls Try.prog 96 ([vslices] : List Value).toArray w (fun e w' => ∃ i : Value, e = .returned i ∧ Hp w [rowP 85 i (F_slices_Concat_S_2_int_2_int slices)] w') := by
  obtain ⟨rz, hF⟩ : ∃ rz, (F_slices_Concat_S_2_int_2_int slices) = rz := ⟨_, rfl⟩
  rw [hF]
  unfold F_slices_Concat_S_2_int_2_int at hF
  have hlen_slices := argTP_len hslices
  refine calls_tc Try.func96 rfl rfl rfl ?_
  change TC _ _ _ _ (Hp w []) [(0, vslices)]
  refine TC.seq ?_
  refine TC.region ?_
  refine TL.op (yq (y_assign ev_c)) rfl rfl rfl ?_
  refine TL.nil ?_
  refine TN.seq ?_
  refine TC.seq ?_
  refine TC.region ?_
  refine TL.op (yq (y_assign ev_c)) rfl rfl rfl ?_
  refine TL.nil ?_
  refine TN.seq ?_
  refine TC.seq ?_
  refine TC.seq ?_
  refine TC.region ?_
  refine TL.op (yq (y_move (ev_t rfl))) rfl rfl rfl ?_
  refine TL.op (yq (y_len (ev_t rfl) Try.underlying139 (fun w hw => ((fun w hw => ((rpp_arg hslices) w hw).1) w hw).ln))) rfl rfl rfl ?_
  refine TL.op (yq (y_move ev_c)) rfl rfl rfl ?_
  refine TL.nil ?_
  refine TN.seq ?_
  refine TC.block ?_
  obtain ⟨c21, hc22⟩ : ∃ c, F_slices_Concat_S_2_int_2_int_L1 slices ((slices.length - 0) + 1) (0, 0) = c := ⟨_, rfl⟩
  rw [hc22] at hF
  refine TC.loop (ι := Nat × Nat × Nat) (fun (fu1, size1, k11_1) => [(0, vslices), (3, (.int .i64 (size1 : Int))), (9, vslices), (10, (.int .i64 (slices.length : Int))), (11, (.int .i64 (k11_1 : Int)))]) (fun (fu1, size1, k11_1) => Hp w []) (fun (fu1, size1, k11_1) => (k11_1 ≤ slices.length) ∧ (size1 ≤ 1000 * k11_1) ∧ slices.length - k11_1 < fu1 ∧ F_slices_Concat_S_2_int_2_int_L1 slices fu1 (size1, k11_1) = c21) (fun (fu1, size1, k11_1) => fu1) ((slices.length - 0) + 1, 0, 0) ⟨(by first | omega | (simp [-List.getD_eq_getElem?_getD] <;> omega)), (by first | omega | (simp [-List.getD_eq_getElem?_getD] <;> omega)), (by omega), hc22⟩ ⟨rfl, rfl, rfl, rfl, rfl, trivial⟩ (fun w hw => hw) ?_
  rintro ⟨fu1, size1, k11_1⟩ hJ1
  obtain ⟨hi1_0, hi1_1, hmu1, hL1⟩ : (k11_1 ≤ slices.length) ∧ (size1 ≤ 1000 * k11_1) ∧ slices.length - k11_1 < fu1 ∧ F_slices_Concat_S_2_int_2_int_L1 slices fu1 (size1, k11_1) = c21 := hJ1
  change TC _ _ _ _ (Hp w []) [(0, vslices), (3, (.int .i64 (size1 : Int))), (9, vslices), (10, (.int .i64 (slices.length : Int))), (11, (.int .i64 (k11_1 : Int)))]
  obtain ⟨mf1, rfl⟩ : ∃ m, fu1 = m + 1 := ⟨fu1 - 1, by omega⟩
  rw [F_slices_Concat_S_2_int_2_int_L1_s] at hL1
  have hst := hp1 k11_1
  refine TC.seq ?_
  refine TC.region ?_
  refine TL.op (yq (y_lss (ev_t rfl) (ev_t rfl))) rfl rfl rfl ?_
  refine TL.nil ?_
  refine TN.seq ?_
  refine TC.seq ?_
  refine TC.cond (b := decide ((k11_1 : Int) < (slices.length : Int))) (ev_t rfl) (fun h23 => ?_) (fun h23 => ?_)
  · rw [bif_pos h23] at hL1
    have q24 := (of_decide_eq_true h23)
    refine TC.skip ?_
    refine TN.seq ?_
    refine TC.seq ?_
    refine TC.block ?_
    refine TC.seq ?_
    refine TC.region ?_
    have hb25 : k11_1 < slices.length := (by first | omega | (simp only [List.length_set, List.length_append, List.length_cons, List.length_nil, List.length_replicate]; omega) | (rw [sortI_length]; simp only [List.length_cons, List.length_nil]; omega))
    refine TL.op (yq (y_idx (k := k11_1) (ev_t rfl) (ev_t rfl) (by first | omega | simp) slT_139 (fun w hw => ((rpp_arg hslices) w hw).1) hb25)) rfl rfl rfl ?_
    have ha26 := hslices.row (i := k11_1) hb25
    refine TL.op (yq (y_ldAP (ev_t rfl) one_37 (rpp_arg hslices) hb25)) rfl rfl rfl ?_
    refine TL.op (yq (y_assign (ev_t rfl))) rfl rfl rfl ?_
    refine TL.nil ?_
    refine TN.seq ?_
    refine TC.seq ?_
    refine TC.region ?_
    refine TL.op (yq (y_move (ev_t rfl))) rfl rfl rfl ?_
    refine TL.op (yq (y_move (ev_t rfl))) rfl rfl rfl ?_
    refine TL.op (yq (y_len (ev_t rfl) Try.underlying37 (fun w hw => ((rp_arg ha26) w hw).ln))) rfl rfl rfl ?_
    refine TL.op (yq (y_add (ev_t rfl) (ev_t rfl) (by unfold In64; constructor <;> omega))) rfl rfl rfl ?_
    refine TL.op (yq (y_assign (ev_t rfl))) rfl rfl rfl ?_
    refine TL.nil ?_
    refine TN.seq ?_
    refine TC.seq ?_
    refine TC.region ?_
    refine TL.op (yq (y_move (ev_t rfl))) rfl rfl rfl ?_
    refine TL.op (yq (y_lss (ev_t rfl) ev_c)) rfl rfl rfl ?_
    refine TL.nil ?_
    refine TN.seq ?_
    refine TC.cond (b := decide ((size1 : Int) + ((slices.getD k11_1 []).length : Int) < 0)) (ev_t rfl) (fun h27 => ?_) (fun h27 => ?_)
    · rw [bif_pos h27] at hL1
      have q28 := (of_decide_eq_true h27)
      exfalso; omega
    · rw [bif_neg h27] at hL1
      have q28 := (of_decide_eq_false h27)
      refine TC.skip ?_
      refine TN.blockN ?_
      refine TN.seq ?_
      refine TC.region ?_
      refine TL.op (yq (y_add (ev_t rfl) ev_c (by unfold In64; constructor <;> omega))) rfl rfl rfl ?_
      refine TL.op (yq (y_move (ev_t rfl))) rfl rfl rfl ?_
      refine TL.nil ?_
      exact TN.hand (mf1, (size1 + (slices.getD k11_1 []).length), (k11_1 + 1)) ⟨(by first | omega | (simp [-List.getD_eq_getElem?_getD] <;> omega)), (by first | omega | (simp [-List.getD_eq_getElem?_getD] <;> omega)), (by omega), hL1⟩ (Nat.lt_succ_self _) ⟨rfl, rfl, rfl, rfl, rfl, trivial⟩ (fun w hw => hw)
  · rw [bif_neg h23] at hL1
    have q24 := (of_decide_eq_false h23)
    refine TC.exit ?_
    refine TN.thenE ?_
    refine TN.thenE ?_
    rw [← hL1, elim_next] at hF
    try dsimp only at hF
    refine TN.blockH ?_
    refine TN.seq ?_
    refine TC.seq ?_
    refine TC.region ?_
    refine TL.op (yq (y_move (ev_t rfl))) rfl rfl rfl ?_
    refine TL.callr (ι := Value) (vs := [(.slice none 0 0), (.int .i64 (size1 : Int))]) (fun i => i) (fun i => [rowP 85 i ([] : List (Int × Int))]) en_134 ⟨ev_c, (ev_t rfl), trivial⟩ rfl (fun w hw => slices_GrowP_ok w (size1 : Int) (by first | assumption | omega | grind) (by first | assumption | omega | grind)) (fun r9_1 => ?_)
    refine TL.op (yq (y_assign (ev_t rfl))) rfl rfl rfl ?_
    refine TL.nil ?_
    refine TN.seq ?_
    refine TC.seq ?_
    refine TC.seq ?_
    refine TC.region ?_
    refine TL.op (yq (y_move (ev_t rfl))) rfl rfl rfl ?_
    refine TL.op (yq (y_len (ev_t rfl) Try.underlying139 (fun w hw => ((fun w hw => ((rpp_arg hslices) w hw).1) w hw).ln))) rfl rfl rfl ?_
    refine TL.op (yq (y_move ev_c)) rfl rfl rfl ?_
    refine TL.nil ?_
    refine TN.seq ?_
    refine TC.block ?_
    obtain ⟨c29, hc30⟩ : ∃ c, F_slices_Concat_S_2_int_2_int_L2 slices ((slices.length - 0) + 1) (([] : List (Int × Int)), 0) = c := ⟨_, rfl⟩
    rw [hc30] at hF
    refine TC.loop (ι := Nat × List (Int × Int) × Nat × Value) (fun (fu2, newslice2, k27_2, vnewslice2) => [(6, vnewslice2), (25, vslices), (26, (.int .i64 (slices.length : Int))), (27, (.int .i64 (k27_2 : Int)))]) (fun (fu2, newslice2, k27_2, vnewslice2) => Hp w [rowP 85 vnewslice2 newslice2]) (fun (fu2, newslice2, k27_2, vnewslice2) => (k27_2 ≤ slices.length) ∧ (newslice2.length ≤ 1000 * k27_2) ∧ slices.length - k27_2 < fu2 ∧ F_slices_Concat_S_2_int_2_int_L2 slices fu2 (newslice2, k27_2) = c29) (fun (fu2, newslice2, k27_2, vnewslice2) => fu2) ((slices.length - 0) + 1, ([] : List (Int × Int)), 0, r9_1) ⟨(by first | omega | (simp [-List.getD_eq_getElem?_getD] <;> omega)), (by first | omega | (simp [-List.getD_eq_getElem?_getD] <;> omega)), (by omega), hc30⟩ ⟨rfl, rfl, rfl, rfl, trivial⟩ (fun w hw => hw) ?_
    rintro ⟨fu2, newslice2, k27_2, vnewslice2⟩ hJ2
    obtain ⟨hi2_0, hi2_1, hmu2, hL2⟩ : (k27_2 ≤ slices.length) ∧ (newslice2.length ≤ 1000 * k27_2) ∧ slices.length - k27_2 < fu2 ∧ F_slices_Concat_S_2_int_2_int_L2 slices fu2 (newslice2, k27_2) = c29 := hJ2
    change TC _ _ _ _ (Hp w [rowP 85 vnewslice2 newslice2]) [(6, vnewslice2), (25, vslices), (26, (.int .i64 (slices.length : Int))), (27, (.int .i64 (k27_2 : Int)))]
    obtain ⟨mf2, rfl⟩ : ∃ m, fu2 = m + 1 := ⟨fu2 - 1, by omega⟩
    rw [F_slices_Concat_S_2_int_2_int_L2_s] at hL2
    have hst := hp1 k27_2
    refine TC.seq ?_
    refine TC.region ?_
    refine TL.op (yq (y_lss (ev_t rfl) (ev_t rfl))) rfl rfl rfl ?_
    refine TL.nil ?_
    refine TN.seq ?_
    refine TC.seq ?_
    refine TC.cond (b := decide ((k27_2 : Int) < (slices.length : Int))) (ev_t rfl) (fun h31 => ?_) (fun h31 => ?_)
    · rw [bif_pos h31] at hL2
      have q32 := (of_decide_eq_true h31)
      refine TC.skip ?_
      refine TN.seq ?_
      refine TC.seq ?_
      refine TC.block ?_
      refine TC.seq ?_
      refine TC.region ?_
      have hb33 : k27_2 < slices.length := (by first | omega | (simp only [List.length_set, List.length_append, List.length_cons, List.length_nil, List.length_replicate]; omega) | (rw [sortI_length]; simp only [List.length_cons, List.length_nil]; omega))
      refine TL.op (yq (y_idx (k := k27_2) (ev_t rfl) (ev_t rfl) (by first | omega | simp) slT_139 (fun w hw => ((rpp_arg hslices) w hw).1) hb33)) rfl rfl rfl ?_
      have ha34 := hslices.row (i := k27_2) hb33
      refine TL.op (yq (y_ldAP (ev_t rfl) one_37 (rpp_arg hslices) hb33)) rfl rfl rfl ?_
      refine TL.op (yq (y_assign (ev_t rfl))) rfl rfl rfl ?_
      refine TL.nil ?_
      refine TN.seq ?_
      refine TC.region ?_
      refine TL.op (yq (y_move (ev_t rfl))) rfl rfl rfl ?_
      refine TL.op (yq (y_move (ev_t rfl))) rfl rfl rfl ?_
      refine TL.appendP 0 (ev_t rfl) (ev_t rfl) rfl slT_37 (rp_arg ha34) (by first | omega | (simp [-List.getD_eq_getElem?_getD] <;> omega)) rfl (fun v13_2 => ?_)
      refine TL.op (yq (y_assign (ev_t rfl))) rfl rfl rfl ?_
      refine TL.nil ?_
      refine TN.blockN ?_
      refine TN.seq ?_
      refine TC.region ?_
      refine TL.op (yq (y_add (ev_t rfl) ev_c (by unfold In64; constructor <;> omega))) rfl rfl rfl ?_
      refine TL.op (yq (y_move (ev_t rfl))) rfl rfl rfl ?_
      refine TL.nil ?_
      exact TN.hand (mf2, (newslice2 ++ (slices.getD k27_2 [])), (k27_2 + 1), v13_2) ⟨(by first | omega | (simp [-List.getD_eq_getElem?_getD] <;> omega)), (by first | omega | (simp [-List.getD_eq_getElem?_getD] <;> omega)), (by omega), hL2⟩ (Nat.lt_succ_self _) ⟨rfl, rfl, rfl, rfl, trivial⟩ (fun w hw => hw)
    · rw [bif_neg h31] at hL2
      have q32 := (of_decide_eq_false h31)
      refine TC.exit ?_
      refine TN.thenE ?_
      refine TN.thenE ?_
      rw [← hL2, elim_next] at hF
      try dsimp only at hF
      refine TN.blockH ?_
      refine TN.seq ?_
      refine TC.seq ?_
      refine TC.region ?_
      refine TL.op (yq (y_move (ev_t rfl))) rfl rfl rfl ?_
      refine TL.op (yq (y_assign (ev_t rfl))) rfl rfl rfl ?_
      refine TL.nil ?_
      refine TN.seq ?_
      refine TC.ret ?_
      subst hF
      exact TN.ret1 rfl (ev_t rfl) (fun w' hw => ⟨vnewslice2, rfl, hw⟩)

set_option maxRecDepth 4000 in
set_option maxHeartbeats 1000000 in
theorem impl_CutsOfTree_ok (w : World) (vm : Value) (um : List Value) (m : List (List Int)) (hm : RII w vm um m)  :
    Calls Try.prog 46 ([(.agg #[vm])] : List Value).toArray w (fun e w' => ∃ i : Value × List Value, e = .returned (.tuple #[i.1, (.bool ((F_impl_CutsOfTree m).2))]) ∧ Hp w [tabI 34 3 i.1 i.2 ((F_impl_CutsOfTree m).1)] w') := by
  obtain ⟨rz, hF⟩ : ∃ rz, (F_impl_CutsOfTree m) = rz := ⟨_, rfl⟩
  rw [hF]
  unfold F_impl_CutsOfTree at hF
  have hlen_m := argT_len hm
  refine calls_tc Try.func46 rfl rfl rfl ?_
  change TC _ _ _ _ (Hp w []) [(0, (.agg #[vm]))]
  refine TC.seq ?_
  refine TC.region ?_
  refine TL.box (ev_t rfl) rfl (fun g0_0 => ?_)
  refine TL.op (yq (y_assign ev_c)) rfl rfl rfl ?_
  refine TL.op (yq (y_assign ev_c)) rfl rfl rfl ?_
  refine TL.nil ?_
  refine TN.seq ?_
  refine TC.seq ?_
  refine TC.seq ?_
  refine TC.region ?_
  refine TL.op (yq (y_ldagg (cs := [vm]) 0 (ev_t rfl) agg_55 rfl)) rfl rfl rfl ?_
  refine TL.op (y_call (vs := [(.agg #[vm])]) (v := (.bool (F_impl_IsMetric m))) en_91 ⟨(ev_t rfl), trivial⟩ (fun w hw => impl_IsMetric_ok w vm um m ((rii_arg hm) w hw))) rfl rfl rfl ?_
  refine TL.op (yq (y_not (ev_t rfl))) rfl rfl rfl ?_
  refine TL.nil ?_
  refine TN.seq ?_
  refine TC.cond (b := !(F_impl_IsMetric m)) (ev_t rfl) (fun h29 => ?_) (fun h29 => ?_)
  · rw [bif_pos h29] at hF
    have q30 := (not_t h29)
    refine TC.seq ?_
    refine TC.region ?_
    refine TL.op (yq (y_assign ev_c)) rfl rfl rfl ?_
    refine TL.op (yq (y_assign ev_c)) rfl rfl rfl ?_
    refine TL.nil ?_
    refine TN.seq ?_
    refine TC.ret ?_
    refine TN.thenR ?_
    subst hF
    refine TN.cls (fun w hw => hw.nilTab 34 3) ?_
    exact TN.ret2 rfl (ev_t rfl) (ev_t rfl) (fun w' hw => ⟨((.slice none 0 0), []), rfl, Hp.sublist hw (.cons_cons _ (.cons _ .slnil))⟩)
  · rw [bif_neg h29] at hF
    have q30 := (isMetric_t (not_f h29))
    have hT := q30
    have hst := st_bd hT
    have hst1 := hst.1
    have hm6 := hst.2.mono (k := 6) (by have := hT.n6; omega)
    refine TC.skip ?_
    refine TN.seq ?_
    refine TC.seq ?_
    refine TC.region ?_
    refine TL.buildSlice (zs := []) (vs := []) slT_49 rfl trivial (by simp) rfl (by decide) rfl (fun v3_0 => ?_)
    refine TL.cls (fun w hw => hw.emptyTab 3) ?_
    refine TL.op (yq (y_assign (ev_t rfl))) rfl rfl rfl ?_
    refine TL.nil ?_
    refine TN.seq ?_
    refine TC.seq ?_
    refine TC.region ?_
    refine TL.op (yq (y_ldagg (cs := [vm]) 1 (ev_t rfl) agg_55 rfl)) rfl rfl rfl ?_
    refine TL.callr (ι := Value) (vs := [(.agg #[vm])]) (fun i => i) (fun i => [rowP 85 i (F_impl_Metric_spanningTree m)]) en_92 ⟨(ev_t rfl), trivial⟩ rfl (fun w hw => impl_Metric_spanningTree_ok w vm um m ((rii_arg hm) w hw) (by first | assumption | omega | grind)) (fun r4_1 => ?_)
    refine TL.op (yq (y_assign (ev_t rfl))) rfl rfl rfl ?_
    refine TL.nil ?_
    refine TN.seq ?_
    refine TC.seq ?_
    refine TC.seq ?_
    refine TC.region ?_
    refine TL.op (yq (y_move (ev_t rfl))) rfl rfl rfl ?_
    refine TL.op (yq (y_len (ev_t rfl) Try.underlying37 (fun w hw => ((rp_row 0 rfl) w hw).ln))) rfl rfl rfl ?_
    refine TL.op (yq (y_move ev_c)) rfl rfl rfl ?_
    refine TL.nil ?_
    refine TN.seq ?_
    refine TC.block ?_
    obtain ⟨c32, hc33⟩ : ∃ c, F_impl_CutsOfTree_L1 m ((((F_impl_Metric_spanningTree m).length) - 0) + 1) (([]), 0) = c := ⟨_, rfl⟩
    rw [hc33] at hF
    refine TC.loop (ι := Nat × List (List Int) × Nat × Value × List Value) (fun (fu1, out1, k16_1, vout1, uout1) => [(4, vout1), (5, r4_1), (14, r4_1), (15, (.int .i64 ((F_impl_Metric_spanningTree m).length : Int))), (16, (.int .i64 (k16_1 : Int)))]) (fun (fu1, out1, k16_1, vout1, uout1) => Hp w [rowP 85 r4_1 (F_impl_Metric_spanningTree m), tabI 34 3 vout1 uout1 out1]) (fun (fu1, out1, k16_1, vout1, uout1) => (k16_1 ≤ ((F_impl_Metric_spanningTree m).length)) ∧ (out1.length ≤ k16_1) ∧ ((F_impl_Metric_spanningTree m).length) - k16_1 < fu1 ∧ F_impl_CutsOfTree_L1 m fu1 (out1, k16_1) = c32) (fun (fu1, out1, k16_1, vout1, uout1) => fu1) ((((F_impl_Metric_spanningTree m).length) - 0) + 1, [], 0, v3_0, []) ⟨(by first | omega | (simp [-List.getD_eq_getElem?_getD] <;> omega)), (by first | omega | (simp [-List.getD_eq_getElem?_getD] <;> omega)), (by omega), hc33⟩ ⟨rfl, rfl, rfl, rfl, rfl, trivial⟩ (fun w hw => Hp.sublist hw (.cons_cons _ (.cons_cons _ (.cons _ .slnil)))) ?_
    rintro ⟨fu1, out1, k16_1, vout1, uout1⟩ hJ1
    obtain ⟨hi1_0, hi1_1, hmu1, hL1⟩ : (k16_1 ≤ ((F_impl_Metric_spanningTree m).length)) ∧ (out1.length ≤ k16_1) ∧ ((F_impl_Metric_spanningTree m).length) - k16_1 < fu1 ∧ F_impl_CutsOfTree_L1 m fu1 (out1, k16_1) = c32 := hJ1
    change TC _ _ _ _ (Hp w [rowP 85 r4_1 (F_impl_Metric_spanningTree m), tabI 34 3 vout1 uout1 out1]) [(4, vout1), (5, r4_1), (14, r4_1), (15, (.int .i64 ((F_impl_Metric_spanningTree m).length : Int))), (16, (.int .i64 (k16_1 : Int)))]
    obtain ⟨mf1, rfl⟩ : ∃ m, fu1 = m + 1 := ⟨fu1 - 1, by omega⟩
    rw [F_impl_CutsOfTree_L1_s] at hL1
    refine TC.seq ?_
    refine TC.region ?_
    refine TL.op (yq (y_lss (ev_t rfl) (ev_t rfl))) rfl rfl rfl ?_
    refine TL.nil ?_
    refine TN.seq ?_
    refine TC.seq ?_
    refine TC.cond (b := decide ((k16_1 : Int) < ((F_impl_Metric_spanningTree m).length : Int))) (ev_t rfl) (fun h34 => ?_) (fun h34 => ?_)
    · rw [bif_pos h34] at hL1
      have q35 := (of_decide_eq_true h34)
      have hct := ct_ok hm6 hst1 (i := k16_1) (by omega)
      have hct1 := hct.a
      have hct2 := hct.b
      have hct3 := hct.c
      have hct4 := hct.d
      have hse := (hm6 k16_1).p
      have hse1 := hse.1
      refine TC.skip ?_
      refine TN.seq ?_
      refine TC.seq ?_
      refine TC.block ?_
      refine TC.seq ?_
      refine TC.region ?_
      refine TL.op (yq (y_move (ev_t rfl))) rfl rfl rfl ?_
      have hb36 : k16_1 < (F_impl_Metric_spanningTree m).length := (by first | omega | (simp only [List.length_set, List.length_append, List.length_cons, List.length_nil, List.length_replicate]; omega) | (rw [sortI_length]; simp only [List.length_cons, List.length_nil]; omega))
      refine TL.op (yq (y_idx (k := k16_1) (ev_t rfl) (ev_t rfl) (by first | omega | simp) slT_37 (rp_row 0 rfl) hb36)) rfl rfl rfl ?_
      refine TL.op (yq (y_ldpr (ev_t rfl) arT_85 (rp_row 0 rfl) hb36)) rfl rfl rfl ?_
      refine TL.alloc (u := (.agg #[(.int .i64 0), (.int .i64 0)])) (by kernel_rfl) rfl (fun g7_3 => ?_)
      refine TL.op (yq (y_assign (ev_t rfl))) rfl rfl rfl ?_
      refine TL.storeAgg (cs := [(.int .i64 0), (.int .i64 0)]) (us := [(.int .i64 (((F_impl_Metric_spanningTree m).getD k16_1 (0, 0)).1)), (.int .i64 (((F_impl_Metric_spanningTree m).getD k16_1 (0, 0)).2))]) 0 (ev_t rfl) (ev_t rfl) agg_85 rfl rfl (fun w hw => (ocs_cons rfl (ocs_cons rfl ocs_nil))) ?_
      refine TL.nil ?_
      refine TN.seq ?_
      refine TC.regionH 16 (Hp w [.blk g7_3 85 [(.int .i64 (((F_impl_Metric_spanningTree m).getD k16_1 (0, 0)).1)), (.int .i64 (((F_impl_Metric_spanningTree m).getD k16_1 (0, 0)).2))], rowP 85 r4_1 (F_impl_Metric_spanningTree m)]) rfl (by kernel_rfl) dr_hp (fun w hw => Hp.sublist hw (.cons_cons _ (.cons_cons _ (.cons _ .slnil)))) ?_
      refine TH.take 0 rfl (by kernel_rfl) (y_move (ev_t rfl)) rfl rfl rfl ?_
      refine TH.take 1 rfl (by kernel_rfl) (y_move (ev_t rfl)) rfl rfl rfl ?_
      refine TH.take 2 rfl (by kernel_rfl) (y_move (ev_t rfl)) rfl rfl rfl ?_
      have hs41 : 0 ≤ k16_1 := (by first | omega | (simp only [List.length_set, List.length_append, List.length_cons, List.length_nil, List.length_replicate]; omega) | (rw [sortI_length]; simp only [List.length_cons, List.length_nil]; omega))
      have hs42 : k16_1 ≤ (F_impl_Metric_spanningTree m).length := (by first | omega | (simp only [List.length_set, List.length_append, List.length_cons, List.length_nil, List.length_replicate]; omega) | (rw [sortI_length]; simp only [List.length_cons, List.length_nil]; omega))
      refine TH.take 3 rfl (by kernel_rfl) (y_slice_hi (ev_t rfl) (ev_t rfl) (hi := k16_1) (by omega) slT_37 (rp_row 1 rfl) hs42) rfl rfl rfl ?_
      refine TH.take 4 rfl (by kernel_rfl) (y_move (ev_t rfl)) rfl rfl rfl ?_
      refine TH.take 5 rfl (by kernel_rfl) (y_move (ev_t rfl)) rfl rfl rfl ?_
      refine TH.take 6 rfl (by kernel_rfl) (y_add (ev_t rfl) ev_c (by unfold In64; constructor <;> omega)) rfl rfl rfl ?_
      have hs43 : (k16_1 + 1) ≤ (F_impl_Metric_spanningTree m).length := (by first | omega | (simp only [List.length_set, List.length_append, List.length_cons, List.length_nil, List.length_replicate]; omega) | (rw [sortI_length]; simp only [List.length_cons, List.length_nil]; omega))
      have hs44 : (F_impl_Metric_spanningTree m).length ≤ (F_impl_Metric_spanningTree m).length := (by first | omega | (simp only [List.length_set, List.length_append, List.length_cons, List.length_nil, List.length_replicate]; omega) | (rw [sortI_length]; simp only [List.length_cons, List.length_nil]; omega))
      refine TH.take 7 rfl (by kernel_rfl) (y_slice_lo (ev_t rfl) (ev_t rfl) (lo := (k16_1 + 1)) (by omega) slT_37 (rp_row 1 rfl) hs43) rfl rfl rfl ?_
      refine TH.take 10 rfl (by kernel_rfl) (y_ixb (c := 0) (ev_t rfl) ev_c rfl arT_85 (by decide)) rfl rfl rfl ?_
      refine TH.take 11 rfl (by kernel_rfl) (y_ldb 0 (ev_t rfl) one_3 rfl rfl) rfl rfl rfl ?_
      refine TH.loud 8 rfl (by kernel_rfl) ?_
      refine TL.build2 slT_139 (ev_t rfl) (ev_t rfl) (fun w hw => ((fun w hw => rp_resl ((rp_row 1 rfl) w hw) hs41 hs42) w hw).ln) (fun w hw => ((fun w hw => rp_resl ((rp_row 1 rfl) w hw) hs43 hs44) w hw).ln) rfl (fun v8_8 => ?_)
      refine TL.nil ?_
      refine TH.back (fun w hw => Hp.sublist hw (.cons _ (.cons_cons _ (.cons_cons _ (.cons _ .slnil))))) ?_
      refine TH.loud 9 rfl (by kernel_rfl) ?_
      refine TL.callr (ι := Value) (vs := [v8_8]) (fun i => i) (fun i => [rowP 85 i (F_slices_Concat_S_2_int_2_int ([(((F_impl_Metric_spanningTree m).take k16_1).drop 0), (((F_impl_Metric_spanningTree m).take ((F_impl_Metric_spanningTree m).length)).drop (k16_1 + 1))]))]) en_96 ⟨(ev_t rfl), trivial⟩ rfl (fun w hw => slices_Concat_S_2_int_2_int_ok w v8_8 ([(resl r4_1 0 k16_1 2), (resl r4_1 (k16_1 + 1) ((F_impl_Metric_spanningTree m).length) 2)]) ([(((F_impl_Metric_spanningTree m).take k16_1).drop 0), (((F_impl_Metric_spanningTree m).take ((F_impl_Metric_spanningTree m).length)).drop (k16_1 + 1))]) ((rpp_two 0 rfl (fun w hw => rp_resl ((rp_row 2 rfl) w hw) hs41 hs42) (fun w hw => rp_resl ((rp_row 2 rfl) w hw) hs43 hs44)) w hw) (by first | assumption | omega | grind) (by first | assumption | omega | grind)) (fun r8_9 => ?_)
      refine TL.nil ?_
      refine TH.back (fun w hw => Hp.sublist hw (.cons _ (.cons _ (.cons_cons _ (.cons_cons _ (.cons _ .slnil)))))) ?_
      refine TH.loud 12 rfl (by kernel_rfl) ?_
      refine TL.callr (ι := Value) (vs := [r8_9, (.int .i64 (((F_impl_Metric_spanningTree m).getD k16_1 (0, 0)).1))]) (fun i => i) (fun i => [rowI 3 i (F_impl_sideOf (F_slices_Concat_S_2_int_2_int ([(((F_impl_Metric_spanningTree m).take k16_1).drop 0), (((F_impl_Metric_spanningTree m).take ((F_impl_Metric_spanningTree m).length)).drop (k16_1 + 1))])) (((F_impl_Metric_spanningTree m).getD k16_1 (0, 0)).1))]) en_95 ⟨(ev_t rfl), (ev_t rfl), trivial⟩ rfl (fun w hw => impl_sideOf_ok w r8_9 (F_slices_Concat_S_2_int_2_int ([(((F_impl_Metric_spanningTree m).take k16_1).drop 0), (((F_impl_Metric_spanningTree m).take ((F_impl_Metric_spanningTree m).length)).drop (k16_1 + 1))])) ((rp_row 0 rfl) w hw) (((F_impl_Metric_spanningTree m).getD k16_1 (0, 0)).1) (by first | assumption | omega | grind) (by first | assumption | omega | grind) (by first | assumption | omega | grind)) (fun r8_12 => ?_)
      refine TL.nil ?_
      refine TH.back (fun w hw => Hp.sublist hw (.cons _ (.cons _ (.cons _ (.cons_cons _ (.cons_cons _ (.cons _ .slnil))))))) ?_
      refine TH.loud 13 rfl (by kernel_rfl) ?_
      refine TL.buildU slT_49 (ev_t rfl) (fun w hw => ((ri_row 0 rfl) w hw).ln) rfl (fun v8_13 => ?_)
      refine TL.nil ?_
      refine TH.back (fun w hw => Hp.sublist hw (.cons _ (.cons _ (.cons _ (.cons _ (.cons_cons _ (.cons_cons _ (.cons _ .slnil)))))))) ?_
      refine TH.loud 14 rfl (by kernel_rfl) ?_
      refine TL.appendT 6 1 rfl (ev_t rfl) (ev_t rfl) rfl rfl slT_49 (rd_row 0 rfl) (by first | omega | (simp [-List.getD_eq_getElem?_getD] <;> omega)) rfl (fun v8_14 => ?_)
      refine TL.nil ?_
      refine TH.back (fun w hw => Hp.sublist hw (.cons _ (.cons _ (.cons _ (.cons _ (.cons_cons _ (.cons_cons _ (.cons _ .slnil)))))))) ?_
      refine TH.take 15 rfl (by kernel_rfl) (y_assign (ev_t rfl)) rfl rfl rfl ?_
      refine TH.done (by kernel_rfl) ?_
      refine TN.blockN ?_
      refine TN.seq ?_
      refine TC.region ?_
      refine TL.op (yq (y_add (ev_t rfl) ev_c (by unfold In64; constructor <;> omega))) rfl rfl rfl ?_
      refine TL.op (yq (y_move (ev_t rfl))) rfl rfl rfl ?_
      refine TL.nil ?_
      exact TN.hand (mf1, (out1 ++ [(F_impl_sideOf (F_slices_Concat_S_2_int_2_int ([(((F_impl_Metric_spanningTree m).take k16_1).drop 0), (((F_impl_Metric_spanningTree m).take ((F_impl_Metric_spanningTree m).length)).drop (k16_1 + 1))])) (((F_impl_Metric_spanningTree m).getD k16_1 (0, 0)).1))]), (k16_1 + 1), v8_14, (uout1 ++ [r8_12])) ⟨(by first | omega | (simp [-List.getD_eq_getElem?_getD] <;> omega)), (by first | omega | (simp [-List.getD_eq_getElem?_getD] <;> omega)), (by omega), hL1⟩ (Nat.lt_succ_self _) ⟨rfl, rfl, rfl, rfl, rfl, trivial⟩ (fun w hw => Hp.sublist hw (.cons _ (.cons _ (.cons _ (.cons _ (.cons _ (.cons_cons _ (.cons_cons _ .slnil))))))))
    · rw [bif_neg h34] at hL1
      have q35 := (of_decide_eq_false h34)
      refine TC.exit ?_
      refine TN.thenE ?_
      refine TN.thenE ?_
      rw [← hL1, elim_next] at hF
      try dsimp only at hF
      refine TN.blockH ?_
      refine TN.seq ?_
      refine TC.seq ?_
      refine TC.region ?_
      refine TL.op (yq (y_move (ev_t rfl))) rfl rfl rfl ?_
      refine TL.op (yq (y_assign (ev_t rfl))) rfl rfl rfl ?_
      refine TL.op (yq (y_assign ev_c)) rfl rfl rfl ?_
      refine TL.nil ?_
      refine TN.seq ?_
      refine TC.ret ?_
      subst hF
      exact TN.ret2 rfl (ev_t rfl) (ev_t rfl) (fun w' hw => ⟨(vout1, uout1), rfl, Hp.sublist hw (.cons _ (.cons_cons _ .slnil))⟩)

set_option maxRecDepth 4000 in
set_option maxHeartbeats 1000000 in
theorem spec_CutsOfTree_ok (w : World) (vm : Value) (um : List Value) (m : List (List Int)) (hm : RII w vm um m)  :
    Calls Try.prog 45 ([(.agg #[vm])] : List Value).toArray w (fun e w' => ∃ i : Value × List Value, e = .returned (.tuple #[i.1, (.bool ((F_spec_CutsOfTree m).2))]) ∧ Hp w [tabI 34 3 i.1 i.2 ((F_spec_CutsOfTree m).1)] w') := by
  obtain ⟨rz, hF⟩ : ∃ rz, (F_spec_CutsOfTree m) = rz := ⟨_, rfl⟩
  rw [hF]
  unfold F_spec_CutsOfTree at hF
  have hlen_m := argT_len hm
  refine calls_tc Try.func45 rfl rfl rfl ?_
  change TC _ _ _ _ (Hp w []) [(0, (.agg #[vm]))]
  refine TC.seq ?_
  refine TC.region ?_
  refine TL.box (ev_t rfl) rfl (fun g0_0 => ?_)
  refine TL.op (yq (y_assign ev_c)) rfl rfl rfl ?_
  refine TL.op (yq (y_assign ev_c)) rfl rfl rfl ?_
  refine TL.nil ?_
  refine TN.seq ?_
  refine TC.seq ?_
  refine TC.region ?_
  refine TL.buildSlice (zs := []) (vs := []) slT_49 rfl trivial (by simp) rfl (by decide) rfl (fun v1_0 => ?_)
  refine TL.cls (fun w hw => hw.emptyTab 3) ?_
  refine TL.op (yq (y_assign (ev_t rfl))) rfl rfl rfl ?_
  refine TL.nil ?_
  refine TN.seq ?_
  refine TC.seq ?_
  refine TC.seq ?_
  refine TC.region ?_
  refine TL.op (yq (y_ldagg (cs := [vm]) 1 (ev_t rfl) agg_55 rfl)) rfl rfl rfl ?_
  refine TL.op (y_call (vs := [(.agg #[vm])]) (v := (.bool (F_spec_l6Good m))) en_88 ⟨(ev_t rfl), trivial⟩ (fun w hw => spec_l6Good_ok w vm um m ((rii_arg hm) w hw))) rfl rfl rfl ?_
  refine TL.op (yq (y_not (ev_t rfl))) rfl rfl rfl ?_
  refine TL.nil ?_
  refine TN.seq ?_
  refine TC.cond (b := !(F_spec_l6Good m)) (ev_t rfl) (fun h12 => ?_) (fun h12 => ?_)
  · rw [bif_pos h12] at hF
    have q13 := (not_t h12)
    refine TC.seq ?_
    refine TC.region ?_
    refine TL.op (yq (y_move (ev_t rfl))) rfl rfl rfl ?_
    refine TL.op (yq (y_assign (ev_t rfl))) rfl rfl rfl ?_
    refine TL.op (yq (y_assign ev_c)) rfl rfl rfl ?_
    refine TL.nil ?_
    refine TN.seq ?_
    refine TC.ret ?_
    refine TN.thenR ?_
    subst hF
    exact TN.ret2 rfl (ev_t rfl) (ev_t rfl) (fun w' hw => ⟨(v1_0, []), rfl, Hp.sublist hw (.cons_cons _ (.cons _ .slnil))⟩)
  · rw [bif_neg h12] at hF
    have q13 := (l6Good_t (not_f h12))
    have hT := q13
    have hn6 := hT.n6
    have hst := tree_bd hT
    have hst1 := hst.1
    have hm6 := hst.2.mono (k := 6) (by omega)
    refine TC.skip ?_
    refine TN.seq ?_
    refine TC.seq ?_
    refine TC.region ?_
    refine TL.op (yq (y_ldagg (cs := [vm]) 1 (ev_t rfl) agg_55 rfl)) rfl rfl rfl ?_
    refine TL.callr (ι := Value) (vs := [(.agg #[vm])]) (fun i => (.tuple #[i, (.int .i64 ((F_spec_l6Tree m).2))])) (fun i => [rowP 85 i ((F_spec_l6Tree m).1)]) en_89 ⟨(ev_t rfl), trivial⟩ rfl (fun w hw => spec_l6Tree_ok w vm um m ((rii_arg hm) w hw) (by first | assumption | omega | grind)) (fun r4_1 => ?_)
    refine TL.op (yq (y_move (ev_t rfl))) rfl rfl rfl ?_
    refine TL.op (yq (y_extract (ev_t rfl) rfl)) rfl rfl rfl ?_
    refine TL.op (yq (y_extract (ev_t rfl) rfl)) rfl rfl rfl ?_
    refine TL.op (yq (y_assign (ev_t rfl))) rfl rfl rfl ?_
    refine TL.op (yq (y_assign (ev_t rfl))) rfl rfl rfl ?_
    refine TL.nil ?_
    refine TN.seq ?_
    refine TC.seq ?_
    refine TC.seq ?_
    refine TC.region ?_
    refine TL.op (yq (y_assign ev_c)) rfl rfl rfl ?_
    refine TL.nil ?_
    refine TN.seq ?_
    refine TC.block ?_
    obtain ⟨c14, hc15⟩ : ∃ c, F_spec_CutsOfTree_L1 m ((((F_spec_l6Tree m).1.length) - 0) + 1) (([]), 0) = c := ⟨_, rfl⟩
    rw [hc15] at hF
    refine TC.loop (ι := Nat × List (List Int) × Nat × Value × List Value) (fun (fu1, out1, i1, vout1, uout1) => [(1, (.pointer (some ⟨g0_0, 0, none⟩))), (4, vout1), (5, r4_1), (7, (.int .i64 (i1 : Int)))]) (fun (fu1, out1, i1, vout1, uout1) => Hp w [rowP 85 r4_1 ((F_spec_l6Tree m).1), tabI 34 3 vout1 uout1 out1, .blk g0_0 55 [vm]]) (fun (fu1, out1, i1, vout1, uout1) => (i1 ≤ ((F_spec_l6Tree m).1.length)) ∧ (out1.length ≤ i1) ∧ ((F_spec_l6Tree m).1.length) - i1 < fu1 ∧ F_spec_CutsOfTree_L1 m fu1 (out1, i1) = c14) (fun (fu1, out1, i1, vout1, uout1) => fu1) ((((F_spec_l6Tree m).1.length) - 0) + 1, [], 0, v1_0, []) ⟨(by first | omega | (simp [-List.getD_eq_getElem?_getD] <;> omega)), (by first | omega | (simp [-List.getD_eq_getElem?_getD] <;> omega)), (by omega), hc15⟩ ⟨rfl, rfl, rfl, rfl, trivial⟩ (fun w hw => hw) ?_
    rintro ⟨fu1, out1, i1, vout1, uout1⟩ hJ1
    obtain ⟨hi1_0, hi1_1, hmu1, hL1⟩ : (i1 ≤ ((F_spec_l6Tree m).1.length)) ∧ (out1.length ≤ i1) ∧ ((F_spec_l6Tree m).1.length) - i1 < fu1 ∧ F_spec_CutsOfTree_L1 m fu1 (out1, i1) = c14 := hJ1
    change TC _ _ _ _ (Hp w [rowP 85 r4_1 ((F_spec_l6Tree m).1), tabI 34 3 vout1 uout1 out1, .blk g0_0 55 [vm]]) [(1, (.pointer (some ⟨g0_0, 0, none⟩))), (4, vout1), (5, r4_1), (7, (.int .i64 (i1 : Int)))]
    obtain ⟨mf1, rfl⟩ : ∃ m, fu1 = m + 1 := ⟨fu1 - 1, by omega⟩
    rw [F_spec_CutsOfTree_L1_s] at hL1
    refine TC.seq ?_
    refine TC.seq ?_
    refine TC.region ?_
    refine TL.op (yq (y_move (ev_t rfl))) rfl rfl rfl ?_
    refine TL.op (yq (y_move (ev_t rfl))) rfl rfl rfl ?_
    refine TL.op (yq (y_len (ev_t rfl) Try.underlying37 (fun w hw => ((rp_row 0 rfl) w hw).ln))) rfl rfl rfl ?_
    refine TL.op (yq (y_lss (ev_t rfl) (ev_t rfl))) rfl rfl rfl ?_
    refine TL.nil ?_
    refine TN.seq ?_
    refine TC.cond (b := decide ((i1 : Int) < ((F_spec_l6Tree m).1.length : Int))) (ev_t rfl) (fun h16 => ?_) (fun h16 => ?_)
    · rw [bif_pos h16] at hL1
      have q17 := (of_decide_eq_true h16)
      have hse := (hm6 i1).p
      have hse1 := hse.1
      refine TC.skip ?_
      refine TN.seq ?_
      refine TC.seq ?_
      refine TC.block ?_
      refine TC.regionH 15 (Hp w [rowP 85 r4_1 ((F_spec_l6Tree m).1), .blk g0_0 55 [vm]]) rfl (by kernel_rfl) dr_hp (fun w hw => Hp.sublist hw (.cons_cons _ (.cons _ (.cons_cons _ .slnil)))) ?_
      refine TH.take 0 rfl (by kernel_rfl) (y_move (ev_t rfl)) rfl rfl rfl ?_
      refine TH.take 1 rfl (by kernel_rfl) (y_fa (fa_55_0 g0_0) (ev_t rfl)) rfl rfl rfl ?_
      refine TH.take 2 rfl (by kernel_rfl) (y_ldb 1 (ev_t rfl) one_49 rfl rfl) rfl rfl rfl ?_
      refine TH.take 3 rfl (by kernel_rfl) (y_len (ev_t rfl) Try.underlying49 (fun w hw => ((fun w hw => ((rii_arg hm) w hw).1) w hw).ln)) rfl rfl rfl ?_
      refine TH.take 4 rfl (by kernel_rfl) (y_move (ev_t rfl)) rfl rfl rfl ?_
      refine TH.take 5 rfl (by kernel_rfl) (y_move (ev_t rfl)) rfl rfl rfl ?_
      refine TH.take 6 rfl (by kernel_rfl) (y_move (ev_t rfl)) rfl rfl rfl ?_
      refine TH.take 7 rfl (by kernel_rfl) (y_move (ev_t rfl)) rfl rfl rfl ?_
      have hb19 : i1 < (F_spec_l6Tree m).1.length := (by first | omega | (simp only [List.length_set, List.length_append, List.length_cons, List.length_nil, List.length_replicate]; omega) | (rw [sortI_length]; simp only [List.length_cons, List.length_nil]; omega))
      refine TH.take 8 rfl (by kernel_rfl) (y_idx (k := i1) (ev_t rfl) (ev_t rfl) (by first | omega | simp) slT_37 (rp_row 0 rfl) hb19) rfl rfl rfl ?_
      refine TH.take 9 rfl (by kernel_rfl) (y_ixa (c := 0) (ev_t rfl) ev_c rfl arT_85 (rp_row 0 rfl) hb19 (by decide)) rfl rfl rfl ?_
      refine TH.take 10 rfl (by kernel_rfl) (y_ldp1 (ev_t rfl) one_3 (rp_row 0 rfl) hb19) rfl rfl rfl ?_
      refine TH.loud 11 rfl (by kernel_rfl) ?_
      refine TL.callr (ι := Value) (vs := [(.int .i64 (m.length : Int)), r4_1, (.int .i64 (i1 : Int)), (.int .i64 (((F_spec_l6Tree m).1.getD i1 (0, 0)).1))]) (fun i => i) (fun i => [rowI 3 i (F_spec_l6Side (m.length : Int) ((F_spec_l6Tree m).1) (i1 : Int) (((F_spec_l6Tree m).1.getD i1 (0, 0)).1))]) en_94 ⟨(ev_t rfl), (ev_t rfl), (ev_t rfl), (ev_t rfl), trivial⟩ rfl (fun w hw => spec_l6Side_ok w (m.length : Int) r4_1 ((F_spec_l6Tree m).1) ((rp_row 0 rfl) w hw) (i1 : Int) (((F_spec_l6Tree m).1.getD i1 (0, 0)).1) (by first | assumption | omega | grind) (by first | assumption | omega | grind) (by first | assumption | omega | grind) (by first | assumption | omega | grind)) (fun r8_11 => ?_)
      refine TL.nil ?_
      refine TH.back (fun w hw => Hp.sublist hw (.cons _ (.cons_cons _ (.cons _ (.cons_cons _ .slnil))))) ?_
      refine TH.loud 12 rfl (by kernel_rfl) ?_
      refine TL.buildU slT_49 (ev_t rfl) (fun w hw => ((ri_row 0 rfl) w hw).ln) rfl (fun v8_12 => ?_)
      refine TL.nil ?_
      refine TH.back (fun w hw => Hp.sublist hw (.cons _ (.cons _ (.cons_cons _ (.cons _ (.cons_cons _ .slnil)))))) ?_
      refine TH.loud 13 rfl (by kernel_rfl) ?_
      refine TL.appendT 3 1 rfl (ev_t rfl) (ev_t rfl) rfl rfl slT_49 (rd_row 0 rfl) (by first | omega | (simp [-List.getD_eq_getElem?_getD] <;> omega)) rfl (fun v8_13 => ?_)
      refine TL.nil ?_
      refine TH.back (fun w hw => Hp.sublist hw (.cons _ (.cons _ (.cons_cons _ (.cons _ (.cons_cons _ .slnil)))))) ?_
      refine TH.take 14 rfl (by kernel_rfl) (y_assign (ev_t rfl)) rfl rfl rfl ?_
      refine TH.done (by kernel_rfl) ?_
      refine TN.blockN ?_
      refine TN.seq ?_
      refine TC.region ?_
      refine TL.op (yq (y_move (ev_t rfl))) rfl rfl rfl ?_
      refine TL.op (yq (y_add (ev_t rfl) ev_c (by unfold In64; constructor <;> omega))) rfl rfl rfl ?_
      refine TL.op (yq (y_assign (ev_t rfl))) rfl rfl rfl ?_
      refine TL.nil ?_
      exact TN.hand (mf1, (out1 ++ [(F_spec_l6Side (m.length : Int) ((F_spec_l6Tree m).1) (i1 : Int) (((F_spec_l6Tree m).1.getD i1 (0, 0)).1))]), (i1 + 1), v8_13, (uout1 ++ [r8_11])) ⟨(by first | omega | (simp [-List.getD_eq_getElem?_getD] <;> omega)), (by first | omega | (simp [-List.getD_eq_getElem?_getD] <;> omega)), (by omega), hL1⟩ (Nat.lt_succ_self _) ⟨rfl, rfl, rfl, rfl, trivial⟩ (fun w hw => Hp.sublist hw (.cons _ (.cons _ (.cons_cons _ (.cons_cons _ (.cons_cons _ .slnil))))))
    · rw [bif_neg h16] at hL1
      have q17 := (of_decide_eq_false h16)
      refine TC.exit ?_
      refine TN.thenE ?_
      refine TN.thenE ?_
      rw [← hL1, elim_next] at hF
      try dsimp only at hF
      refine TN.blockH ?_
      refine TN.seq ?_
      refine TC.seq ?_
      refine TC.region ?_
      refine TL.op (yq (y_move (ev_t rfl))) rfl rfl rfl ?_
      refine TL.op (yq (y_assign (ev_t rfl))) rfl rfl rfl ?_
      refine TL.op (yq (y_assign ev_c)) rfl rfl rfl ?_
      refine TL.nil ?_
      refine TN.seq ?_
      refine TC.ret ?_
      subst hF
      exact TN.ret2 rfl (ev_t rfl) (ev_t rfl) (fun w' hw => ⟨(vout1, uout1), rfl, Hp.sublist hw (.cons _ (.cons_cons _ (.cons _ .slnil)))⟩)


end Go.Proofs.Ytcmhgkcifejgcaa
namespace Go.Proofs.Ytcmhgkcifejgcaa
set_option linter.unusedVariables false
set_option linter.unusedSimpArgs false
open Go Go.RowKit
set_option linter.unusedVariables false

set_option maxRecDepth 4000 in
set_option maxHeartbeats 1000000 in
theorem laws_heldIntS_ok (w : World) (va : Value) (a : List Int) (ha : RI w va a) (k : Int) (hp0 : 0 ≤ k) (hp1 : k + a.length ≤ 4611686018427387904) :
    Calls Try.prog 57 ([va, (.int .i64 k)] : List Value).toArray w (Ret (.int .i64 (F_laws_heldIntS a k)) (Hp w [])) := by
  obtain ⟨rz, hF⟩ : ∃ rz, (F_laws_heldIntS a k) = rz := ⟨_, rfl⟩
  rw [hF]
  unfold F_laws_heldIntS at hF
  have hlen_a := arg_len ha
  refine calls_tc Try.func57 rfl rfl rfl ?_
  change TC _ _ _ _ (Hp w []) [(0, va), (1, (.int .i64 k))]
  refine TC.seq ?_
  refine TC.region ?_
  refine TL.op (yq (y_assign ev_c)) rfl rfl rfl ?_
  refine TL.nil ?_
  refine TN.seq ?_
  refine TC.seq ?_
  refine TC.seq ?_
  refine TC.region ?_
  refine TL.op (yq (y_assign ev_c)) rfl rfl rfl ?_
  refine TL.nil ?_
  refine TN.seq ?_
  refine TC.block ?_
  obtain ⟨c11, hc12⟩ : ∃ c, F_laws_heldIntS_L1 a ((a.length - 0) + 1) (k, 0) = c := ⟨_, rfl⟩
  rw [hc12] at hF
  refine TC.loop (ι := Nat × Int × Nat) (fun (fu1, k1, i1) => [(0, va), (1, (.int .i64 k1)), (5, (.int .i64 (i1 : Int)))]) (fun (fu1, k1, i1) => Hp w []) (fun (fu1, k1, i1) => (i1 ≤ a.length) ∧ (k1 = k + i1) ∧ a.length - i1 < fu1 ∧ F_laws_heldIntS_L1 a fu1 (k1, i1) = c11) (fun (fu1, k1, i1) => fu1) ((a.length - 0) + 1, k, 0) ⟨(by first | omega | (simp [-List.getD_eq_getElem?_getD] <;> omega)), (by first | omega | (simp [-List.getD_eq_getElem?_getD] <;> omega)), (by omega), hc12⟩ ⟨rfl, rfl, rfl, trivial⟩ (fun w hw => hw) ?_
  rintro ⟨fu1, k1, i1⟩ hJ1
  obtain ⟨hi1_0, hi1_1, hmu1, hL1⟩ : (i1 ≤ a.length) ∧ (k1 = k + i1) ∧ a.length - i1 < fu1 ∧ F_laws_heldIntS_L1 a fu1 (k1, i1) = c11 := hJ1
  change TC _ _ _ _ (Hp w []) [(0, va), (1, (.int .i64 k1)), (5, (.int .i64 (i1 : Int)))]
  obtain ⟨mf1, rfl⟩ : ∃ m, fu1 = m + 1 := ⟨fu1 - 1, by omega⟩
  rw [F_laws_heldIntS_L1_s] at hL1
  refine TC.seq ?_
  refine TC.seq ?_
  refine TC.region ?_
  refine TL.op (yq (y_move (ev_t rfl))) rfl rfl rfl ?_
  refine TL.op (yq (y_move (ev_t rfl))) rfl rfl rfl ?_
  refine TL.op (yq (y_len (ev_t rfl) Try.underlying34 (fun w hw => ((ri_arg ha) w hw).ln))) rfl rfl rfl ?_
  refine TL.op (yq (y_lss (ev_t rfl) (ev_t rfl))) rfl rfl rfl ?_
  refine TL.nil ?_
  refine TN.seq ?_
  refine TC.cond (b := decide ((i1 : Int) < (a.length : Int))) (ev_t rfl) (fun h13 => ?_) (fun h13 => ?_)
  · rw [bif_pos h13] at hL1
    have q14 := (of_decide_eq_true h13)
    refine TC.skip ?_
    refine TN.seq ?_
    refine TC.seq ?_
    refine TC.block ?_
    refine TC.seq ?_
    refine TC.seq ?_
    refine TC.region ?_
    refine TL.op (yq (y_move (ev_t rfl))) rfl rfl rfl ?_
    refine TL.op (yq (y_move (ev_t rfl))) rfl rfl rfl ?_
    have hb15 : i1 < a.length := (by first | omega | (simp only [List.length_set, List.length_append, List.length_cons, List.length_nil, List.length_replicate]; omega) | (rw [sortI_length]; simp only [List.length_cons, List.length_nil]; omega))
    refine TL.op (yq (y_idx (k := i1) (ev_t rfl) (ev_t rfl) (by first | omega | simp) slT_34 (ri_arg ha) hb15)) rfl rfl rfl ?_
    refine TL.op (yq (y_ldi (ev_t rfl) one_3 (ri_arg ha) hb15)) rfl rfl rfl ?_
    refine TL.op (yq (y_move (ev_t rfl))) rfl rfl rfl ?_
    refine TL.op (yq (y_neq (ev_t rfl) (ev_t rfl))) rfl rfl rfl ?_
    refine TL.nil ?_
    refine TN.seq ?_
    refine TC.cond (b := !decide ((a.getD i1 0) = k1)) (ev_t rfl) (fun h16 => ?_) (fun h16 => ?_)
    · rw [bif_pos h16] at hL1
      have q17 := (of_decide_eq_false (not_t h16))
      refine TC.seq ?_
      refine TC.region ?_
      refine TL.op (yq (y_assign ev_c)) rfl rfl rfl ?_
      refine TL.nil ?_
      refine TN.seq ?_
      refine TC.ret ?_
      refine TN.thenR ?_
      refine TN.blockR ?_
      refine TN.thenR ?_
      refine TN.thenR ?_
      rw [← hL1, elim_ret] at hF
      refine TN.blockR ?_
      refine TN.thenR ?_
      subst hF
      exact TN.ret1 rfl (ev_t rfl) (fun w' hw => ⟨rfl, hw⟩)
    · rw [bif_neg h16] at hL1
      have q17 := (of_decide_eq_true (not_f h16))
      refine TC.skip ?_
      refine TN.seq ?_
      refine TC.region ?_
      refine TL.op (yq (y_move (ev_t rfl))) rfl rfl rfl ?_
      refine TL.op (yq (y_add (ev_t rfl) ev_c (by unfold In64; constructor <;> omega))) rfl rfl rfl ?_
      refine TL.op (yq (y_assign (ev_t rfl))) rfl rfl rfl ?_
      refine TL.nil ?_
      refine TN.blockN ?_
      refine TN.seq ?_
      refine TC.region ?_
      refine TL.op (yq (y_move (ev_t rfl))) rfl rfl rfl ?_
      refine TL.op (yq (y_add (ev_t rfl) ev_c (by unfold In64; constructor <;> omega))) rfl rfl rfl ?_
      refine TL.op (yq (y_assign (ev_t rfl))) rfl rfl rfl ?_
      refine TL.nil ?_
      exact TN.hand (mf1, k1 + 1, (i1 + 1)) ⟨(by first | omega | (simp [-List.getD_eq_getElem?_getD] <;> omega)), (by first | omega | (simp [-List.getD_eq_getElem?_getD] <;> omega)), (by omega), hL1⟩ (Nat.lt_succ_self _) ⟨rfl, rfl, rfl, trivial⟩ (fun w hw => hw)
  · rw [bif_neg h13] at hL1
    have q14 := (of_decide_eq_false h13)
    refine TC.exit ?_
    refine TN.thenE ?_
    refine TN.thenE ?_
    rw [← hL1, elim_next] at hF
    try dsimp only at hF
    refine TN.blockH ?_
    refine TN.seq ?_
    refine TC.seq ?_
    refine TC.region ?_
    refine TL.op (yq (y_move (ev_t rfl))) rfl rfl rfl ?_
    refine TL.op (yq (y_assign (ev_t rfl))) rfl rfl rfl ?_
    refine TL.nil ?_
    refine TN.seq ?_
    refine TC.ret ?_
    subst hF
    exact TN.ret1 rfl (ev_t rfl) (fun w' hw => ⟨rfl, hw⟩)

set_option maxRecDepth 4000 in
set_option maxHeartbeats 1000000 in
theorem laws_heldIntSS_ok (w : World) (va : Value) (ua : List Value) (a : List (List Int)) (ha : RII w va ua a) (k : Int) (hp0 : 0 ≤ k) (hp1 : k + total a ≤ 1000000000) :
    Calls Try.prog 49 ([va, (.int .i64 k)] : List Value).toArray w (Ret (.int .i64 (F_laws_heldIntSS a k)) (Hp w [])) := by
  obtain ⟨rz, hF⟩ : ∃ rz, (F_laws_heldIntSS a k) = rz := ⟨_, rfl⟩
  rw [hF]
  unfold F_laws_heldIntSS at hF
  have htot := totalFrom_zero a
  have hlen_a := argT_len ha
  refine calls_tc Try.func49 rfl rfl rfl ?_
  change TC _ _ _ _ (Hp w []) [(0, va), (1, (.int .i64 k))]
  refine TC.seq ?_
  refine TC.region ?_
  refine TL.op (yq (y_assign ev_c)) rfl rfl rfl ?_
  refine TL.nil ?_
  refine TN.seq ?_
  refine TC.seq ?_
  refine TC.seq ?_
  refine TC.region ?_
  refine TL.op (yq (y_assign ev_c)) rfl rfl rfl ?_
  refine TL.nil ?_
  refine TN.seq ?_
  refine TC.block ?_
  obtain ⟨c13, hc14⟩ : ∃ c, F_laws_heldIntSS_L1 a ((a.length - 0) + 1) (k, 0) = c := ⟨_, rfl⟩
  rw [hc14] at hF
  refine TC.loop (ι := Nat × Int × Nat) (fun (fu1, k1, i1) => [(0, va), (1, (.int .i64 k1)), (5, (.int .i64 (i1 : Int)))]) (fun (fu1, k1, i1) => Hp w []) (fun (fu1, k1, i1) => (i1 ≤ a.length) ∧ (0 ≤ k1) ∧ (k1 + totalFrom a i1 ≤ 1000000000) ∧ a.length - i1 < fu1 ∧ F_laws_heldIntSS_L1 a fu1 (k1, i1) = c13) (fun (fu1, k1, i1) => fu1) ((a.length - 0) + 1, k, 0) ⟨(by first | omega | (simp [-List.getD_eq_getElem?_getD] <;> omega)), (by first | omega | (simp [-List.getD_eq_getElem?_getD] <;> omega)), (by first | omega | (simp [-List.getD_eq_getElem?_getD] <;> omega)), (by omega), hc14⟩ ⟨rfl, rfl, rfl, trivial⟩ (fun w hw => hw) ?_
  rintro ⟨fu1, k1, i1⟩ hJ1
  obtain ⟨hi1_0, hi1_1, hi1_2, hmu1, hL1⟩ : (i1 ≤ a.length) ∧ (0 ≤ k1) ∧ (k1 + totalFrom a i1 ≤ 1000000000) ∧ a.length - i1 < fu1 ∧ F_laws_heldIntSS_L1 a fu1 (k1, i1) = c13 := hJ1
  change TC _ _ _ _ (Hp w []) [(0, va), (1, (.int .i64 k1)), (5, (.int .i64 (i1 : Int)))]
  obtain ⟨mf1, rfl⟩ : ∃ m, fu1 = m + 1 := ⟨fu1 - 1, by omega⟩
  rw [F_laws_heldIntSS_L1_s] at hL1
  have hst := totalFrom_step a i1
  have hhd := heldIntS_le (a.getD i1 []) k1
  refine TC.seq ?_
  refine TC.seq ?_
  refine TC.region ?_
  refine TL.op (yq (y_move (ev_t rfl))) rfl rfl rfl ?_
  refine TL.op (yq (y_move (ev_t rfl))) rfl rfl rfl ?_
  refine TL.op (yq (y_len (ev_t rfl) Try.underlying49 (fun w hw => ((fun w hw => ((rii_arg ha) w hw).1) w hw).ln))) rfl rfl rfl ?_
  refine TL.op (yq (y_lss (ev_t rfl) (ev_t rfl))) rfl rfl rfl ?_
  refine TL.nil ?_
  refine TN.seq ?_
  refine TC.cond (b := decide ((i1 : Int) < (a.length : Int))) (ev_t rfl) (fun h15 => ?_) (fun h15 => ?_)
  · rw [bif_pos h15] at hL1
    have q16 := (of_decide_eq_true h15)
    refine TC.skip ?_
    refine TN.seq ?_
    refine TC.seq ?_
    refine TC.block ?_
    refine TC.seq ?_
    refine TC.region ?_
    refine TL.op (yq (y_move (ev_t rfl))) rfl rfl rfl ?_
    refine TL.op (yq (y_move (ev_t rfl))) rfl rfl rfl ?_
    have hb17 : i1 < a.length := (by first | omega | (simp only [List.length_set, List.length_append, List.length_cons, List.length_nil, List.length_replicate]; omega) | (rw [sortI_length]; simp only [List.length_cons, List.length_nil]; omega))
    refine TL.op (yq (y_idx (k := i1) (ev_t rfl) (ev_t rfl) (by first | omega | simp) slT_49 (fun w hw => ((rii_arg ha) w hw).1) hb17)) rfl rfl rfl ?_
    have ha18 := ha.row (i := i1) hb17
    refine TL.op (yq (y_ldA (ev_t rfl) one_34 (rii_arg ha) hb17)) rfl rfl rfl ?_
    refine TL.op (yq (y_move (ev_t rfl))) rfl rfl rfl ?_
    refine TL.op (y_call (vs := [(ua.getD i1 undef), (.int .i64 k1)]) (v := (.int .i64 (F_laws_heldIntS (a.getD i1 []) k1))) en_57 ⟨(ev_t rfl), (ev_t rfl), trivial⟩ (fun w hw => laws_heldIntS_ok w (ua.getD i1 undef) (a.getD i1 []) ((ri_arg ha18) w hw) k1 (by first | assumption | omega | grind) (by first | assumption | omega | grind))) rfl rfl rfl ?_
    refine TL.op (yq (y_assign (ev_t rfl))) rfl rfl rfl ?_
    refine TL.nil ?_
    refine TN.seq ?_
    refine TC.seq ?_
    refine TC.region ?_
    refine TL.op (yq (y_move (ev_t rfl))) rfl rfl rfl ?_
    refine TL.op (yq (y_lss (ev_t rfl) ev_c)) rfl rfl rfl ?_
    refine TL.nil ?_
    refine TN.seq ?_
    refine TC.cond (b := decide ((F_laws_heldIntS (a.getD i1 []) k1) < 0)) (ev_t rfl) (fun h19 => ?_) (fun h19 => ?_)
    · rw [bif_pos h19] at hL1
      have q20 := (of_decide_eq_true h19)
      refine TC.seq ?_
      refine TC.region ?_
      refine TL.op (yq (y_assign ev_c)) rfl rfl rfl ?_
      refine TL.nil ?_
      refine TN.seq ?_
      refine TC.ret ?_
      refine TN.blockR ?_
      refine TN.thenR ?_
      refine TN.thenR ?_
      rw [← hL1, elim_ret] at hF
      refine TN.blockR ?_
      refine TN.thenR ?_
      subst hF
      exact TN.ret1 rfl (ev_t rfl) (fun w' hw => ⟨rfl, hw⟩)
    · rw [bif_neg h19] at hL1
      have q20 := (of_decide_eq_false h19)
      refine TC.skip ?_
      refine TN.blockN ?_
      refine TN.seq ?_
      refine TC.region ?_
      refine TL.op (yq (y_move (ev_t rfl))) rfl rfl rfl ?_
      refine TL.op (yq (y_add (ev_t rfl) ev_c (by unfold In64; constructor <;> omega))) rfl rfl rfl ?_
      refine TL.op (yq (y_assign (ev_t rfl))) rfl rfl rfl ?_
      refine TL.nil ?_
      exact TN.hand (mf1, (F_laws_heldIntS (a.getD i1 []) k1), (i1 + 1)) ⟨(by first | omega | (simp [-List.getD_eq_getElem?_getD] <;> omega)), (by first | omega | (simp [-List.getD_eq_getElem?_getD] <;> omega)), (by first | omega | (simp [-List.getD_eq_getElem?_getD] <;> omega)), (by omega), hL1⟩ (Nat.lt_succ_self _) ⟨rfl, rfl, rfl, trivial⟩ (fun w hw => hw)
  · rw [bif_neg h15] at hL1
    have q16 := (of_decide_eq_false h15)
    refine TC.exit ?_
    refine TN.thenE ?_
    refine TN.thenE ?_
    rw [← hL1, elim_next] at hF
    try dsimp only at hF
    refine TN.blockH ?_
    refine TN.seq ?_
    refine TC.seq ?_
    refine TC.region ?_
    refine TL.op (yq (y_move (ev_t rfl))) rfl rfl rfl ?_
    refine TL.op (yq (y_assign (ev_t rfl))) rfl rfl rfl ?_
    refine TL.nil ?_
    refine TN.seq ?_
    refine TC.ret ?_
    subst hF
    exact TN.ret1 rfl (ev_t rfl) (fun w' hw => ⟨rfl, hw⟩)

set_option maxRecDepth 4000 in
set_option maxHeartbeats 1000000 in
theorem laws_FnExactCutsOfTree_ok (w : World) (vm : Value) (um : List Value) (m : List (List Int)) (hm : RII w vm um m)  :
    Calls Try.prog 6 ([(.agg #[vm])] : List Value).toArray w (Ret (.bool (F_laws_FnExactCutsOfTree m)) (Hp w [])) := by
  obtain ⟨rz, hF⟩ : ∃ rz, (F_laws_FnExactCutsOfTree m) = rz := ⟨_, rfl⟩
  rw [hF]
  unfold F_laws_FnExactCutsOfTree at hF
  have hut := cuts_total (F_laws_toMetric m)
  have hmt := markIntSS_total (F_impl_CutsOfTree (F_laws_toMetric m)).1 1
  have hk1 := markMetric_fst (F_laws_toMetric m) 1
  have hlen_m := argT_len hm
  refine calls_tc Try.func6 rfl rfl rfl ?_
  change TC _ _ _ _ (Hp w []) [(0, (.agg #[vm]))]
  refine TC.seq ?_
  refine TC.region ?_
  refine TL.box (ev_t rfl) rfl (fun g0_0 => ?_)
  refine TL.op (yq (y_assign ev_c)) rfl rfl rfl ?_
  refine TL.nil ?_
  refine TN.seq ?_
  refine TC.seq ?_
  refine TC.region ?_
  refine TL.op (yq (y_assign ev_c)) rfl rfl rfl ?_
  refine TL.nil ?_
  refine TN.seq ?_
  refine TC.seq ?_
  refine TC.region ?_
  refine TL.op (yq (y_ldagg (cs := [vm]) 0 (ev_t rfl) agg_51 rfl)) rfl rfl rfl ?_
  refine TL.op (yq (y_move (ev_t rfl))) rfl rfl rfl ?_
  refine TL.op (y_call (vs := [(.agg #[vm]), (.int .i64 1048576)]) (v := (.int .i64 (F_laws_szMetric m 1048576))) en_36 ⟨(ev_t rfl), (ev_t rfl), trivial⟩ (fun w hw => laws_szMetric_ok w vm um m ((rii_arg hm) w hw) 1048576 (by first | assumption | omega | grind) (by first | assumption | omega | grind))) rfl rfl rfl ?_
  refine TL.op (yq (y_assign (ev_t rfl))) rfl rfl rfl ?_
  refine TL.nil ?_
  refine TN.seq ?_
  refine TC.seq ?_
  refine TC.seq ?_
  refine TC.region ?_
  refine TL.op (yq (y_move (ev_t rfl))) rfl rfl rfl ?_
  refine TL.op (yq (y_lss (ev_t rfl) ev_c)) rfl rfl rfl ?_
  refine TL.nil ?_
  refine TN.seq ?_
  refine TC.cond (b := decide ((F_laws_szMetric m 1048576) < 0)) (ev_t rfl) (fun h19 => ?_) (fun h19 => ?_)
  · rw [bif_pos h19] at hF
    have q20 := (of_decide_eq_true h19)
    refine TC.seq ?_
    refine TC.region ?_
    refine TL.op (yq (y_assign ev_c)) rfl rfl rfl ?_
    refine TL.nil ?_
    refine TN.seq ?_
    refine TC.ret ?_
    refine TN.thenR ?_
    subst hF
    exact TN.ret1 rfl (ev_t rfl) (fun w' hw => ⟨rfl, Hp.sublist hw (List.nil_sublist _)⟩)
  · rw [bif_neg h19] at hF
    have q20 := (of_decide_eq_false h19)
    have hsz := szMetric_t (m := m) (left := 1048576) (by omega)
    have hsz1 : ∀ i, (m.getD i []).length ≤ 1048576 := fun i => by have := hsz.2 i; omega
    have hsz2 : m.length + total m ≤ 1048576 := by have := hsz.1; omega
    have htm := toMetric_eq m
    have hsz := szMetric_t (m := m) (left := 1048576) (by omega)
    have hsz1 : ∀ i, (m.getD i []).length ≤ 1048576 := fun i => by have := hsz.2 i; omega
    have hsz2 : m.length + total m ≤ 1048576 := by have := hsz.1; omega
    have htm := toMetric_eq m
    refine TC.skip ?_
    refine TN.seq ?_
    refine TC.seq ?_
    refine TC.region ?_
    refine TL.op (yq (y_ldagg (cs := [vm]) 0 (ev_t rfl) agg_51 rfl)) rfl rfl rfl ?_
    refine TL.callr (ι := Value × List Value) (vs := [(.agg #[vm])]) (fun i => (.agg #[i.1])) (fun i => [tabI 34 3 i.1 i.2 (F_laws_toMetric m)]) en_38 ⟨(ev_t rfl), trivial⟩ rfl (fun w hw => laws_toMetric_ok w vm um m ((rii_arg hm) w hw) (by first | assumption | omega | grind) (by first | assumption | omega | grind)) (fun r5_1 => ?_)
    refine TL.callr (ι := Value × List Value) (vs := [(.agg #[r5_1.1])]) (fun i => (.tuple #[i.1, (.bool ((F_spec_CutsOfTree (F_laws_toMetric m)).2))])) (fun i => [tabI 34 3 i.1 i.2 ((F_spec_CutsOfTree (F_laws_toMetric m)).1)]) en_45 ⟨(ev_t rfl), trivial⟩ rfl (fun w hw => spec_CutsOfTree_ok w r5_1.1 r5_1.2 (F_laws_toMetric m) ((rii_tab 0 rfl) w hw)) (fun r5_2 => ?_)
    refine TL.op (yq (y_move (ev_t rfl))) rfl rfl rfl ?_
    refine TL.op (yq (y_extract (ev_t rfl) rfl)) rfl rfl rfl ?_
    refine TL.op (yq (y_extract (ev_t rfl) rfl)) rfl rfl rfl ?_
    refine TL.op (yq (y_assign (ev_t rfl))) rfl rfl rfl ?_
    refine TL.op (yq (y_assign (ev_t rfl))) rfl rfl rfl ?_
    refine TL.nil ?_
    refine TN.seq ?_
    refine TC.seq ?_
    refine TC.region ?_
    refine TL.op (yq (y_ldagg (cs := [vm]) 2 (ev_t rfl) agg_51 rfl)) rfl rfl rfl ?_
    refine TL.callr (ι := Value × List Value) (vs := [(.agg #[vm])]) (fun i => (.agg #[i.1])) (fun i => [tabI 34 3 i.1 i.2 (F_laws_toMetric m)]) en_38 ⟨(ev_t rfl), trivial⟩ rfl (fun w hw => laws_toMetric_ok w vm um m ((rii_arg hm) w hw) (by first | assumption | omega | grind) (by first | assumption | omega | grind)) (fun r6_1 => ?_)
    refine TL.alloc (u := (.agg #[(.slice none 0 0)])) (by kernel_rfl) rfl (fun g6_2 => ?_)
    refine TL.storeAgg (cs := [(.slice none 0 0)]) (us := [r6_1.1]) 0 (ev_t rfl) (ev_t rfl) agg_55 rfl rfl (fun w hw => (ocs_cons (ln_one ((fun w hw => ((rii_tab 1 rfl) w hw).1) w hw).ln) ocs_nil)) ?_
    refine TL.nil ?_
    refine TN.seq ?_
    refine TC.seq ?_
    refine TC.region ?_
    refine TL.op (yq (y_ldagg (cs := [r6_1.1]) 0 (ev_t rfl) agg_55 rfl)) rfl rfl rfl ?_
    refine TL.callr (ι := Value × List Value) (vs := [(.agg #[r6_1.1])]) (fun i => (.tuple #[i.1, (.bool ((F_impl_CutsOfTree (F_laws_toMetric m)).2))])) (fun i => [tabI 34 3 i.1 i.2 ((F_impl_CutsOfTree (F_laws_toMetric m)).1)]) en_46 ⟨(ev_t rfl), trivial⟩ rfl (fun w hw => impl_CutsOfTree_ok w r6_1.1 r6_1.2 (F_laws_toMetric m) ((rii_tab 1 rfl) w hw)) (fun r7_1 => ?_)
    refine TL.op (yq (y_move (ev_t rfl))) rfl rfl rfl ?_
    refine TL.op (yq (y_extract (ev_t rfl) rfl)) rfl rfl rfl ?_
    refine TL.op (yq (y_extract (ev_t rfl) rfl)) rfl rfl rfl ?_
    refine TL.op (yq (y_assign (ev_t rfl))) rfl rfl rfl ?_
    refine TL.op (yq (y_assign (ev_t rfl))) rfl rfl rfl ?_
    refine TL.nil ?_
    refine TN.seq ?_
    refine TC.seq ?_
    refine TC.seq ?_
    refine TC.region ?_
    refine TL.op (yq (y_move (ev_t rfl))) rfl rfl rfl ?_
    refine TL.op (yq (y_move (ev_t rfl))) rfl rfl rfl ?_
    refine TL.op (y_call (vs := [r7_1.1, r5_2.1]) (v := (.bool (F_laws_eqIntSS ((F_impl_CutsOfTree (F_laws_toMetric m)).1) ((F_spec_CutsOfTree (F_laws_toMetric m)).1)))) en_47 ⟨(ev_t rfl), (ev_t rfl), trivial⟩ (fun w hw => laws_eqIntSS_ok w r7_1.1 r7_1.2 ((F_impl_CutsOfTree (F_laws_toMetric m)).1) ((rii_tab 0 rfl) w hw) r5_2.1 r5_2.2 ((F_spec_CutsOfTree (F_laws_toMetric m)).1) ((rii_tab 3 rfl) w hw))) rfl rfl rfl ?_
    refine TL.op (yq (y_not (ev_t rfl))) rfl rfl rfl ?_
    refine TL.op (yq (y_move (ev_t rfl))) rfl rfl rfl ?_
    refine TL.opw (w_f rfl rfl rfl) (fun hg => yq (y_move (ev_t rfl))) rfl rfl ?_
    refine TL.opw (w_f rfl rfl rfl) (fun hg => yq (y_move (ev_t rfl))) rfl rfl ?_
    refine TL.opw (w_f rfl rfl rfl) (fun hg => yq (y_bneq (ev_g rfl hg) (ev_g rfl hg) Try.underlying4)) rfl rfl ?_
    refine TL.op (yq (y_or (ev_t rfl) (fun hq => (ev_g rfl hq)))) rfl rfl rfl ?_
    refine TL.nil ?_
    refine TN.seq ?_
    refine TC.cond (b := ((!(F_laws_eqIntSS ((F_impl_CutsOfTree (F_laws_toMetric m)).1) ((F_spec_CutsOfTree (F_laws_toMetric m)).1))) || (((F_impl_CutsOfTree (F_laws_toMetric m)).2) != ((F_spec_CutsOfTree (F_laws_toMetric m)).2)))) (ev_t rfl) (fun h21 => ?_) (fun h21 => ?_)
    · rw [bif_pos h21] at hF
      have q22 := ((or_t h21).imp (fun h => (not_t h)) (fun h => h))
      refine TC.seq ?_
      refine TC.region ?_
      refine TL.op (yq (y_assign ev_c)) rfl rfl rfl ?_
      refine TL.nil ?_
      refine TN.seq ?_
      refine TC.ret ?_
      refine TN.thenR ?_
      subst hF
      exact TN.ret1 rfl (ev_t rfl) (fun w' hw => ⟨rfl, Hp.sublist hw (List.nil_sublist _)⟩)
    · rw [bif_neg h21] at hF
      have q22 := (and_imp (or_f h21) (fun h => (not_f h)) (fun h => h))
      refine TC.skip ?_
      refine TN.seq ?_
      refine TC.seq ?_
      refine TC.seq ?_
      refine TC.regionH 5 (Hp w [tabI 34 3 r7_1.1 r7_1.2 ((F_impl_CutsOfTree (F_laws_toMetric m)).1), .blk g6_2 55 [r6_1.1], tabI 34 3 r6_1.1 r6_1.2 (F_laws_toMetric m), tabI 34 3 r5_2.1 r5_2.2 ((F_spec_CutsOfTree (F_laws_toMetric m)).1), tabI 34 3 r5_1.1 r5_1.2 (F_laws_toMetric m), .blk g0_0 51 [vm]]) rfl (by kernel_rfl) dr_hp (fun w hw => hw) ?_
      refine TH.take 0 rfl (by kernel_rfl) (y_ldagg (cs := [r6_1.1]) 1 (ev_t rfl) agg_55 rfl) rfl rfl rfl ?_
      refine TH.take 1 rfl (by kernel_rfl) (y_ldagg (cs := [vm]) 5 (ev_t rfl) agg_51 rfl) rfl rfl rfl ?_
      refine TH.loud 2 rfl (by kernel_rfl) ?_
      refine TL.callr (ι := Value × List Value) (vs := [(.agg #[vm])]) (fun i => (.agg #[i.1])) (fun i => [tabI 34 3 i.1 i.2 (F_laws_toMetric m)]) en_38 ⟨(ev_t rfl), trivial⟩ rfl (fun w hw => laws_toMetric_ok w vm um m ((rii_arg hm) w hw) (by first | assumption | omega | grind) (by first | assumption | omega | grind)) (fun r10_2 => ?_)
      refine TL.nil ?_
      refine TH.back (fun w hw => Hp.sublist hw (.cons _ (.cons_cons _ (.cons_cons _ (.cons_cons _ (.cons_cons _ (.cons_cons _ (.cons_cons _ .slnil)))))))) ?_
      refine TH.loud 3 rfl (by kernel_rfl) ?_
      refine TL.op (y_call (vs := [(.agg #[r6_1.1]), (.agg #[r10_2.1])]) (v := (.bool (F_laws_eqMetric (F_laws_toMetric m) (F_laws_toMetric m)))) en_41 ⟨(ev_t rfl), (ev_t rfl), trivial⟩ (fun w hw => laws_eqMetric_ok w r6_1.1 r6_1.2 (F_laws_toMetric m) ((rii_tab 3 rfl) w hw) r10_2.1 r10_2.2 (F_laws_toMetric m) ((rii_tab 0 rfl) w hw))) rfl rfl rfl ?_
      refine TL.nil ?_
      refine TH.back (fun w hw => Hp.sublist hw (.cons _ (.cons_cons _ (.cons_cons _ (.cons_cons _ (.cons_cons _ (.cons_cons _ (.cons_cons _ .slnil)))))))) ?_
      refine TH.take 4 rfl (by kernel_rfl) (y_not (ev_t rfl)) rfl rfl rfl ?_
      refine TH.done (by kernel_rfl) ?_
      refine TN.seq ?_
      refine TC.cond (b := !(F_laws_eqMetric (F_laws_toMetric m) (F_laws_toMetric m))) (ev_t rfl) (fun h23 => ?_) (fun h23 => ?_)
      · rw [bif_pos h23] at hF
        have q24 := (not_t h23)
        refine TC.seq ?_
        refine TC.region ?_
        refine TL.op (yq (y_assign ev_c)) rfl rfl rfl ?_
        refine TL.nil ?_
        refine TN.seq ?_
        refine TC.ret ?_
        refine TN.thenR ?_
        subst hF
        exact TN.ret1 rfl (ev_t rfl) (fun w' hw => ⟨rfl, Hp.sublist hw (List.nil_sublist _)⟩)
      · rw [bif_neg h23] at hF
        have q24 := (not_f h23)
        refine TC.skip ?_
        refine TN.seq ?_
        refine TC.seq ?_
        refine TC.region ?_
        refine TL.op (yq (y_assign ev_c)) rfl rfl rfl ?_
        refine TL.nil ?_
        refine TN.seq ?_
        refine TC.seq ?_
        refine TC.region ?_
        refine TL.op (yq (y_ldagg (cs := [r6_1.1]) 2 (ev_t rfl) agg_55 rfl)) rfl rfl rfl ?_
        refine TL.op (yq (y_move (ev_t rfl))) rfl rfl rfl ?_
        refine TL.callm (ι := Unit) 3 (vs := [(.agg #[r6_1.1]), (.int .i64 1)]) (fun _ => (.int .i64 ((F_laws_markMetric (F_laws_toMetric m) 1).1))) (fun _ => tabI 34 3 r6_1.1 r6_1.2 ((F_laws_markMetric (F_laws_toMetric m) 1).2)) en_42 ⟨(ev_t rfl), (ev_t rfl), trivial⟩ rfl rfl (fun w1 fr1 hw => laws_markMetric_ok w w1 _ r6_1.1 r6_1.2 (F_laws_toMetric m) hw 1 (by first | assumption | omega | grind) (by first | assumption | omega | grind)) (fun _ => ?_)
        refine TL.op (yq (y_assign (ev_t rfl))) rfl rfl rfl ?_
        refine TL.nil ?_
        refine TN.seq ?_
        refine TC.seq ?_
        refine TC.seq ?_
        refine TC.region ?_
        refine TL.op (yq (y_move (ev_t rfl))) rfl rfl rfl ?_
        refine TL.op (yq (y_lss (ev_t rfl) ev_c)) rfl rfl rfl ?_
        refine TL.op (yq (y_move (ev_t rfl))) rfl rfl rfl ?_
        refine TL.opw (w_f rfl rfl rfl) (fun hg => yq (y_move (ev_t rfl))) rfl rfl ?_
        refine TL.opw (w_f rfl rfl rfl) (fun hg => yq (y_move (ev_t rfl))) rfl rfl ?_
        refine TL.opw (w_f rfl rfl rfl) (fun hg => y_call (vs := [r7_1.1, r5_2.1]) (v := (.bool (F_laws_eqIntSS ((F_impl_CutsOfTree (F_laws_toMetric m)).1) ((F_spec_CutsOfTree (F_laws_toMetric m)).1)))) en_47 ⟨(ev_g rfl hg), (ev_g rfl hg), trivial⟩ (fun w hw => laws_eqIntSS_ok w r7_1.1 r7_1.2 ((F_impl_CutsOfTree (F_laws_toMetric m)).1) ((rii_tab 1 rfl) w hw) r5_2.1 r5_2.2 ((F_spec_CutsOfTree (F_laws_toMetric m)).1) ((rii_tab 4 rfl) w hw))) rfl rfl ?_
        refine TL.opw (w_f rfl rfl rfl) (fun hg => yq (y_not (ev_g rfl hg))) rfl rfl ?_
        refine TL.op (yq (y_or (ev_t rfl) (fun hq => (ev_g rfl hq)))) rfl rfl rfl ?_
        refine TL.op (yq (y_move (ev_t rfl))) rfl rfl rfl ?_
        refine TL.opw (w_f rfl rfl rfl) (fun hg => yq (y_move (ev_t rfl))) rfl rfl ?_
        refine TL.opw (w_f rfl rfl rfl) (fun hg => yq (y_move (ev_t rfl))) rfl rfl ?_
        refine TL.opw (w_f rfl rfl rfl) (fun hg => yq (y_bneq (ev_g rfl hg) (ev_g rfl hg) Try.underlying4)) rfl rfl ?_
        refine TL.op (yq (y_or (ev_t rfl) (fun hq => (ev_g rfl hq)))) rfl rfl rfl ?_
        refine TL.nil ?_
        refine TN.seq ?_
        refine TC.cond (b := (((decide ((F_laws_markMetric (F_laws_toMetric m) 1).1 < 0)) || (!(F_laws_eqIntSS ((F_impl_CutsOfTree (F_laws_toMetric m)).1) ((F_spec_CutsOfTree (F_laws_toMetric m)).1)))) || (((F_impl_CutsOfTree (F_laws_toMetric m)).2) != ((F_spec_CutsOfTree (F_laws_toMetric m)).2)))) (ev_t rfl) (fun h25 => ?_) (fun h25 => ?_)
        · rw [bif_pos h25] at hF
          have q26 := ((or_t h25).imp (fun h => ((or_t h).imp (fun h => (of_decide_eq_true h)) (fun h => (not_t h)))) (fun h => h))
          refine TC.seq ?_
          refine TC.region ?_
          refine TL.op (yq (y_assign ev_c)) rfl rfl rfl ?_
          refine TL.nil ?_
          refine TN.seq ?_
          refine TC.ret ?_
          refine TN.thenR ?_
          subst hF
          exact TN.ret1 rfl (ev_t rfl) (fun w' hw => ⟨rfl, Hp.sublist hw (List.nil_sublist _)⟩)
        · rw [bif_neg h25] at hF
          have q26 := (and_imp (or_f h25) (fun h => (and_imp (or_f h) (fun h => (of_decide_eq_false h)) (fun h => (not_f h)))) (fun h => h))
          refine TC.skip ?_
          refine TN.seq ?_
          refine TC.seq ?_
          refine TC.region ?_
          refine TL.op (yq (y_assign ev_c)) rfl rfl rfl ?_
          refine TL.nil ?_
          refine TN.seq ?_
          refine TC.seq ?_
          refine TC.region ?_
          refine TL.op (yq (y_move (ev_t rfl))) rfl rfl rfl ?_
          refine TL.op (yq (y_move (ev_t rfl))) rfl rfl rfl ?_
          refine TL.callm (ι := Unit) 1 (vs := [r7_1.1, (.int .i64 1)]) (fun _ => (.int .i64 ((F_laws_markIntSS ((F_impl_CutsOfTree (F_laws_toMetric m)).1) 1).1))) (fun _ => tabI 34 3 r7_1.1 r7_1.2 ((F_laws_markIntSS ((F_impl_CutsOfTree (F_laws_toMetric m)).1) 1).2)) en_48 ⟨(ev_t rfl), (ev_t rfl), trivial⟩ rfl rfl (fun w1 fr1 hw => laws_markIntSS_ok w w1 _ r7_1.1 r7_1.2 ((F_impl_CutsOfTree (F_laws_toMetric m)).1) hw 1 (by first | assumption | omega | grind) (by first | assumption | omega | grind)) (fun _ => ?_)
          refine TL.op (yq (y_assign (ev_t rfl))) rfl rfl rfl ?_
          refine TL.nil ?_
          refine TN.seq ?_
          refine TC.seq ?_
          refine TC.region ?_
          refine TL.op (yq (y_assign ev_c)) rfl rfl rfl ?_
          refine TL.nil ?_
          refine TN.seq ?_
          refine TC.seq ?_
          refine TC.region ?_
          refine TL.op (yq (y_move (ev_t rfl))) rfl rfl rfl ?_
          refine TL.op (yq (y_move (ev_t rfl))) rfl rfl rfl ?_
          refine TL.op (y_call (vs := [r7_1.1, (.int .i64 1)]) (v := (.int .i64 (F_laws_heldIntSS ((F_laws_markIntSS ((F_impl_CutsOfTree (F_laws_toMetric m)).1) 1).2) 1))) en_49 ⟨(ev_t rfl), (ev_t rfl), trivial⟩ (fun w hw => laws_heldIntSS_ok w r7_1.1 r7_1.2 ((F_laws_markIntSS ((F_impl_CutsOfTree (F_laws_toMetric m)).1) 1).2) ((rii_tab 1 rfl) w hw) 1 (by first | assumption | omega | grind) (by first | assumption | omega | grind))) rfl rfl rfl ?_
          refine TL.op (yq (y_assign (ev_t rfl))) rfl rfl rfl ?_
          refine TL.nil ?_
          refine TN.seq ?_
          refine TC.seq ?_
          refine TC.seq ?_
          refine TC.region ?_
          refine TL.op (yq (y_move (ev_t rfl))) rfl rfl rfl ?_
          refine TL.op (yq (y_lss (ev_t rfl) ev_c)) rfl rfl rfl ?_
          refine TL.nil ?_
          refine TN.seq ?_
          refine TC.cond (b := decide ((F_laws_heldIntSS ((F_laws_markIntSS ((F_impl_CutsOfTree (F_laws_toMetric m)).1) 1).2) 1) < 0)) (ev_t rfl) (fun h27 => ?_) (fun h27 => ?_)
          · rw [bif_pos h27] at hF
            have q28 := (of_decide_eq_true h27)
            refine TC.seq ?_
            refine TC.region ?_
            refine TL.op (yq (y_assign ev_c)) rfl rfl rfl ?_
            refine TL.nil ?_
            refine TN.seq ?_
            refine TC.ret ?_
            refine TN.thenR ?_
            subst hF
            exact TN.ret1 rfl (ev_t rfl) (fun w' hw => ⟨rfl, Hp.sublist hw (List.nil_sublist _)⟩)
          · rw [bif_neg h27] at hF
            have q28 := (of_decide_eq_false h27)
            refine TC.skip ?_
            refine TN.seq ?_
            refine TC.seq ?_
            refine TC.seq ?_
            refine TC.region ?_
            refine TL.op (yq (y_move (ev_t rfl))) rfl rfl rfl ?_
            refine TL.op (yq (y_move (ev_t rfl))) rfl rfl rfl ?_
            refine TL.op (yq (y_neq (ev_t rfl) (ev_t rfl))) rfl rfl rfl ?_
            refine TL.nil ?_
            refine TN.seq ?_
            refine TC.cond (b := !decide ((F_laws_heldIntSS ((F_laws_markIntSS ((F_impl_CutsOfTree (F_laws_toMetric m)).1) 1).2) 1) = (F_laws_markIntSS ((F_impl_CutsOfTree (F_laws_toMetric m)).1) 1).1)) (ev_t rfl) (fun h29 => ?_) (fun h29 => ?_)
            · rw [bif_pos h29] at hF
              have q30 := (of_decide_eq_false (not_t h29))
              refine TC.seq ?_
              refine TC.region ?_
              refine TL.op (yq (y_assign ev_c)) rfl rfl rfl ?_
              refine TL.nil ?_
              refine TN.seq ?_
              refine TC.ret ?_
              refine TN.thenR ?_
              subst hF
              exact TN.ret1 rfl (ev_t rfl) (fun w' hw => ⟨rfl, Hp.sublist hw (List.nil_sublist _)⟩)
            · rw [bif_neg h29] at hF
              have q30 := (of_decide_eq_true (not_f h29))
              refine TC.skip ?_
              refine TN.seq ?_
              refine TC.seq ?_
              refine TC.region ?_
              refine TL.op (yq (y_ldagg (cs := [vm]) 6 (ev_t rfl) agg_51 rfl)) rfl rfl rfl ?_
              refine TL.callr (ι := Value × List Value) (vs := [(.agg #[vm])]) (fun i => (.agg #[i.1])) (fun i => [tabI 34 3 i.1 i.2 (F_laws_toMetric m)]) en_38 ⟨(ev_t rfl), trivial⟩ rfl (fun w hw => laws_toMetric_ok w vm um m ((rii_arg hm) w hw) (by first | assumption | omega | grind) (by first | assumption | omega | grind)) (fun r24_1 => ?_)
              refine TL.callr (ι := Value × List Value) (vs := [(.agg #[r24_1.1])]) (fun i => (.tuple #[i.1, (.bool ((F_impl_CutsOfTree (F_laws_toMetric m)).2))])) (fun i => [tabI 34 3 i.1 i.2 ((F_impl_CutsOfTree (F_laws_toMetric m)).1)]) en_46 ⟨(ev_t rfl), trivial⟩ rfl (fun w hw => impl_CutsOfTree_ok w r24_1.1 r24_1.2 (F_laws_toMetric m) ((rii_tab 0 rfl) w hw)) (fun r24_2 => ?_)
              refine TL.op (yq (y_move (ev_t rfl))) rfl rfl rfl ?_
              refine TL.op (yq (y_extract (ev_t rfl) rfl)) rfl rfl rfl ?_
              refine TL.op (yq (y_extract (ev_t rfl) rfl)) rfl rfl rfl ?_
              refine TL.op (yq (y_assign (ev_t rfl))) rfl rfl rfl ?_
              refine TL.op (yq (y_assign (ev_t rfl))) rfl rfl rfl ?_
              refine TL.nil ?_
              refine TN.seq ?_
              refine TC.seq ?_
              refine TC.seq ?_
              refine TC.region ?_
              refine TL.op (yq (y_move (ev_t rfl))) rfl rfl rfl ?_
              refine TL.op (yq (y_move (ev_t rfl))) rfl rfl rfl ?_
              refine TL.op (y_call (vs := [r24_2.1, r5_2.1]) (v := (.bool (F_laws_eqIntSS ((F_impl_CutsOfTree (F_laws_toMetric m)).1) ((F_spec_CutsOfTree (F_laws_toMetric m)).1)))) en_47 ⟨(ev_t rfl), (ev_t rfl), trivial⟩ (fun w hw => laws_eqIntSS_ok w r24_2.1 r24_2.2 ((F_impl_CutsOfTree (F_laws_toMetric m)).1) ((rii_tab 0 rfl) w hw) r5_2.1 r5_2.2 ((F_spec_CutsOfTree (F_laws_toMetric m)).1) ((rii_tab 6 rfl) w hw))) rfl rfl rfl ?_
              refine TL.op (yq (y_not (ev_t rfl))) rfl rfl rfl ?_
              refine TL.op (yq (y_move (ev_t rfl))) rfl rfl rfl ?_
              refine TL.opw (w_f rfl rfl rfl) (fun hg => yq (y_move (ev_t rfl))) rfl rfl ?_
              refine TL.opw (w_f rfl rfl rfl) (fun hg => yq (y_move (ev_t rfl))) rfl rfl ?_
              refine TL.opw (w_f rfl rfl rfl) (fun hg => yq (y_bneq (ev_g rfl hg) (ev_g rfl hg) Try.underlying4)) rfl rfl ?_
              refine TL.op (yq (y_or (ev_t rfl) (fun hq => (ev_g rfl hq)))) rfl rfl rfl ?_
              refine TL.nil ?_
              refine TN.seq ?_
              refine TC.condF (ev_t rfl) h21 ?_
              refine TC.skip ?_
              refine TN.seq ?_
              refine TC.seq ?_
              refine TC.region ?_
              refine TL.op (yq (y_assign ev_c)) rfl rfl rfl ?_
              refine TL.nil ?_
              refine TN.seq ?_
              refine TC.seq ?_
              refine TC.region ?_
              refine TL.op (yq (y_move (ev_t rfl))) rfl rfl rfl ?_
              refine TL.op (yq (y_move (ev_t rfl))) rfl rfl rfl ?_
              refine TL.op (y_call (vs := [r7_1.1, (.int .i64 1)]) (v := (.int .i64 (F_laws_heldIntSS ((F_laws_markIntSS ((F_impl_CutsOfTree (F_laws_toMetric m)).1) 1).2) 1))) en_49 ⟨(ev_t rfl), (ev_t rfl), trivial⟩ (fun w hw => laws_heldIntSS_ok w r7_1.1 r7_1.2 ((F_laws_markIntSS ((F_impl_CutsOfTree (F_laws_toMetric m)).1) 1).2) ((rii_tab 3 rfl) w hw) 1 (by first | assumption | omega | grind) (by first | assumption | omega | grind))) rfl rfl rfl ?_
              refine TL.op (yq (y_assign (ev_t rfl))) rfl rfl rfl ?_
              refine TL.nil ?_
              refine TN.seq ?_
              refine TC.seq ?_
              refine TC.seq ?_
              refine TC.region ?_
              refine TL.op (yq (y_move (ev_t rfl))) rfl rfl rfl ?_
              refine TL.op (yq (y_lss (ev_t rfl) ev_c)) rfl rfl rfl ?_
              refine TL.nil ?_
              refine TN.seq ?_
              refine TC.condF (ev_t rfl) h27 ?_
              refine TC.skip ?_
              refine TN.seq ?_
              refine TC.seq ?_
              refine TC.seq ?_
              refine TC.region ?_
              refine TL.op (yq (y_move (ev_t rfl))) rfl rfl rfl ?_
              refine TL.op (yq (y_move (ev_t rfl))) rfl rfl rfl ?_
              refine TL.op (yq (y_neq (ev_t rfl) (ev_t rfl))) rfl rfl rfl ?_
              refine TL.nil ?_
              refine TN.seq ?_
              refine TC.condF (ev_t rfl) h29 ?_
              refine TC.skip ?_
              refine TN.seq ?_
              refine TC.seq ?_
              refine TC.region ?_
              refine TL.op (yq (y_assign ev_c)) rfl rfl rfl ?_
              refine TL.nil ?_
              refine TN.seq ?_
              refine TC.ret ?_
              subst hF
              exact TN.ret1 rfl (ev_t rfl) (fun w' hw => ⟨rfl, Hp.sublist hw (List.nil_sublist _)⟩)


end Go.Proofs.Ytcmhgkcifejgcaa
