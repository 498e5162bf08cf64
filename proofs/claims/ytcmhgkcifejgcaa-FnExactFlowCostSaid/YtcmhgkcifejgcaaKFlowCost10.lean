/-
  Part of a proof: rules of the walk, plain functions and their laws, walks. No condition.
-/
import Derived.Test.YtcmhgkcifejgcaaKFlowCost9
namespace Go.Proofs.Ytcmhgkcifejgcaa
open Go Go.RowKit
set_option linter.unusedVariables false

set_option maxRecDepth 4000 in
set_option maxHeartbeats 20000000 in
theorem impl_assigned_ok (w : World) (vcosts : Value) (ucosts : List Value) (costs : List (List Int)) (hcosts : RII w vcosts ucosts costs) (hp0 : Cs costs) :
    Calls Try.prog 101 ([vcosts] : List Value).toArray w (fun e w' => ∃ i : Value, e = .returned (.tuple #[i, (.int .i64 ((F_impl_assigned costs).2))]) ∧ Hp w [rowI 3 i ((F_impl_assigned costs).1)] w') := by
  obtain ⟨rz, hF⟩ : ∃ rz, (F_impl_assigned costs) = rz := ⟨_, rfl⟩
  rw [hF]
  unfold F_impl_assigned at hF
  have hn60 := hp0.n60
  have hlen_costs := argT_len hcosts
  refine calls_tc Try.func101 rfl rfl rfl ?_
  change TC _ _ _ _ (Hp w []) [(0, vcosts)]
  refine TC.seq ?_
  refine TC.region ?_
  refine TL.op (yq (y_assign ev_c)) rfl rfl rfl ?_
  refine TL.op (yq (y_assign ev_c)) rfl rfl rfl ?_
  refine TL.nil ?_
  refine TN.seq ?_
  refine TC.seq ?_
  refine TC.seq ?_
  refine TC.region ?_
  refine TL.op (yq (y_move (ev_t rfl))) rfl rfl rfl ?_
  refine TL.op (yq (y_len (ev_t rfl) Try.underlying49 (fun w hw => ((fun w hw => ((rii_arg hcosts) w hw).1) w hw).ln))) rfl rfl rfl ?_
  refine TL.op (yq (y_eql (ev_t rfl) ev_c)) rfl rfl rfl ?_
  refine TL.nil ?_
  refine TN.seq ?_
  refine TC.cond (b := decide ((costs.length : Int) = 0)) (ev_t rfl) (fun h347 => ?_) (fun h347 => ?_)
  · rw [bif_pos h347] at hF
    have q348 := (of_decide_eq_true h347)
    refine TC.seq ?_
    refine TC.region ?_
    refine TL.op (yq (y_assign ev_c)) rfl rfl rfl ?_
    refine TL.op (yq (y_assign ev_c)) rfl rfl rfl ?_
    refine TL.nil ?_
    refine TN.seq ?_
    refine TC.ret ?_
    refine TN.thenR ?_
    subst hF
    refine TN.cls (fun w hw => hw.nil 3 1) ?_
    exact TN.ret2 rfl (ev_t rfl) (ev_t rfl) (fun w' hw => ⟨(.slice none 0 0), rfl, hw⟩)
  · rw [bif_neg h347] at hF
    have q348 := (of_decide_eq_false h347)
    have hnm := hp0.nm (by omega)
    refine TC.skip ?_
    refine TN.seq ?_
    refine TC.seq ?_
    refine TC.regionQ (by kernel_rfl) (by kernel_rfl) dr_hp ?_
    refine TQ.op (yq (y_move (ev_t rfl))) rfl rfl rfl ?_
    refine TQ.op (yq (y_len (ev_t rfl) Try.underlying49 (fun w hw => ((fun w hw => ((rii_arg hcosts) w hw).1) w hw).ln))) rfl rfl rfl ?_
    refine TQ.op (yq (y_move (ev_t rfl))) rfl rfl rfl ?_
    have hb350 : Hid (0 < costs.length) := (show 0 < costs.length by omega)
    refine TQ.op (yq (y_idx (k := 0) (ev_t rfl) ev_c (by rfl) slT_49 (fun w hw => ((rii_arg hcosts) w hw).1) hb350)) rfl rfl rfl ?_
    have ha351 := hcosts.row (i := 0) hb350
    refine TQ.op (yq (y_ldA (ev_t rfl) one_34 (rii_arg hcosts) hb350)) rfl rfl rfl ?_
    refine TQ.op (yq (y_len (ev_t rfl) Try.underlying34 (fun w hw => ((ri_arg ha351) w hw).ln))) rfl rfl rfl ?_
    refine TQ.op (yq (y_assign (ev_t rfl))) rfl rfl rfl ?_
    refine TQ.op (yq (y_assign (ev_t rfl))) rfl rfl rfl ?_
    refine TQ.nil ?_
    refine TN.seq ?_
    refine TC.seq ?_
    refine TC.mid (fun a' w' => ∃ v4_2 : Value, ∃ v4_5 : Value, Slots 212 [(0, vcosts), (4, (.int .i64 (costs.length : Int))), (5, (.int .i64 ((costs.getD 0 []).length : Int))), (6, v4_2), (7, v4_5)] a' ∧ Hp w [rowI 3 v4_5 (List.replicate ((costs.getD 0 []).length + 1) (0 : Int)), rowI 3 v4_2 (List.replicate (costs.length + 1) (0 : Int))] w') ?_ ?_
    · refine TC.regionH 8 (Hp w []) rfl (by kernel_rfl) dr_hp (fun w hw => hw) ?_
      refine TH.take 0 rfl (by kernel_rfl) (y_move (ev_t rfl)) rfl rfl rfl ?_
      refine TH.take 1 rfl (by kernel_rfl) (y_add (ev_t rfl) ev_c (by unfold In64; constructor <;> omega)) rfl rfl rfl ?_
      refine TH.take 3 rfl (by kernel_rfl) (y_move (ev_t rfl)) rfl rfl rfl ?_
      refine TH.take 4 rfl (by kernel_rfl) (y_add (ev_t rfl) ev_c (by unfold In64; constructor <;> omega)) rfl rfl rfl ?_
      refine TH.loud2 2 5 rfl rfl (by kernel_rfl) ?_ ?_
      · refine TL.makeSlice (n := (costs.length + 1)) (ev_t rfl) (ev_t rfl) (by omega) slT_34 rfl (by omega) (by unfold maxLen; omega) rfl (fun v4_2 => ?_)
        refine TL.cls (fun w hw => hw.zeros) ?_
        refine TL.nil ?_
        refine TH.back (fun w hw => Hp.sublist hw (List.nil_sublist _)) ?_
        refine TH.take 6 rfl (by kernel_rfl) (y_assign (ev_t rfl)) rfl rfl rfl ?_
        refine TH.loud 5 rfl (by kernel_rfl) ?_
        refine TL.makeSlice (n := ((costs.getD 0 []).length + 1)) (ev_t rfl) (ev_t rfl) (by omega) slT_34 rfl (by omega) (by unfold maxLen; omega) rfl (fun v4_5 => ?_)
        refine TL.cls (fun w hw => hw.zeros) ?_
        refine TL.nil ?_
        refine TH.back (fun w hw => Hp.sublist hw (List.nil_sublist _)) ?_
        refine TH.take 7 rfl (by kernel_rfl) (y_assign (ev_t rfl)) rfl rfl rfl ?_
        refine TH.done (by kernel_rfl) ?_
        exact fun a' w' hs hw => ⟨v4_2, v4_5, hs.sub ⟨rfl, rfl, rfl, rfl, rfl, trivial⟩, hw⟩
      · refine TL.makeSlice (n := ((costs.getD 0 []).length + 1)) (ev_t rfl) (ev_t rfl) (by omega) slT_34 rfl (by omega) (by unfold maxLen; omega) rfl (fun v4_5 => ?_)
        refine TL.cls (fun w hw => hw.zeros) ?_
        refine TL.nil ?_
        refine TH.back (fun w hw => Hp.sublist hw (List.nil_sublist _)) ?_
        refine TH.loud 2 rfl (by kernel_rfl) ?_
        refine TL.makeSlice (n := (costs.length + 1)) (ev_t rfl) (ev_t rfl) (by omega) slT_34 rfl (by omega) (by unfold maxLen; omega) rfl (fun v4_2 => ?_)
        refine TL.cls (fun w hw => hw.zeros) ?_
        refine TL.nil ?_
        refine TH.back (fun w hw => Hp.sublist hw (List.nil_sublist _)) ?_
        refine TH.take 6 rfl (by kernel_rfl) (y_assign (ev_t rfl)) rfl rfl rfl ?_
        refine TH.take 7 rfl (by kernel_rfl) (y_assign (ev_t rfl)) rfl rfl rfl ?_
        refine TH.done (by kernel_rfl) ?_
        exact fun a' w' hs hw => ⟨v4_2, v4_5, hs.sub ⟨rfl, rfl, rfl, rfl, rfl, trivial⟩, Hp.picks [1, 0] (by decide) rfl hw⟩
    · rintro a' w' ⟨v4_2, v4_5, hs', hw'⟩
      refine (?_ : TN _ .normal 212 (Hp w [rowI 3 v4_5 (List.replicate ((costs.getD 0 []).length + 1) (0 : Int)), rowI 3 v4_2 (List.replicate (costs.length + 1) (0 : Int))]) [(0, vcosts), (4, (.int .i64 (costs.length : Int))), (5, (.int .i64 ((costs.getD 0 []).length : Int))), (6, v4_2), (7, v4_5)]) a' w' hs' hw'
      clear hs' hw'
      refine TN.seq ?_
      refine TC.seq ?_
      refine TC.region ?_
      refine TL.op (yq (y_move (ev_t rfl))) rfl rfl rfl ?_
      refine TL.op (yq (y_add (ev_t rfl) ev_c (by unfold In64; constructor <;> omega))) rfl rfl rfl ?_
      refine TL.makeSlice (n := ((costs.getD 0 []).length + 1)) (ev_t rfl) (ev_t rfl) (by omega) slT_34 rfl (by omega) (by unfold maxLen; omega) rfl (fun v5_2 => ?_)
      refine TL.cls (fun w hw => hw.zeros) ?_
      refine TL.op (yq (y_assign (ev_t rfl))) rfl rfl rfl ?_
      refine TL.nil ?_
      refine TN.seq ?_
      refine TC.seq ?_
      refine TC.seq ?_
      refine TC.region ?_
      refine TL.op (yq (y_assign ev_c)) rfl rfl rfl ?_
      refine TL.nil ?_
      refine TN.seq ?_
      refine TC.block ?_
      obtain ⟨c352, hc353⟩ : ∃ c, F_impl_assigned_L1 costs ((costs.length + 1 - 1) + 1) (1, (List.replicate ((costs.getD 0 []).length + 1) (0 : Int)), (List.replicate ((costs.getD 0 []).length + 1) (0 : Int)), (List.replicate (costs.length + 1) (0 : Int))) = c := ⟨_, rfl⟩
      rw [hc353] at hF
      refine TC.loop (ι := Nat × Nat × List Int × List Int × List Int) (fun (fu1, k9_1, m0_1, m1_1, m2_1) => [(0, vcosts), (4, (.int .i64 (costs.length : Int))), (5, (.int .i64 ((costs.getD 0 []).length : Int))), (6, v4_2), (7, v4_5), (8, v5_2), (9, (.int .i64 (k9_1 : Int)))]) (fun (fu1, k9_1, m0_1, m1_1, m2_1) => Hp w [rowI 3 v5_2 m0_1, rowI 3 v4_5 m1_1, rowI 3 v4_2 m2_1]) (fun (fu1, k9_1, m0_1, m1_1, m2_1) => (1 ≤ k9_1) ∧ (k9_1 ≤ costs.length + 1) ∧ (Th.Hu costs.length (costs.getD 0 []).length (hC costs) (k9_1 - 1) m2_1 m1_1 m0_1) ∧ Hid (costs.length + 1 - k9_1 < fu1) ∧ F_impl_assigned_L1 costs fu1 (k9_1, m0_1, m1_1, m2_1) = c352) (fun (fu1, k9_1, m0_1, m1_1, m2_1) => fu1) ((costs.length + 1 - 1) + 1, 1, (List.replicate ((costs.getD 0 []).length + 1) (0 : Int)), (List.replicate ((costs.getD 0 []).length + 1) (0 : Int)), (List.replicate (costs.length + 1) (0 : Int))) ⟨(by first | omega | (simp [-List.getD_eq_getElem?_getD] <;> omega)), (by first | omega | (simp [-List.getD_eq_getElem?_getD] <;> omega)), (hu_start hp0 hnm), (Nat.lt_succ_self _), hc353⟩ ⟨rfl, rfl, rfl, rfl, rfl, rfl, rfl, trivial⟩ (fun w hw => hw) ?_
      rintro ⟨fu1, k9_1, m0_1, m1_1, m2_1⟩ hJ1
      obtain ⟨hi1_0, hi1_1, hi1_2, hmu1, hL1⟩ : (1 ≤ k9_1) ∧ (k9_1 ≤ costs.length + 1) ∧ (Th.Hu costs.length (costs.getD 0 []).length (hC costs) (k9_1 - 1) m2_1 m1_1 m0_1) ∧ Hid (costs.length + 1 - k9_1 < fu1) ∧ F_impl_assigned_L1 costs fu1 (k9_1, m0_1, m1_1, m2_1) = c352 := hJ1
      change TC _ _ _ _ (Hp w [rowI 3 v5_2 m0_1, rowI 3 v4_5 m1_1, rowI 3 v4_2 m2_1]) [(0, vcosts), (4, (.int .i64 (costs.length : Int))), (5, (.int .i64 ((costs.getD 0 []).length : Int))), (6, v4_2), (7, v4_5), (8, v5_2), (9, (.int .i64 (k9_1 : Int)))]
      obtain ⟨mf1, rfl⟩ := hid_pred hmu1
      rw [F_impl_assigned_L1_s] at hL1
      have hlu1 := hi1_2.lu
      have hlv1 := hi1_2.lv
      have hlr1 := hi1_2.lr
      have hrep := repeat_eq (1152921504606846976) (((costs.getD 0 []).length : Int) + 1) (by omega) (by omega)
      have hnm3 : (costs.getD 0 []).length ≤ 1000 := by omega
      have hn61 : costs.length ≤ 1000 := by omega
      refine TC.seq ?_
      refine TC.seq ?_
      refine TC.region ?_
      refine TL.op (yq (y_move (ev_t rfl))) rfl rfl rfl ?_
      refine TL.op (yq (y_move (ev_t rfl))) rfl rfl rfl ?_
      refine TL.op (yq (y_leq (ev_t rfl) (ev_t rfl))) rfl rfl rfl ?_
      refine TL.nil ?_
      refine TN.seq ?_
      refine TC.cond (b := decide ((k9_1 : Int) ≤ (costs.length : Int))) (ev_t rfl) (fun h354 => ?_) (fun h354 => ?_)
      · rw [bif_pos h354] at hL1
        have q355 := (of_decide_eq_true h354)
        refine TC.skip ?_
        refine TN.seq ?_
        refine TC.seq ?_
        refine TC.block ?_
        refine TC.seq ?_
        refine TC.region ?_
        refine TL.op (yq (y_move (ev_t rfl))) rfl rfl rfl ?_
        refine TL.op (yq (y_move (ev_t rfl))) rfl rfl rfl ?_
        have hb356 : Hid (0 < m0_1.length) := (show 0 < m0_1.length by omega)
        refine TL.op (yq (y_idx (k := 0) (ev_t rfl) ev_c (by rfl) slT_34 (ri_row 0 rfl) hb356)) rfl rfl rfl ?_
        refine TL.storeI 0 (ev_t rfl) (ev_t rfl) one_3 rfl hb356 ?_
        refine TL.nil ?_
        refine TN.seq ?_
        refine TC.seq ?_
        refine TC.region ?_
        refine TL.op (yq (y_assign ev_c)) rfl rfl rfl ?_
        refine TL.nil ?_
        refine TN.seq ?_
        refine TC.seq ?_
        refine TC.mid (fun a' w' => ∃ v11_2 : Value, ∃ r11_6 : Value, ∃ v11_9 : Value, Slots 212 [(0, vcosts), (4, (.int .i64 (costs.length : Int))), (5, (.int .i64 ((costs.getD 0 []).length : Int))), (6, v4_2), (7, v4_5), (8, v5_2), (9, (.int .i64 (k9_1 : Int))), (10, (.int .i64 0)), (11, v11_2), (12, r11_6), (13, v11_9)] a' ∧ Hp w [rowB 4 v11_9 (List.replicate ((costs.getD 0 []).length + 1) false), rowI 3 r11_6 (F_slices_Repeat_Sint_int ([1152921504606846976]) (((costs.getD 0 []).length : Int) + 1)), rowI 3 v11_2 (List.replicate ((costs.getD 0 []).length + 1) (0 : Int)), rowI 3 v5_2 (m0_1.set 0 (k9_1 : Int)), rowI 3 v4_5 m1_1, rowI 3 v4_2 m2_1] w') ?_ ?_
        · refine TC.regionH 13 (Hp w [rowI 3 v5_2 (m0_1.set 0 (k9_1 : Int)), rowI 3 v4_5 m1_1, rowI 3 v4_2 m2_1]) rfl (by kernel_rfl) dr_hp (fun w hw => hw) ?_
          refine TH.take 0 rfl (by kernel_rfl) (y_move (ev_t rfl)) rfl rfl rfl ?_
          refine TH.take 1 rfl (by kernel_rfl) (y_add (ev_t rfl) ev_c (by unfold In64; constructor <;> omega)) rfl rfl rfl ?_
          refine TH.take 4 rfl (by kernel_rfl) (y_move (ev_t rfl)) rfl rfl rfl ?_
          refine TH.take 5 rfl (by kernel_rfl) (y_add (ev_t rfl) ev_c (by unfold In64; constructor <;> omega)) rfl rfl rfl ?_
          refine TH.take 7 rfl (by kernel_rfl) (y_move (ev_t rfl)) rfl rfl rfl ?_
          refine TH.take 8 rfl (by kernel_rfl) (y_add (ev_t rfl) ev_c (by unfold In64; constructor <;> omega)) rfl rfl rfl ?_
          refine TH.loud3 2 3 9 rfl rfl rfl (by kernel_rfl) ?_ ?_ ?_
          · refine TL.makeSlice (n := ((costs.getD 0 []).length + 1)) (ev_t rfl) (ev_t rfl) (by omega) slT_34 rfl (by omega) (by unfold maxLen; omega) rfl (fun v11_2 => ?_)
            refine TL.cls (fun w hw => hw.zeros) ?_
            refine TL.nil ?_
            refine TH.back (fun w hw => Hp.sublist hw (.cons _ (.cons_cons _ (.cons_cons _ (.cons_cons _ .slnil))))) ?_
            refine TH.loud2 3 9 rfl rfl (by kernel_rfl) ?_ ?_
            · refine TL.buildI (zs := [.const (.int .i64 1152921504606846976)]) (qs := [1152921504606846976]) slT_34 rfl ⟨ev_c, trivial⟩ rfl (by decide) rfl (fun v11_3 => ?_)
              refine TL.nil ?_
              refine TH.back (fun w hw => Hp.sublist hw (.cons _ (.cons _ (.cons_cons _ (.cons_cons _ (.cons_cons _ .slnil)))))) ?_
              refine TH.loud2 6 9 rfl rfl (by kernel_rfl) ?_ ?_
              · refine TL.callr (ι := Value) (vs := [v11_3, (.int .i64 (((costs.getD 0 []).length : Int) + 1))]) (fun i => i) (fun i => [rowI 3 i (F_slices_Repeat_Sint_int ([1152921504606846976]) (((costs.getD 0 []).length : Int) + 1))]) en_79 ⟨(ev_t rfl), (ev_t rfl), trivial⟩ rfl (fun w hw => slices_Repeat_Sint_int_ok w v11_3 ([1152921504606846976]) ((ri_row 0 rfl) w hw) (((costs.getD 0 []).length : Int) + 1) (by first | omega | rfl) (by first | omega | rfl) (by first | omega | rfl)) (fun r11_6 => ?_)
                refine TL.nil ?_
                refine TH.back (fun w hw => Hp.sublist hw (.cons _ (.cons _ (.cons _ (.cons_cons _ (.cons_cons _ (.cons_cons _ .slnil))))))) ?_
                refine TH.take 10 rfl (by kernel_rfl) (y_assign (ev_t rfl)) rfl rfl rfl ?_
                refine TH.take 11 rfl (by kernel_rfl) (y_assign (ev_t rfl)) rfl rfl rfl ?_
                refine TH.loud 9 rfl (by kernel_rfl) ?_
                refine TL.makeSlice (n := ((costs.getD 0 []).length + 1)) (ev_t rfl) (ev_t rfl) (by omega) slT_143 rfl (by omega) (by unfold maxLen; omega) rfl (fun v11_9 => ?_)
                refine TL.cls (fun w hw => hw.zerosB) ?_
                refine TL.nil ?_
                refine TH.back (fun w hw => Hp.sublist hw (.cons _ (.cons _ (.cons _ (.cons _ (.cons_cons _ (.cons_cons _ (.cons_cons _ .slnil)))))))) ?_
                refine TH.take 12 rfl (by kernel_rfl) (y_assign (ev_t rfl)) rfl rfl rfl ?_
                refine TH.done (by kernel_rfl) ?_
                exact fun a' w' hs hw => ⟨v11_2, r11_6, v11_9, hs.sub ⟨rfl, rfl, rfl, rfl, rfl, rfl, rfl, rfl, rfl, rfl, rfl, trivial⟩, Hp.sublist hw (.cons_cons _ (.cons_cons _ (.cons _ (.cons_cons _ (.cons_cons _ (.cons_cons _ (.cons_cons _ .slnil)))))))⟩
              · refine TL.makeSlice (n := ((costs.getD 0 []).length + 1)) (ev_t rfl) (ev_t rfl) (by omega) slT_143 rfl (by omega) (by unfold maxLen; omega) rfl (fun v11_9 => ?_)
                refine TL.cls (fun w hw => hw.zerosB) ?_
                refine TL.nil ?_
                refine TH.back (fun w hw => Hp.sublist hw (.cons _ (.cons _ (.cons _ (.cons_cons _ (.cons_cons _ (.cons_cons _ .slnil))))))) ?_
                refine TH.loud 6 rfl (by kernel_rfl) ?_
                refine TL.callr (ι := Value) (vs := [v11_3, (.int .i64 (((costs.getD 0 []).length : Int) + 1))]) (fun i => i) (fun i => [rowI 3 i (F_slices_Repeat_Sint_int ([1152921504606846976]) (((costs.getD 0 []).length : Int) + 1))]) en_79 ⟨(ev_t rfl), (ev_t rfl), trivial⟩ rfl (fun w hw => slices_Repeat_Sint_int_ok w v11_3 ([1152921504606846976]) ((ri_row 1 rfl) w hw) (((costs.getD 0 []).length : Int) + 1) (by first | omega | rfl) (by first | omega | rfl) (by first | omega | rfl)) (fun r11_6 => ?_)
                refine TL.nil ?_
                refine TH.back (fun w hw => Hp.sublist hw (.cons _ (.cons _ (.cons _ (.cons _ (.cons_cons _ (.cons_cons _ (.cons_cons _ .slnil)))))))) ?_
                refine TH.take 10 rfl (by kernel_rfl) (y_assign (ev_t rfl)) rfl rfl rfl ?_
                refine TH.take 11 rfl (by kernel_rfl) (y_assign (ev_t rfl)) rfl rfl rfl ?_
                refine TH.take 12 rfl (by kernel_rfl) (y_assign (ev_t rfl)) rfl rfl rfl ?_
                refine TH.done (by kernel_rfl) ?_
                exact fun a' w' hs hw => ⟨v11_2, r11_6, v11_9, hs.sub ⟨rfl, rfl, rfl, rfl, rfl, rfl, rfl, rfl, rfl, rfl, rfl, trivial⟩, Hp.picks [1, 0, 3, 4, 5, 6] (by decide) rfl hw⟩
            · refine TL.makeSlice (n := ((costs.getD 0 []).length + 1)) (ev_t rfl) (ev_t rfl) (by omega) slT_143 rfl (by omega) (by unfold maxLen; omega) rfl (fun v11_9 => ?_)
              refine TL.cls (fun w hw => hw.zerosB) ?_
              refine TL.nil ?_
              refine TH.back (fun w hw => Hp.sublist hw (.cons _ (.cons _ (.cons_cons _ (.cons_cons _ (.cons_cons _ .slnil)))))) ?_
              refine TH.loud 3 rfl (by kernel_rfl) ?_
              refine TL.buildI (zs := [.const (.int .i64 1152921504606846976)]) (qs := [1152921504606846976]) slT_34 rfl ⟨ev_c, trivial⟩ rfl (by decide) rfl (fun v11_3 => ?_)
              refine TL.nil ?_
              refine TH.back (fun w hw => Hp.sublist hw (.cons _ (.cons _ (.cons _ (.cons_cons _ (.cons_cons _ (.cons_cons _ .slnil))))))) ?_
              refine TH.loud 6 rfl (by kernel_rfl) ?_
              refine TL.callr (ι := Value) (vs := [v11_3, (.int .i64 (((costs.getD 0 []).length : Int) + 1))]) (fun i => i) (fun i => [rowI 3 i (F_slices_Repeat_Sint_int ([1152921504606846976]) (((costs.getD 0 []).length : Int) + 1))]) en_79 ⟨(ev_t rfl), (ev_t rfl), trivial⟩ rfl (fun w hw => slices_Repeat_Sint_int_ok w v11_3 ([1152921504606846976]) ((ri_row 0 rfl) w hw) (((costs.getD 0 []).length : Int) + 1) (by first | omega | rfl) (by first | omega | rfl) (by first | omega | rfl)) (fun r11_6 => ?_)
              refine TL.nil ?_
              refine TH.back (fun w hw => Hp.sublist hw (.cons _ (.cons _ (.cons _ (.cons _ (.cons_cons _ (.cons_cons _ (.cons_cons _ .slnil)))))))) ?_
              refine TH.take 10 rfl (by kernel_rfl) (y_assign (ev_t rfl)) rfl rfl rfl ?_
              refine TH.take 11 rfl (by kernel_rfl) (y_assign (ev_t rfl)) rfl rfl rfl ?_
              refine TH.take 12 rfl (by kernel_rfl) (y_assign (ev_t rfl)) rfl rfl rfl ?_
              refine TH.done (by kernel_rfl) ?_
              exact fun a' w' hs hw => ⟨v11_2, r11_6, v11_9, hs.sub ⟨rfl, rfl, rfl, rfl, rfl, rfl, rfl, rfl, rfl, rfl, rfl, trivial⟩, Hp.picks [2, 0, 3, 4, 5, 6] (by decide) rfl hw⟩
          · refine TL.buildI (zs := [.const (.int .i64 1152921504606846976)]) (qs := [1152921504606846976]) slT_34 rfl ⟨ev_c, trivial⟩ rfl (by decide) rfl (fun v11_3 => ?_)
            refine TL.nil ?_
            refine TH.back (fun w hw => Hp.sublist hw (.cons _ (.cons_cons _ (.cons_cons _ (.cons_cons _ .slnil))))) ?_
            refine TH.loud3 2 6 9 rfl rfl rfl (by kernel_rfl) ?_ ?_ ?_
            · refine TL.makeSlice (n := ((costs.getD 0 []).length + 1)) (ev_t rfl) (ev_t rfl) (by omega) slT_34 rfl (by omega) (by unfold maxLen; omega) rfl (fun v11_2 => ?_)
              refine TL.cls (fun w hw => hw.zeros) ?_
              refine TL.nil ?_
              refine TH.back (fun w hw => Hp.sublist hw (.cons _ (.cons _ (.cons_cons _ (.cons_cons _ (.cons_cons _ .slnil)))))) ?_
              refine TH.loud2 6 9 rfl rfl (by kernel_rfl) ?_ ?_
              · refine TL.callr (ι := Value) (vs := [v11_3, (.int .i64 (((costs.getD 0 []).length : Int) + 1))]) (fun i => i) (fun i => [rowI 3 i (F_slices_Repeat_Sint_int ([1152921504606846976]) (((costs.getD 0 []).length : Int) + 1))]) en_79 ⟨(ev_t rfl), (ev_t rfl), trivial⟩ rfl (fun w hw => slices_Repeat_Sint_int_ok w v11_3 ([1152921504606846976]) ((ri_row 1 rfl) w hw) (((costs.getD 0 []).length : Int) + 1) (by first | omega | rfl) (by first | omega | rfl) (by first | omega | rfl)) (fun r11_6 => ?_)
                refine TL.nil ?_
                refine TH.back (fun w hw => Hp.sublist hw (.cons _ (.cons _ (.cons _ (.cons_cons _ (.cons_cons _ (.cons_cons _ .slnil))))))) ?_
                refine TH.take 10 rfl (by kernel_rfl) (y_assign (ev_t rfl)) rfl rfl rfl ?_
                refine TH.take 11 rfl (by kernel_rfl) (y_assign (ev_t rfl)) rfl rfl rfl ?_
                refine TH.loud 9 rfl (by kernel_rfl) ?_
                refine TL.makeSlice (n := ((costs.getD 0 []).length + 1)) (ev_t rfl) (ev_t rfl) (by omega) slT_143 rfl (by omega) (by unfold maxLen; omega) rfl (fun v11_9 => ?_)
                refine TL.cls (fun w hw => hw.zerosB) ?_
                refine TL.nil ?_
                refine TH.back (fun w hw => Hp.sublist hw (.cons _ (.cons _ (.cons _ (.cons _ (.cons_cons _ (.cons_cons _ (.cons_cons _ .slnil)))))))) ?_
                refine TH.take 12 rfl (by kernel_rfl) (y_assign (ev_t rfl)) rfl rfl rfl ?_
                refine TH.done (by kernel_rfl) ?_
                exact fun a' w' hs hw => ⟨v11_2, r11_6, v11_9, hs.sub ⟨rfl, rfl, rfl, rfl, rfl, rfl, rfl, rfl, rfl, rfl, rfl, trivial⟩, Hp.sublist hw (.cons_cons _ (.cons_cons _ (.cons_cons _ (.cons _ (.cons_cons _ (.cons_cons _ (.cons_cons _ .slnil)))))))⟩
              · refine TL.makeSlice (n := ((costs.getD 0 []).length + 1)) (ev_t rfl) (ev_t rfl) (by omega) slT_143 rfl (by omega) (by unfold maxLen; omega) rfl (fun v11_9 => ?_)
                refine TL.cls (fun w hw => hw.zerosB) ?_
                refine TL.nil ?_
                refine TH.back (fun w hw => Hp.sublist hw (.cons _ (.cons _ (.cons _ (.cons_cons _ (.cons_cons _ (.cons_cons _ .slnil))))))) ?_
                refine TH.loud 6 rfl (by kernel_rfl) ?_
                refine TL.callr (ι := Value) (vs := [v11_3, (.int .i64 (((costs.getD 0 []).length : Int) + 1))]) (fun i => i) (fun i => [rowI 3 i (F_slices_Repeat_Sint_int ([1152921504606846976]) (((costs.getD 0 []).length : Int) + 1))]) en_79 ⟨(ev_t rfl), (ev_t rfl), trivial⟩ rfl (fun w hw => slices_Repeat_Sint_int_ok w v11_3 ([1152921504606846976]) ((ri_row 2 rfl) w hw) (((costs.getD 0 []).length : Int) + 1) (by first | omega | rfl) (by first | omega | rfl) (by first | omega | rfl)) (fun r11_6 => ?_)
                refine TL.nil ?_
                refine TH.back (fun w hw => Hp.sublist hw (.cons _ (.cons _ (.cons _ (.cons _ (.cons_cons _ (.cons_cons _ (.cons_cons _ .slnil)))))))) ?_
                refine TH.take 10 rfl (by kernel_rfl) (y_assign (ev_t rfl)) rfl rfl rfl ?_
                refine TH.take 11 rfl (by kernel_rfl) (y_assign (ev_t rfl)) rfl rfl rfl ?_
                refine TH.take 12 rfl (by kernel_rfl) (y_assign (ev_t rfl)) rfl rfl rfl ?_
                refine TH.done (by kernel_rfl) ?_
                exact fun a' w' hs hw => ⟨v11_2, r11_6, v11_9, hs.sub ⟨rfl, rfl, rfl, rfl, rfl, rfl, rfl, rfl, rfl, rfl, rfl, trivial⟩, Hp.picks [1, 0, 2, 4, 5, 6] (by decide) rfl hw⟩
            · refine TL.callr (ι := Value) (vs := [v11_3, (.int .i64 (((costs.getD 0 []).length : Int) + 1))]) (fun i => i) (fun i => [rowI 3 i (F_slices_Repeat_Sint_int ([1152921504606846976]) (((costs.getD 0 []).length : Int) + 1))]) en_79 ⟨(ev_t rfl), (ev_t rfl), trivial⟩ rfl (fun w hw => slices_Repeat_Sint_int_ok w v11_3 ([1152921504606846976]) ((ri_row 0 rfl) w hw) (((costs.getD 0 []).length : Int) + 1) (by first | omega | rfl) (by first | omega | rfl) (by first | omega | rfl)) (fun r11_6 => ?_)
              refine TL.nil ?_
              refine TH.back (fun w hw => Hp.sublist hw (.cons _ (.cons _ (.cons_cons _ (.cons_cons _ (.cons_cons _ .slnil)))))) ?_
              refine TH.loud2 2 9 rfl rfl (by kernel_rfl) ?_ ?_
              · refine TL.makeSlice (n := ((costs.getD 0 []).length + 1)) (ev_t rfl) (ev_t rfl) (by omega) slT_34 rfl (by omega) (by unfold maxLen; omega) rfl (fun v11_2 => ?_)
                refine TL.cls (fun w hw => hw.zeros) ?_
                refine TL.nil ?_
                refine TH.back (fun w hw => Hp.sublist hw (.cons _ (.cons _ (.cons _ (.cons_cons _ (.cons_cons _ (.cons_cons _ .slnil))))))) ?_
                refine TH.take 10 rfl (by kernel_rfl) (y_assign (ev_t rfl)) rfl rfl rfl ?_
                refine TH.take 11 rfl (by kernel_rfl) (y_assign (ev_t rfl)) rfl rfl rfl ?_
                refine TH.loud 9 rfl (by kernel_rfl) ?_
                refine TL.makeSlice (n := ((costs.getD 0 []).length + 1)) (ev_t rfl) (ev_t rfl) (by omega) slT_143 rfl (by omega) (by unfold maxLen; omega) rfl (fun v11_9 => ?_)
                refine TL.cls (fun w hw => hw.zerosB) ?_
                refine TL.nil ?_
                refine TH.back (fun w hw => Hp.sublist hw (.cons _ (.cons _ (.cons _ (.cons _ (.cons_cons _ (.cons_cons _ (.cons_cons _ .slnil)))))))) ?_
                refine TH.take 12 rfl (by kernel_rfl) (y_assign (ev_t rfl)) rfl rfl rfl ?_
                refine TH.done (by kernel_rfl) ?_
                exact fun a' w' hs hw => ⟨v11_2, r11_6, v11_9, hs.sub ⟨rfl, rfl, rfl, rfl, rfl, rfl, rfl, rfl, rfl, rfl, rfl, trivial⟩, Hp.picks [0, 2, 1, 4, 5, 6] (by decide) rfl hw⟩
              · refine TL.makeSlice (n := ((costs.getD 0 []).length + 1)) (ev_t rfl) (ev_t rfl) (by omega) slT_143 rfl (by omega) (by unfold maxLen; omega) rfl (fun v11_9 => ?_)
                refine TL.cls (fun w hw => hw.zerosB) ?_
                refine TL.nil ?_
                refine TH.back (fun w hw => Hp.sublist hw (.cons _ (.cons _ (.cons _ (.cons_cons _ (.cons_cons _ (.cons_cons _ .slnil))))))) ?_
                refine TH.loud 2 rfl (by kernel_rfl) ?_
                refine TL.makeSlice (n := ((costs.getD 0 []).length + 1)) (ev_t rfl) (ev_t rfl) (by omega) slT_34 rfl (by omega) (by unfold maxLen; omega) rfl (fun v11_2 => ?_)
                refine TL.cls (fun w hw => hw.zeros) ?_
                refine TL.nil ?_
                refine TH.back (fun w hw => Hp.sublist hw (.cons _ (.cons _ (.cons _ (.cons _ (.cons_cons _ (.cons_cons _ (.cons_cons _ .slnil)))))))) ?_
                refine TH.take 10 rfl (by kernel_rfl) (y_assign (ev_t rfl)) rfl rfl rfl ?_
                refine TH.take 11 rfl (by kernel_rfl) (y_assign (ev_t rfl)) rfl rfl rfl ?_
                refine TH.take 12 rfl (by kernel_rfl) (y_assign (ev_t rfl)) rfl rfl rfl ?_
                refine TH.done (by kernel_rfl) ?_
                exact fun a' w' hs hw => ⟨v11_2, r11_6, v11_9, hs.sub ⟨rfl, rfl, rfl, rfl, rfl, rfl, rfl, rfl, rfl, rfl, rfl, trivial⟩, Hp.picks [1, 2, 0, 4, 5, 6] (by decide) rfl hw⟩
            · refine TL.makeSlice (n := ((costs.getD 0 []).length + 1)) (ev_t rfl) (ev_t rfl) (by omega) slT_143 rfl (by omega) (by unfold maxLen; omega) rfl (fun v11_9 => ?_)
              refine TL.cls (fun w hw => hw.zerosB) ?_
              refine TL.nil ?_
              refine TH.back (fun w hw => Hp.sublist hw (.cons _ (.cons _ (.cons_cons _ (.cons_cons _ (.cons_cons _ .slnil)))))) ?_
              refine TH.loud2 2 6 rfl rfl (by kernel_rfl) ?_ ?_
              · refine TL.makeSlice (n := ((costs.getD 0 []).length + 1)) (ev_t rfl) (ev_t rfl) (by omega) slT_34 rfl (by omega) (by unfold maxLen; omega) rfl (fun v11_2 => ?_)
                refine TL.cls (fun w hw => hw.zeros) ?_
                refine TL.nil ?_
                refine TH.back (fun w hw => Hp.sublist hw (.cons _ (.cons _ (.cons _ (.cons_cons _ (.cons_cons _ (.cons_cons _ .slnil))))))) ?_
                refine TH.loud 6 rfl (by kernel_rfl) ?_
                refine TL.callr (ι := Value) (vs := [v11_3, (.int .i64 (((costs.getD 0 []).length : Int) + 1))]) (fun i => i) (fun i => [rowI 3 i (F_slices_Repeat_Sint_int ([1152921504606846976]) (((costs.getD 0 []).length : Int) + 1))]) en_79 ⟨(ev_t rfl), (ev_t rfl), trivial⟩ rfl (fun w hw => slices_Repeat_Sint_int_ok w v11_3 ([1152921504606846976]) ((ri_row 2 rfl) w hw) (((costs.getD 0 []).length : Int) + 1) (by first | omega | rfl) (by first | omega | rfl) (by first | omega | rfl)) (fun r11_6 => ?_)
                refine TL.nil ?_
                refine TH.back (fun w hw => Hp.sublist hw (.cons _ (.cons _ (.cons _ (.cons _ (.cons_cons _ (.cons_cons _ (.cons_cons _ .slnil)))))))) ?_
                refine TH.take 10 rfl (by kernel_rfl) (y_assign (ev_t rfl)) rfl rfl rfl ?_
                refine TH.take 11 rfl (by kernel_rfl) (y_assign (ev_t rfl)) rfl rfl rfl ?_
                refine TH.take 12 rfl (by kernel_rfl) (y_assign (ev_t rfl)) rfl rfl rfl ?_
                refine TH.done (by kernel_rfl) ?_
                exact fun a' w' hs hw => ⟨v11_2, r11_6, v11_9, hs.sub ⟨rfl, rfl, rfl, rfl, rfl, rfl, rfl, rfl, rfl, rfl, rfl, trivial⟩, Hp.picks [2, 0, 1, 4, 5, 6] (by decide) rfl hw⟩
              · refine TL.callr (ι := Value) (vs := [v11_3, (.int .i64 (((costs.getD 0 []).length : Int) + 1))]) (fun i => i) (fun i => [rowI 3 i (F_slices_Repeat_Sint_int ([1152921504606846976]) (((costs.getD 0 []).length : Int) + 1))]) en_79 ⟨(ev_t rfl), (ev_t rfl), trivial⟩ rfl (fun w hw => slices_Repeat_Sint_int_ok w v11_3 ([1152921504606846976]) ((ri_row 1 rfl) w hw) (((costs.getD 0 []).length : Int) + 1) (by first | omega | rfl) (by first | omega | rfl) (by first | omega | rfl)) (fun r11_6 => ?_)
                refine TL.nil ?_
                refine TH.back (fun w hw => Hp.sublist hw (.cons _ (.cons _ (.cons _ (.cons_cons _ (.cons_cons _ (.cons_cons _ .slnil))))))) ?_
                refine TH.loud 2 rfl (by kernel_rfl) ?_
                refine TL.makeSlice (n := ((costs.getD 0 []).length + 1)) (ev_t rfl) (ev_t rfl) (by omega) slT_34 rfl (by omega) (by unfold maxLen; omega) rfl (fun v11_2 => ?_)
                refine TL.cls (fun w hw => hw.zeros) ?_
                refine TL.nil ?_
                refine TH.back (fun w hw => Hp.sublist hw (.cons _ (.cons _ (.cons _ (.cons _ (.cons_cons _ (.cons_cons _ (.cons_cons _ .slnil)))))))) ?_
                refine TH.take 10 rfl (by kernel_rfl) (y_assign (ev_t rfl)) rfl rfl rfl ?_
                refine TH.take 11 rfl (by kernel_rfl) (y_assign (ev_t rfl)) rfl rfl rfl ?_
                refine TH.take 12 rfl (by kernel_rfl) (y_assign (ev_t rfl)) rfl rfl rfl ?_
                refine TH.done (by kernel_rfl) ?_
                exact fun a' w' hs hw => ⟨v11_2, r11_6, v11_9, hs.sub ⟨rfl, rfl, rfl, rfl, rfl, rfl, rfl, rfl, rfl, rfl, rfl, trivial⟩, Hp.picks [2, 1, 0, 4, 5, 6] (by decide) rfl hw⟩
          · refine TL.makeSlice (n := ((costs.getD 0 []).length + 1)) (ev_t rfl) (ev_t rfl) (by omega) slT_143 rfl (by omega) (by unfold maxLen; omega) rfl (fun v11_9 => ?_)
            refine TL.cls (fun w hw => hw.zerosB) ?_
            refine TL.nil ?_
            refine TH.back (fun w hw => Hp.sublist hw (.cons _ (.cons_cons _ (.cons_cons _ (.cons_cons _ .slnil))))) ?_
            refine TH.loud2 2 3 rfl rfl (by kernel_rfl) ?_ ?_
            · refine TL.makeSlice (n := ((costs.getD 0 []).length + 1)) (ev_t rfl) (ev_t rfl) (by omega) slT_34 rfl (by omega) (by unfold maxLen; omega) rfl (fun v11_2 => ?_)
              refine TL.cls (fun w hw => hw.zeros) ?_
              refine TL.nil ?_
              refine TH.back (fun w hw => Hp.sublist hw (.cons _ (.cons _ (.cons_cons _ (.cons_cons _ (.cons_cons _ .slnil)))))) ?_
              refine TH.loud 3 rfl (by kernel_rfl) ?_
              refine TL.buildI (zs := [.const (.int .i64 1152921504606846976)]) (qs := [1152921504606846976]) slT_34 rfl ⟨ev_c, trivial⟩ rfl (by decide) rfl (fun v11_3 => ?_)
              refine TL.nil ?_
              refine TH.back (fun w hw => Hp.sublist hw (.cons _ (.cons _ (.cons _ (.cons_cons _ (.cons_cons _ (.cons_cons _ .slnil))))))) ?_
              refine TH.loud 6 rfl (by kernel_rfl) ?_
              refine TL.callr (ι := Value) (vs := [v11_3, (.int .i64 (((costs.getD 0 []).length : Int) + 1))]) (fun i => i) (fun i => [rowI 3 i (F_slices_Repeat_Sint_int ([1152921504606846976]) (((costs.getD 0 []).length : Int) + 1))]) en_79 ⟨(ev_t rfl), (ev_t rfl), trivial⟩ rfl (fun w hw => slices_Repeat_Sint_int_ok w v11_3 ([1152921504606846976]) ((ri_row 0 rfl) w hw) (((costs.getD 0 []).length : Int) + 1) (by first | omega | rfl) (by first | omega | rfl) (by first | omega | rfl)) (fun r11_6 => ?_)
              refine TL.nil ?_
              refine TH.back (fun w hw => Hp.sublist hw (.cons _ (.cons _ (.cons _ (.cons _ (.cons_cons _ (.cons_cons _ (.cons_cons _ .slnil)))))))) ?_
              refine TH.take 10 rfl (by kernel_rfl) (y_assign (ev_t rfl)) rfl rfl rfl ?_
              refine TH.take 11 rfl (by kernel_rfl) (y_assign (ev_t rfl)) rfl rfl rfl ?_
              refine TH.take 12 rfl (by kernel_rfl) (y_assign (ev_t rfl)) rfl rfl rfl ?_
              refine TH.done (by kernel_rfl) ?_
              exact fun a' w' hs hw => ⟨v11_2, r11_6, v11_9, hs.sub ⟨rfl, rfl, rfl, rfl, rfl, rfl, rfl, rfl, rfl, rfl, rfl, trivial⟩, Hp.picks [3, 0, 2, 4, 5, 6] (by decide) rfl hw⟩
            · refine TL.buildI (zs := [.const (.int .i64 1152921504606846976)]) (qs := [1152921504606846976]) slT_34 rfl ⟨ev_c, trivial⟩ rfl (by decide) rfl (fun v11_3 => ?_)
              refine TL.nil ?_
              refine TH.back (fun w hw => Hp.sublist hw (.cons _ (.cons _ (.cons_cons _ (.cons_cons _ (.cons_cons _ .slnil)))))) ?_
              refine TH.loud2 2 6 rfl rfl (by kernel_rfl) ?_ ?_
              · refine TL.makeSlice (n := ((costs.getD 0 []).length + 1)) (ev_t rfl) (ev_t rfl) (by omega) slT_34 rfl (by omega) (by unfold maxLen; omega) rfl (fun v11_2 => ?_)
                refine TL.cls (fun w hw => hw.zeros) ?_
                refine TL.nil ?_
                refine TH.back (fun w hw => Hp.sublist hw (.cons _ (.cons _ (.cons _ (.cons_cons _ (.cons_cons _ (.cons_cons _ .slnil))))))) ?_
                refine TH.loud 6 rfl (by kernel_rfl) ?_
                refine TL.callr (ι := Value) (vs := [v11_3, (.int .i64 (((costs.getD 0 []).length : Int) + 1))]) (fun i => i) (fun i => [rowI 3 i (F_slices_Repeat_Sint_int ([1152921504606846976]) (((costs.getD 0 []).length : Int) + 1))]) en_79 ⟨(ev_t rfl), (ev_t rfl), trivial⟩ rfl (fun w hw => slices_Repeat_Sint_int_ok w v11_3 ([1152921504606846976]) ((ri_row 1 rfl) w hw) (((costs.getD 0 []).length : Int) + 1) (by first | omega | rfl) (by first | omega | rfl) (by first | omega | rfl)) (fun r11_6 => ?_)
                refine TL.nil ?_
                refine TH.back (fun w hw => Hp.sublist hw (.cons _ (.cons _ (.cons _ (.cons _ (.cons_cons _ (.cons_cons _ (.cons_cons _ .slnil)))))))) ?_
                refine TH.take 10 rfl (by kernel_rfl) (y_assign (ev_t rfl)) rfl rfl rfl ?_
                refine TH.take 11 rfl (by kernel_rfl) (y_assign (ev_t rfl)) rfl rfl rfl ?_
                refine TH.take 12 rfl (by kernel_rfl) (y_assign (ev_t rfl)) rfl rfl rfl ?_
                refine TH.done (by kernel_rfl) ?_
                exact fun a' w' hs hw => ⟨v11_2, r11_6, v11_9, hs.sub ⟨rfl, rfl, rfl, rfl, rfl, rfl, rfl, rfl, rfl, rfl, rfl, trivial⟩, Hp.picks [3, 0, 1, 4, 5, 6] (by decide) rfl hw⟩
              · refine TL.callr (ι := Value) (vs := [v11_3, (.int .i64 (((costs.getD 0 []).length : Int) + 1))]) (fun i => i) (fun i => [rowI 3 i (F_slices_Repeat_Sint_int ([1152921504606846976]) (((costs.getD 0 []).length : Int) + 1))]) en_79 ⟨(ev_t rfl), (ev_t rfl), trivial⟩ rfl (fun w hw => slices_Repeat_Sint_int_ok w v11_3 ([1152921504606846976]) ((ri_row 0 rfl) w hw) (((costs.getD 0 []).length : Int) + 1) (by first | omega | rfl) (by first | omega | rfl) (by first | omega | rfl)) (fun r11_6 => ?_)
                refine TL.nil ?_
                refine TH.back (fun w hw => Hp.sublist hw (.cons _ (.cons _ (.cons _ (.cons_cons _ (.cons_cons _ (.cons_cons _ .slnil))))))) ?_
                refine TH.loud 2 rfl (by kernel_rfl) ?_
                refine TL.makeSlice (n := ((costs.getD 0 []).length + 1)) (ev_t rfl) (ev_t rfl) (by omega) slT_34 rfl (by omega) (by unfold maxLen; omega) rfl (fun v11_2 => ?_)
                refine TL.cls (fun w hw => hw.zeros) ?_
                refine TL.nil ?_
                refine TH.back (fun w hw => Hp.sublist hw (.cons _ (.cons _ (.cons _ (.cons _ (.cons_cons _ (.cons_cons _ (.cons_cons _ .slnil)))))))) ?_
                refine TH.take 10 rfl (by kernel_rfl) (y_assign (ev_t rfl)) rfl rfl rfl ?_
                refine TH.take 11 rfl (by kernel_rfl) (y_assign (ev_t rfl)) rfl rfl rfl ?_
                refine TH.take 12 rfl (by kernel_rfl) (y_assign (ev_t rfl)) rfl rfl rfl ?_
                refine TH.done (by kernel_rfl) ?_
                exact fun a' w' hs hw => ⟨v11_2, r11_6, v11_9, hs.sub ⟨rfl, rfl, rfl, rfl, rfl, rfl, rfl, rfl, rfl, rfl, rfl, trivial⟩, Hp.picks [3, 1, 0, 4, 5, 6] (by decide) rfl hw⟩
        · rintro a' w' ⟨v11_2, r11_6, v11_9, hs', hw'⟩
          refine (?_ : TN _ .normal 212 (Hp w [rowB 4 v11_9 (List.replicate ((costs.getD 0 []).length + 1) false), rowI 3 r11_6 (F_slices_Repeat_Sint_int ([1152921504606846976]) (((costs.getD 0 []).length : Int) + 1)), rowI 3 v11_2 (List.replicate ((costs.getD 0 []).length + 1) (0 : Int)), rowI 3 v5_2 (m0_1.set 0 (k9_1 : Int)), rowI 3 v4_5 m1_1, rowI 3 v4_2 m2_1]) [(0, vcosts), (4, (.int .i64 (costs.length : Int))), (5, (.int .i64 ((costs.getD 0 []).length : Int))), (6, v4_2), (7, v4_5), (8, v5_2), (9, (.int .i64 (k9_1 : Int))), (10, (.int .i64 0)), (11, v11_2), (12, r11_6), (13, v11_9)]) a' w' hs' hw'
          clear hs' hw'
          refine TN.seq ?_
          refine TC.seq ?_
          refine TC.block ?_
          obtain ⟨c357, hc358⟩ : ∃ c, F_impl_assigned_L2 costs k9_1 m0_1 (((costs.getD 0 []).length + 1 - (List.replicate ((costs.getD 0 []).length + 1) false).countP id) + 1) (0, (List.replicate ((costs.getD 0 []).length + 1) false), (F_slices_Repeat_Sint_int ([1152921504606846976]) (((costs.getD 0 []).length : Int) + 1)), (List.replicate ((costs.getD 0 []).length + 1) (0 : Int)), m1_1, m2_1) = c := ⟨_, rfl⟩
          rw [hc358] at hL1
          refine TC.loop (ι := Nat × Nat × List Bool × List Int × List Int × List Int × List Int) (fun (fu2, k10_2, m0_2, m1_2, m2_2, m3_2, m4_2) => [(0, vcosts), (4, (.int .i64 (costs.length : Int))), (5, (.int .i64 ((costs.getD 0 []).length : Int))), (6, v4_2), (7, v4_5), (8, v5_2), (9, (.int .i64 (k9_1 : Int))), (10, (.int .i64 (k10_2 : Int))), (11, v11_2), (12, r11_6), (13, v11_9)]) (fun (fu2, k10_2, m0_2, m1_2, m2_2, m3_2, m4_2) => Hp w [rowB 4 v11_9 m0_2, rowI 3 r11_6 m1_2, rowI 3 v11_2 m2_2, rowI 3 v5_2 (m0_1.set 0 (k9_1 : Int)), rowI 3 v4_5 m3_2, rowI 3 v4_2 m4_2]) (fun (fu2, k10_2, m0_2, m1_2, m2_2, m3_2, m4_2) => (Th.Sr costs.length (costs.getD 0 []).length (hC costs) k9_1 (m0_1.set 0 (k9_1 : Int)) m4_2 m3_2 m0_2 m1_2 m2_2 k10_2) ∧ Hid ((costs.getD 0 []).length + 1 - m0_2.countP id < fu2) ∧ F_impl_assigned_L2 costs k9_1 m0_1 fu2 (k10_2, m0_2, m1_2, m2_2, m3_2, m4_2) = c357) (fun (fu2, k10_2, m0_2, m1_2, m2_2, m3_2, m4_2) => fu2) (((costs.getD 0 []).length + 1 - (List.replicate ((costs.getD 0 []).length + 1) false).countP id) + 1, 0, (List.replicate ((costs.getD 0 []).length + 1) false), (F_slices_Repeat_Sint_int ([1152921504606846976]) (((costs.getD 0 []).length : Int) + 1)), (List.replicate ((costs.getD 0 []).length + 1) (0 : Int)), m1_1, m2_1) ⟨(sr_init hi1_2 hi1_0 (by omega) hrep), (Nat.lt_succ_self _), hc358⟩ ⟨rfl, rfl, rfl, rfl, rfl, rfl, rfl, rfl, rfl, rfl, rfl, trivial⟩ (fun w hw => hw) ?_
          rintro ⟨fu2, k10_2, m0_2, m1_2, m2_2, m3_2, m4_2⟩ hJ2
          obtain ⟨hi2_0, hmu2, hL2⟩ : (Th.Sr costs.length (costs.getD 0 []).length (hC costs) k9_1 (m0_1.set 0 (k9_1 : Int)) m4_2 m3_2 m0_2 m1_2 m2_2 k10_2) ∧ Hid ((costs.getD 0 []).length + 1 - m0_2.countP id < fu2) ∧ F_impl_assigned_L2 costs k9_1 m0_1 fu2 (k10_2, m0_2, m1_2, m2_2, m3_2, m4_2) = c357 := hJ2
          change TC _ _ _ _ (Hp w [rowB 4 v11_9 m0_2, rowI 3 r11_6 m1_2, rowI 3 v11_2 m2_2, rowI 3 v5_2 (m0_1.set 0 (k9_1 : Int)), rowI 3 v4_5 m3_2, rowI 3 v4_2 m4_2]) [(0, vcosts), (4, (.int .i64 (costs.length : Int))), (5, (.int .i64 ((costs.getD 0 []).length : Int))), (6, v4_2), (7, v4_5), (8, v5_2), (9, (.int .i64 (k9_1 : Int))), (10, (.int .i64 (k10_2 : Int))), (11, v11_2), (12, r11_6), (13, v11_9)]
          obtain ⟨mf2, rfl⟩ := hid_pred hmu2
          rw [F_impl_assigned_L2_s] at hL2
          have hlus := hi2_0.lus
          have hlle := hi2_0.lle
          have hlwa := hi2_0.lwa
          have hatm := hi2_0.atm
          have hlu2 := hi2_0.inn.lu
          have hlv2 := hi2_0.inn.lv
          have hlr2 := hi2_0.inn.lr
          have hrow := sr_row hi2_0
          refine TC.block ?_
          refine TC.seq ?_
          refine TC.region ?_
          refine TL.op (yq (y_move (ev_t rfl))) rfl rfl rfl ?_
          refine TL.op (yq (y_move (ev_t rfl))) rfl rfl rfl ?_
          have hb359 : Hid (k10_2 < m0_2.length) := (ix hlus hatm)
          refine TL.op (yq (y_idx (k := k10_2) (ev_t rfl) (ev_t rfl) rfl slT_143 (rd_row 0 rfl) hb359)) rfl rfl rfl ?_
          refine TL.storeBo 0 (ev_t rfl) ev_c one_4 rfl hb359 ?_
          refine TL.nil ?_
          refine TN.seq ?_
          refine TC.seq ?_
          refine TC.region ?_
          refine TL.op (yq (y_move (ev_t rfl))) rfl rfl rfl ?_
          refine TL.op (yq (y_move (ev_t rfl))) rfl rfl rfl ?_
          have hb360 : Hid (k10_2 < (m0_1.set 0 (k9_1 : Int)).length) := (ix hlr2 hatm)
          refine TL.op (yq (y_idx (k := k10_2) (ev_t rfl) (ev_t rfl) rfl slT_34 (ri_row 3 rfl) hb360)) rfl rfl rfl ?_
          refine TL.op (yq (y_ldi (ev_t rfl) one_3 (ri_row 3 rfl) hb360)) rfl rfl rfl ?_
          refine TL.op (yq (y_assign (ev_t rfl))) rfl rfl rfl ?_
          refine TL.op (yq (y_assign ev_c)) rfl rfl rfl ?_
          refine TL.op (yq (y_assign ev_c)) rfl rfl rfl ?_
          refine TL.nil ?_
          refine TN.seq ?_
          refine TC.seq ?_
          refine TC.seq ?_
          refine TC.region ?_
          refine TL.op (yq (y_assign ev_c)) rfl rfl rfl ?_
          refine TL.nil ?_
          refine TN.seq ?_
          refine TC.block ?_
          obtain ⟨c361, hc362⟩ : ∃ c, F_impl_assigned_L3 costs k9_1 m0_1 k10_2 m0_2 m3_2 m4_2 (((costs.getD 0 []).length + 1 - 1) + 1) (1152921504606846976, 0, 1, m1_2, m2_2) = c := ⟨_, rfl⟩
          rw [hc362] at hL2
          refine TC.loop (ι := Nat × Int × Nat × Nat × List Int × List Int) (fun (fu3, k15_3, k16_3, k17_3, m0_3, m1_3) => [(0, vcosts), (4, (.int .i64 (costs.length : Int))), (5, (.int .i64 ((costs.getD 0 []).length : Int))), (6, v4_2), (7, v4_5), (8, v5_2), (9, (.int .i64 (k9_1 : Int))), (10, (.int .i64 (k10_2 : Int))), (11, v11_2), (12, r11_6), (13, v11_9), (14, (.int .i64 ((m0_1.set 0 (k9_1 : Int)).getD k10_2 0))), (15, (.int .i64 k15_3)), (16, (.int .i64 (k16_3 : Int))), (17, (.int .i64 (k17_3 : Int)))]) (fun (fu3, k15_3, k16_3, k17_3, m0_3, m1_3) => Hp w [rowB 4 v11_9 (m0_2.set k10_2 true), rowI 3 r11_6 m0_3, rowI 3 v11_2 m1_3, rowI 3 v5_2 (m0_1.set 0 (k9_1 : Int)), rowI 3 v4_5 m3_2, rowI 3 v4_2 m4_2]) (fun (fu3, k15_3, k16_3, k17_3, m0_3, m1_3) => (Th.Sc costs.length (costs.getD 0 []).length (hC costs) k9_1 (m0_1.set 0 (k9_1 : Int)) m4_2 m3_2 m0_2 m1_2 m2_2 k10_2 m0_3 m1_3 k17_3 k15_3 k16_3) ∧ Hid ((costs.getD 0 []).length + 1 - k17_3 < fu3) ∧ F_impl_assigned_L3 costs k9_1 m0_1 k10_2 m0_2 m3_2 m4_2 fu3 (k15_3, k16_3, k17_3, m0_3, m1_3) = c361) (fun (fu3, k15_3, k16_3, k17_3, m0_3, m1_3) => fu3) (((costs.getD 0 []).length + 1 - 1) + 1, 1152921504606846976, 0, 1, m1_2, m2_2) ⟨(Th.Sc.init hi2_0), (Nat.lt_succ_self _), hc362⟩ ⟨rfl, rfl, rfl, rfl, rfl, rfl, rfl, rfl, rfl, rfl, rfl, rfl, rfl, rfl, rfl, trivial⟩ (fun w hw => hw) ?_
          rintro ⟨fu3, k15_3, k16_3, k17_3, m0_3, m1_3⟩ hJ3
          obtain ⟨hi3_0, hmu3, hL3⟩ : (Th.Sc costs.length (costs.getD 0 []).length (hC costs) k9_1 (m0_1.set 0 (k9_1 : Int)) m4_2 m3_2 m0_2 m1_2 m2_2 k10_2 m0_3 m1_3 k17_3 k15_3 k16_3) ∧ Hid ((costs.getD 0 []).length + 1 - k17_3 < fu3) ∧ F_impl_assigned_L3 costs k9_1 m0_1 k10_2 m0_2 m3_2 m4_2 fu3 (k15_3, k16_3, k17_3, m0_3, m1_3) = c361 := hJ3
          change TC _ _ _ _ (Hp w [rowB 4 v11_9 (m0_2.set k10_2 true), rowI 3 r11_6 m0_3, rowI 3 v11_2 m1_3, rowI 3 v5_2 (m0_1.set 0 (k9_1 : Int)), rowI 3 v4_5 m3_2, rowI 3 v4_2 m4_2]) [(0, vcosts), (4, (.int .i64 (costs.length : Int))), (5, (.int .i64 ((costs.getD 0 []).length : Int))), (6, v4_2), (7, v4_5), (8, v5_2), (9, (.int .i64 (k9_1 : Int))), (10, (.int .i64 (k10_2 : Int))), (11, v11_2), (12, r11_6), (13, v11_9), (14, (.int .i64 ((m0_1.set 0 (k9_1 : Int)).getD k10_2 0))), (15, (.int .i64 k15_3)), (16, (.int .i64 (k16_3 : Int))), (17, (.int .i64 (k17_3 : Int)))]
          obtain ⟨mf3, rfl⟩ := hid_pred hmu3
          rw [F_impl_assigned_L3_s] at hL3
          have hll3 := hi3_0.lle
          have hlw3 := hi3_0.lwa
          have hj13 := hi3_0.j1
          have hrw3 := cs_row hp0 hrow
          have hce3 : Hid _ := hp0.el ((m0_1.set 0 (k9_1 : Int)).getD k10_2 0 - 1).toNat ((k17_3 : Int) - 1).toNat
          have hub3 := sr_ub hi2_0
          refine TC.seq ?_
          refine TC.seq ?_
          refine TC.region ?_
          refine TL.op (yq (y_move (ev_t rfl))) rfl rfl rfl ?_
          refine TL.op (yq (y_move (ev_t rfl))) rfl rfl rfl ?_
          refine TL.op (yq (y_leq (ev_t rfl) (ev_t rfl))) rfl rfl rfl ?_
          refine TL.nil ?_
          refine TN.seq ?_
          refine TC.cond (b := decide ((k17_3 : Int) ≤ ((costs.getD 0 []).length : Int))) (ev_t rfl) (fun h363 => ?_) (fun h363 => ?_)
          · rw [bif_pos h363] at hL3
            have q364 := (of_decide_eq_true h363)
            have hjle : k17_3 ≤ (costs.getD 0 []).length := Int.ofNat_le.1 q364
            have hvb3 : Hid _ := hi2_0.inn.vb k17_3 hj13 hjle
            refine TC.skip ?_
            refine TN.seq ?_
            refine TC.seq ?_
            refine TC.block ?_
            refine TC.seq ?_
            refine TC.seq ?_
            refine TC.region ?_
            refine TL.op (yq (y_move (ev_t rfl))) rfl rfl rfl ?_
            refine TL.op (yq (y_move (ev_t rfl))) rfl rfl rfl ?_
            have hb365 : Hid (k17_3 < (m0_2.set k10_2 true).length) := (ixs hlus hjle)
            refine TL.op (yq (y_idx (k := k17_3) (ev_t rfl) (ev_t rfl) rfl slT_143 (rd_row 0 rfl) hb365)) rfl rfl rfl ?_
            refine TL.op (yq (y_ldbo (ev_t rfl) one_4 (rd_row 0 rfl) hb365)) rfl rfl rfl ?_
            refine TL.nil ?_
            refine TN.seq ?_
            refine TC.cond (b := ((m0_2.set k10_2 true).getD k17_3 false)) (ev_t rfl) (fun h366 => ?_) (fun h366 => ?_)
            · rw [bif_pos h366] at hL3
              have q367 := h366
              have hst := hi3_0.skip hi2_0 hjle q367
              refine TC.exit ?_
              refine TN.thenE ?_
              refine TN.blockH ?_
              refine TN.seq ?_
              refine TC.region ?_
              refine TL.op (yq (y_move (ev_t rfl))) rfl rfl rfl ?_
              refine TL.op (yq (y_add (ev_t rfl) ev_c (in64_s hjle hnm3))) rfl rfl rfl ?_
              refine TL.op (yq (y_assign (ev_t rfl))) rfl rfl rfl ?_
              refine TL.nil ?_
              have hmu3b := Nat.sub_lt_sub_left (Nat.lt_succ_of_le hjle) (Nat.lt_succ_self k17_3)
              exact TN.hand (mf3, k15_3, k16_3, (k17_3 + 1), m0_3, m1_3) ⟨hst, (Nat.lt_of_lt_of_le hmu3b (Nat.le_of_lt_succ hmu3.out)), hL3⟩ (Nat.lt_succ_self _) ⟨rfl, rfl, rfl, rfl, rfl, rfl, rfl, rfl, rfl, rfl, rfl, rfl, rfl, rfl, rfl, trivial⟩ (fun w hw => hw)
            · rw [bif_neg h366] at hL3
              have q367 := h366
              have hnu := q367
              refine TC.skip ?_
              refine TN.seq ?_
              refine TC.seq ?_
              refine TC.seq ?_
              refine TC.regionQ (by kernel_rfl) (by kernel_rfl) dr_hp ?_
              refine TQ.op (yq (y_move (ev_t rfl))) rfl rfl rfl ?_
              refine TQ.op (yq (y_move (ev_t rfl))) rfl rfl rfl ?_
              refine TQ.op (yq (y_sub (ev_t rfl) ev_c (in64_x hrow hn61))) rfl rfl rfl ?_
              have hb368 : Hid ((((m0_1.set 0 (k9_1 : Int)).getD k10_2 0) - 1).toNat < costs.length) := (ix_x hrow)
              refine TQ.op (yq (y_idx (k := (((m0_1.set 0 (k9_1 : Int)).getD k10_2 0) - 1).toNat) (ev_t rfl) (ev_t rfl) (eq_x hrow) slT_49 (fun w hw => ((rii_arg hcosts) w hw).1) hb368)) rfl rfl rfl ?_
              have ha369 := hcosts.row (i := (((m0_1.set 0 (k9_1 : Int)).getD k10_2 0) - 1).toNat) hb368
              refine TQ.op (yq (y_ldA (ev_t rfl) one_34 (rii_arg hcosts) hb368)) rfl rfl rfl ?_
              refine TQ.op (yq (y_move (ev_t rfl))) rfl rfl rfl ?_
              refine TQ.op (yq (y_sub (ev_t rfl) ev_c (in64_p hjle hnm3))) rfl rfl rfl ?_
              have hb370 : Hid (((k17_3 : Int) - 1).toNat < (costs.getD ((((m0_1.set 0 (k9_1 : Int)).getD k10_2 0) - 1).toNat) []).length) := (ix_c hj13 hjle hrw3)
              refine TQ.op (yq (y_idx (k := ((k17_3 : Int) - 1).toNat) (ev_t rfl) (ev_t rfl) (eq_c hj13) slT_34 (ri_arg ha369) hb370)) rfl rfl rfl ?_
              refine TQ.op (yq (y_ldi (ev_t rfl) one_3 (ri_arg ha369) hb370)) rfl rfl rfl ?_
              refine TQ.op (yq (y_move (ev_t rfl))) rfl rfl rfl ?_
              refine TQ.op (yq (y_move (ev_t rfl))) rfl rfl rfl ?_
              have hb371 : Hid ((((m0_1.set 0 (k9_1 : Int)).getD k10_2 0)).toNat < m4_2.length) := (ix_u hrow hlu2)
              refine TQ.op (yq (y_idx (k := (((m0_1.set 0 (k9_1 : Int)).getD k10_2 0)).toNat) (ev_t rfl) (ev_t rfl) (eq_u hrow) slT_34 (ri_row 5 rfl) hb371)) rfl rfl rfl ?_
              refine TQ.op (yq (y_ldi (ev_t rfl) one_3 (ri_row 5 rfl) hb371)) rfl rfl rfl ?_
              refine TQ.op (yq (y_sub (ev_t rfl) (ev_t rfl) (in64_cu hce3 hub3 (by decide)))) rfl rfl rfl ?_
              refine TQ.op (yq (y_move (ev_t rfl))) rfl rfl rfl ?_
              refine TQ.op (yq (y_move (ev_t rfl))) rfl rfl rfl ?_
              have hb372 : Hid (k17_3 < m3_2.length) := (ix hlv2 hjle)
              refine TQ.op (yq (y_idx (k := k17_3) (ev_t rfl) (ev_t rfl) rfl slT_34 (ri_row 4 rfl) hb372)) rfl rfl rfl ?_
              refine TQ.op (yq (y_ldi (ev_t rfl) one_3 (ri_row 4 rfl) hb372)) rfl rfl rfl ?_
              refine TQ.op (yq (y_sub (ev_t rfl) (ev_t rfl) (in64_cuv hce3 hub3 hvb3 (by decide)))) rfl rfl rfl ?_
              refine TQ.op (yq (y_assign (ev_t rfl))) rfl rfl rfl ?_
              refine TQ.nil ?_
              refine TN.seq ?_
              refine TC.seq ?_
              refine TC.region ?_
              refine TL.op (yq (y_move (ev_t rfl))) rfl rfl rfl ?_
              refine TL.op (yq (y_move (ev_t rfl))) rfl rfl rfl ?_
              refine TL.op (yq (y_move (ev_t rfl))) rfl rfl rfl ?_
              have hb373 : Hid (k17_3 < m0_3.length) := (ix hll3 hjle)
              refine TL.op (yq (y_idx (k := k17_3) (ev_t rfl) (ev_t rfl) rfl slT_34 (ri_row 1 rfl) hb373)) rfl rfl rfl ?_
              refine TL.op (yq (y_ldi (ev_t rfl) one_3 (ri_row 1 rfl) hb373)) rfl rfl rfl ?_
              refine TL.op (yq (y_lss (ev_t rfl) (ev_t rfl))) rfl rfl rfl ?_
              refine TL.nil ?_
              refine TN.seq ?_
              refine TC.cond (b := decide ((((costs.getD ((((m0_1.set 0 (k9_1 : Int)).getD k10_2 0) - 1).toNat) []).getD (((k17_3 : Int) - 1).toNat) 0) - (m4_2.getD ((((m0_1.set 0 (k9_1 : Int)).getD k10_2 0)).toNat) 0)) - (m3_2.getD k17_3 0) < (m0_3.getD k17_3 0))) (ev_t rfl) (fun h374 => ?_) (fun h374 => ?_)
              · rw [bif_pos h374] at hL3
                have q375 := (of_decide_eq_true h374)
                have hq1 : Hid _ := q375
                replace h374 : Hid _ := h374
                replace q375 : Hid _ := q375
                refine TC.region ?_
                refine TL.op (yq (y_move (ev_t rfl))) rfl rfl rfl ?_
                refine TL.op (yq (y_move (ev_t rfl))) rfl rfl rfl ?_
                refine TL.op (yq (y_move (ev_t rfl))) rfl rfl rfl ?_
                refine TL.op (yq (y_move (ev_t rfl))) rfl rfl rfl ?_
                refine TL.op (yq (y_move (ev_t rfl))) rfl rfl rfl ?_
                refine TL.op (yq (y_move (ev_t rfl))) rfl rfl rfl ?_
                have hb376 : Hid (k17_3 < m0_3.length) := (ix hll3 hjle)
                refine TL.op (yq (y_idx (k := k17_3) (ev_t rfl) (ev_t rfl) rfl slT_34 (ri_row 1 rfl) hb376)) rfl rfl rfl ?_
                refine TL.storeI 1 (ev_t rfl) (ev_t rfl) one_3 rfl hb376 ?_
                have hb377 : Hid (k17_3 < m1_3.length) := (ix hlw3 hjle)
                refine TL.op (yq (y_idx (k := k17_3) (ev_t rfl) (ev_t rfl) rfl slT_34 (ri_row 2 rfl) hb377)) rfl rfl rfl ?_
                refine TL.storeI 2 (ev_t rfl) (ev_t rfl) one_3 rfl hb377 ?_
                refine TL.nil ?_
                refine TN.seq ?_
                refine TC.seq ?_
                refine TC.region ?_
                refine TL.op (yq (y_move (ev_t rfl))) rfl rfl rfl ?_
                refine TL.op (yq (y_move (ev_t rfl))) rfl rfl rfl ?_
                have hb378 : Hid (k17_3 < (m0_3.set k17_3 ((((costs.getD ((((m0_1.set 0 (k9_1 : Int)).getD k10_2 0) - 1).toNat) []).getD (((k17_3 : Int) - 1).toNat) 0) - (m4_2.getD ((((m0_1.set 0 (k9_1 : Int)).getD k10_2 0)).toNat) 0)) - (m3_2.getD k17_3 0))).length) := (by first | exact ix hll3 hjle | exact ixs hll3 hjle)
                refine TL.op (yq (y_idx (k := k17_3) (ev_t rfl) (ev_t rfl) rfl slT_34 (ri_row 1 rfl) hb378)) rfl rfl rfl ?_
                refine TL.op (yq (y_ldi (ev_t rfl) one_3 (ri_row 1 rfl) hb378)) rfl rfl rfl ?_
                refine TL.op (yq (y_move (ev_t rfl))) rfl rfl rfl ?_
                refine TL.op (yq (y_lss (ev_t rfl) (ev_t rfl))) rfl rfl rfl ?_
                refine TL.nil ?_
                refine TN.seq ?_
                refine TC.cond (b := decide (((m0_3.set k17_3 ((((costs.getD ((((m0_1.set 0 (k9_1 : Int)).getD k10_2 0) - 1).toNat) []).getD (((k17_3 : Int) - 1).toNat) 0) - (m4_2.getD ((((m0_1.set 0 (k9_1 : Int)).getD k10_2 0)).toNat) 0)) - (m3_2.getD k17_3 0))).getD k17_3 0) < k15_3)) (ev_t rfl) (fun h379 => ?_) (fun h379 => ?_)
                · rw [bif_pos h379] at hL3
                  have q380 := (of_decide_eq_true h379)
                  first | have hst := sc_tt hi2_0 hi3_0 hjle hnu hq1.out q380 | have hst := sc_ft hi2_0 hi3_0 hjle hnu hq2.out q380
                  replace h379 : Hid _ := h379
                  replace q380 : Hid _ := q380
                  refine TC.region ?_
                  refine TL.op (yq (y_move (ev_t rfl))) rfl rfl rfl ?_
                  refine TL.op (yq (y_move (ev_t rfl))) rfl rfl rfl ?_
                  have hb381 : Hid (k17_3 < (m0_3.set k17_3 ((((costs.getD ((((m0_1.set 0 (k9_1 : Int)).getD k10_2 0) - 1).toNat) []).getD (((k17_3 : Int) - 1).toNat) 0) - (m4_2.getD ((((m0_1.set 0 (k9_1 : Int)).getD k10_2 0)).toNat) 0)) - (m3_2.getD k17_3 0))).length) := (by first | exact ix hll3 hjle | exact ixs hll3 hjle)
                  refine TL.op (yq (y_idx (k := k17_3) (ev_t rfl) (ev_t rfl) rfl slT_34 (ri_row 1 rfl) hb381)) rfl rfl rfl ?_
                  refine TL.op (yq (y_ldi (ev_t rfl) one_3 (ri_row 1 rfl) hb381)) rfl rfl rfl ?_
                  refine TL.op (yq (y_move (ev_t rfl))) rfl rfl rfl ?_
                  refine TL.op (yq (y_assign (ev_t rfl))) rfl rfl rfl ?_
                  refine TL.op (yq (y_assign (ev_t rfl))) rfl rfl rfl ?_
                  refine TL.nil ?_
                  refine TN.blockN ?_
                  refine TN.seq ?_
                  refine TC.region ?_
                  refine TL.op (yq (y_move (ev_t rfl))) rfl rfl rfl ?_
                  refine TL.op (yq (y_add (ev_t rfl) ev_c (in64_s hjle hnm3))) rfl rfl rfl ?_
                  refine TL.op (yq (y_assign (ev_t rfl))) rfl rfl rfl ?_
                  refine TL.nil ?_
                  have hmu3b := Nat.sub_lt_sub_left (Nat.lt_succ_of_le hjle) (Nat.lt_succ_self k17_3)
                  exact TN.hand (mf3, ((m0_3.set k17_3 ((((costs.getD ((((m0_1.set 0 (k9_1 : Int)).getD k10_2 0) - 1).toNat) []).getD (((k17_3 : Int) - 1).toNat) 0) - (m4_2.getD ((((m0_1.set 0 (k9_1 : Int)).getD k10_2 0)).toNat) 0)) - (m3_2.getD k17_3 0))).getD k17_3 0), k17_3, (k17_3 + 1), (m0_3.set k17_3 ((((costs.getD ((((m0_1.set 0 (k9_1 : Int)).getD k10_2 0) - 1).toNat) []).getD (((k17_3 : Int) - 1).toNat) 0) - (m4_2.getD ((((m0_1.set 0 (k9_1 : Int)).getD k10_2 0)).toNat) 0)) - (m3_2.getD k17_3 0))), (m1_3.set k17_3 (k10_2 : Int))) ⟨hst, (Nat.lt_of_lt_of_le hmu3b (Nat.le_of_lt_succ hmu3.out)), hL3⟩ (Nat.lt_succ_self _) ⟨rfl, rfl, rfl, rfl, rfl, rfl, rfl, rfl, rfl, rfl, rfl, rfl, rfl, rfl, rfl, trivial⟩ (fun w hw => hw)
                · rw [bif_neg h379] at hL3
                  have q380 := (of_decide_eq_false h379)
                  first | have hst := sc_tf hi2_0 hi3_0 hjle hnu hq1.out q380 | have hst := sc_ff hi2_0 hi3_0 hjle hnu hq2.out q380
                  replace h379 : Hid _ := h379
                  replace q380 : Hid _ := q380
                  refine TC.skip ?_
                  refine TN.blockN ?_
                  refine TN.seq ?_
                  refine TC.region ?_
                  refine TL.op (yq (y_move (ev_t rfl))) rfl rfl rfl ?_
                  refine TL.op (yq (y_add (ev_t rfl) ev_c (in64_s hjle hnm3))) rfl rfl rfl ?_
                  refine TL.op (yq (y_assign (ev_t rfl))) rfl rfl rfl ?_
                  refine TL.nil ?_
                  have hmu3b := Nat.sub_lt_sub_left (Nat.lt_succ_of_le hjle) (Nat.lt_succ_self k17_3)
                  exact TN.hand (mf3, k15_3, k16_3, (k17_3 + 1), (m0_3.set k17_3 ((((costs.getD ((((m0_1.set 0 (k9_1 : Int)).getD k10_2 0) - 1).toNat) []).getD (((k17_3 : Int) - 1).toNat) 0) - (m4_2.getD ((((m0_1.set 0 (k9_1 : Int)).getD k10_2 0)).toNat) 0)) - (m3_2.getD k17_3 0))), (m1_3.set k17_3 (k10_2 : Int))) ⟨hst, (Nat.lt_of_lt_of_le hmu3b (Nat.le_of_lt_succ hmu3.out)), hL3⟩ (Nat.lt_succ_self _) ⟨rfl, rfl, rfl, rfl, rfl, rfl, rfl, rfl, rfl, rfl, rfl, rfl, rfl, rfl, rfl, trivial⟩ (fun w hw => hw)
              · rw [bif_neg h374] at hL3
                have q375 := (of_decide_eq_false h374)
                have hq2 : Hid _ := q375
                replace h374 : Hid _ := h374
                replace q375 : Hid _ := q375
                refine TC.skip ?_
                refine TN.seq ?_
                refine TC.seq ?_
                refine TC.region ?_
                refine TL.op (yq (y_move (ev_t rfl))) rfl rfl rfl ?_
                refine TL.op (yq (y_move (ev_t rfl))) rfl rfl rfl ?_
                have hb382 : Hid (k17_3 < m0_3.length) := (by first | exact ix hll3 hjle | exact ixs hll3 hjle)
                refine TL.op (yq (y_idx (k := k17_3) (ev_t rfl) (ev_t rfl) rfl slT_34 (ri_row 1 rfl) hb382)) rfl rfl rfl ?_
                refine TL.op (yq (y_ldi (ev_t rfl) one_3 (ri_row 1 rfl) hb382)) rfl rfl rfl ?_
                refine TL.op (yq (y_move (ev_t rfl))) rfl rfl rfl ?_
                refine TL.op (yq (y_lss (ev_t rfl) (ev_t rfl))) rfl rfl rfl ?_
                refine TL.nil ?_
                refine TN.seq ?_
                refine TC.cond (b := decide ((m0_3.getD k17_3 0) < k15_3)) (ev_t rfl) (fun h383 => ?_) (fun h383 => ?_)
                · rw [bif_pos h383] at hL3
                  have q384 := (of_decide_eq_true h383)
                  first | have hst := sc_tt hi2_0 hi3_0 hjle hnu hq1.out q384 | have hst := sc_ft hi2_0 hi3_0 hjle hnu hq2.out q384
                  replace h383 : Hid _ := h383
                  replace q384 : Hid _ := q384
                  refine TC.region ?_
                  refine TL.op (yq (y_move (ev_t rfl))) rfl rfl rfl ?_
                  refine TL.op (yq (y_move (ev_t rfl))) rfl rfl rfl ?_
                  have hb385 : Hid (k17_3 < m0_3.length) := (by first | exact ix hll3 hjle | exact ixs hll3 hjle)
                  refine TL.op (yq (y_idx (k := k17_3) (ev_t rfl) (ev_t rfl) rfl slT_34 (ri_row 1 rfl) hb385)) rfl rfl rfl ?_
                  refine TL.op (yq (y_ldi (ev_t rfl) one_3 (ri_row 1 rfl) hb385)) rfl rfl rfl ?_
                  refine TL.op (yq (y_move (ev_t rfl))) rfl rfl rfl ?_
                  refine TL.op (yq (y_assign (ev_t rfl))) rfl rfl rfl ?_
                  refine TL.op (yq (y_assign (ev_t rfl))) rfl rfl rfl ?_
                  refine TL.nil ?_
                  refine TN.blockN ?_
                  refine TN.seq ?_
                  refine TC.region ?_
                  refine TL.op (yq (y_move (ev_t rfl))) rfl rfl rfl ?_
                  refine TL.op (yq (y_add (ev_t rfl) ev_c (in64_s hjle hnm3))) rfl rfl rfl ?_
                  refine TL.op (yq (y_assign (ev_t rfl))) rfl rfl rfl ?_
                  refine TL.nil ?_
                  have hmu3b := Nat.sub_lt_sub_left (Nat.lt_succ_of_le hjle) (Nat.lt_succ_self k17_3)
                  exact TN.hand (mf3, (m0_3.getD k17_3 0), k17_3, (k17_3 + 1), m0_3, m1_3) ⟨hst, (Nat.lt_of_lt_of_le hmu3b (Nat.le_of_lt_succ hmu3.out)), hL3⟩ (Nat.lt_succ_self _) ⟨rfl, rfl, rfl, rfl, rfl, rfl, rfl, rfl, rfl, rfl, rfl, rfl, rfl, rfl, rfl, trivial⟩ (fun w hw => hw)
                · rw [bif_neg h383] at hL3
                  have q384 := (of_decide_eq_false h383)
                  first | have hst := sc_tf hi2_0 hi3_0 hjle hnu hq1.out q384 | have hst := sc_ff hi2_0 hi3_0 hjle hnu hq2.out q384
                  replace h383 : Hid _ := h383
                  replace q384 : Hid _ := q384
                  refine TC.skip ?_
                  refine TN.blockN ?_
                  refine TN.seq ?_
                  refine TC.region ?_
                  refine TL.op (yq (y_move (ev_t rfl))) rfl rfl rfl ?_
                  refine TL.op (yq (y_add (ev_t rfl) ev_c (in64_s hjle hnm3))) rfl rfl rfl ?_
                  refine TL.op (yq (y_assign (ev_t rfl))) rfl rfl rfl ?_
                  refine TL.nil ?_
                  have hmu3b := Nat.sub_lt_sub_left (Nat.lt_succ_of_le hjle) (Nat.lt_succ_self k17_3)
                  exact TN.hand (mf3, k15_3, k16_3, (k17_3 + 1), m0_3, m1_3) ⟨hst, (Nat.lt_of_lt_of_le hmu3b (Nat.le_of_lt_succ hmu3.out)), hL3⟩ (Nat.lt_succ_self _) ⟨rfl, rfl, rfl, rfl, rfl, rfl, rfl, rfl, rfl, rfl, rfl, rfl, rfl, rfl, rfl, trivial⟩ (fun w hw => hw)
          · rw [bif_neg h363] at hL3
            have q364 := (of_decide_eq_false h363)
            have hjgt : (costs.getD 0 []).length < k17_3 := Int.ofNat_lt.1 (Int.not_le.1 q364)
            refine TC.exit ?_
            refine TN.thenE ?_
            refine TN.thenE ?_
            rw [← hL3, elim_next] at hL2
            try dsimp only at hL2
            have hsa := hi3_0.all hi2_0 hjgt
            have hsa2 := hsa.2.1
            have hsa3 := hsa.2.2.2.2.1
            have hsa4 := hsa.2.2.2.2.2.1
            refine TN.blockH ?_
            refine TN.seq ?_
            refine TC.seq ?_
            refine TC.seq ?_
            refine TC.region ?_
            refine TL.op (yq (y_move (ev_t rfl))) rfl rfl rfl ?_
            refine TL.op (yq (y_len (ev_t rfl) Try.underlying143 (fun w hw => ((rd_row 0 rfl) w hw).ln))) rfl rfl rfl ?_
            refine TL.op (yq (y_move ev_c)) rfl rfl rfl ?_
            refine TL.nil ?_
            refine TN.seq ?_
            refine TC.block ?_
            obtain ⟨c386, hc387⟩ : ∃ c, F_impl_assigned_L4 k9_1 m0_1 k10_2 m0_2 k15_3 ((((m0_2.set k10_2 true).length) - 0) + 1) (0, m3_2, m4_2, m0_3) = c := ⟨_, rfl⟩
            rw [hc387] at hL2
            refine TC.loop (ι := Nat × Nat × List Int × List Int × List Int) (fun (fu4, k121_4, m0_4, m1_4, m2_4) => [(0, vcosts), (4, (.int .i64 (costs.length : Int))), (5, (.int .i64 ((costs.getD 0 []).length : Int))), (6, v4_2), (7, v4_5), (8, v5_2), (9, (.int .i64 (k9_1 : Int))), (11, v11_2), (12, r11_6), (13, v11_9), (15, (.int .i64 k15_3)), (16, (.int .i64 (k16_3 : Int))), (120, (.int .i64 ((m0_2.set k10_2 true).length : Int))), (121, (.int .i64 (k121_4 : Int)))]) (fun (fu4, k121_4, m0_4, m1_4, m2_4) => Hp w [rowB 4 v11_9 (m0_2.set k10_2 true), rowI 3 r11_6 m2_4, rowI 3 v11_2 m1_3, rowI 3 v5_2 (m0_1.set 0 (k9_1 : Int)), rowI 3 v4_5 m0_4, rowI 3 v4_2 m1_4]) (fun (fu4, k121_4, m0_4, m1_4, m2_4) => (k121_4 ≤ ((m0_2.set k10_2 true).length)) ∧ (Th.Up costs.length (costs.getD 0 []).length (m0_1.set 0 (k9_1 : Int)) (m0_2.set k10_2 true) k15_3 m4_2 m3_2 m0_3 k121_4 m1_4 m0_4 m2_4) ∧ Hid (((m0_2.set k10_2 true).length) - k121_4 < fu4) ∧ F_impl_assigned_L4 k9_1 m0_1 k10_2 m0_2 k15_3 fu4 (k121_4, m0_4, m1_4, m2_4) = c386) (fun (fu4, k121_4, m0_4, m1_4, m2_4) => fu4) ((((m0_2.set k10_2 true).length) - 0) + 1, 0, m3_2, m4_2, m0_3) ⟨(Nat.zero_le _), (Th.Up.init hlu2 hlv2 hi3_0.lle), (Nat.lt_succ_self _), hc387⟩ ⟨rfl, rfl, rfl, rfl, rfl, rfl, rfl, rfl, rfl, rfl, rfl, rfl, rfl, rfl, trivial⟩ (fun w hw => hw) ?_
            rintro ⟨fu4, k121_4, m0_4, m1_4, m2_4⟩ hJ4
            obtain ⟨hi4_0, hi4_1, hmu4, hL4⟩ : (k121_4 ≤ ((m0_2.set k10_2 true).length)) ∧ (Th.Up costs.length (costs.getD 0 []).length (m0_1.set 0 (k9_1 : Int)) (m0_2.set k10_2 true) k15_3 m4_2 m3_2 m0_3 k121_4 m1_4 m0_4 m2_4) ∧ Hid (((m0_2.set k10_2 true).length) - k121_4 < fu4) ∧ F_impl_assigned_L4 k9_1 m0_1 k10_2 m0_2 k15_3 fu4 (k121_4, m0_4, m1_4, m2_4) = c386 := hJ4
            change TC _ _ _ _ (Hp w [rowB 4 v11_9 (m0_2.set k10_2 true), rowI 3 r11_6 m2_4, rowI 3 v11_2 m1_3, rowI 3 v5_2 (m0_1.set 0 (k9_1 : Int)), rowI 3 v4_5 m0_4, rowI 3 v4_2 m1_4]) [(0, vcosts), (4, (.int .i64 (costs.length : Int))), (5, (.int .i64 ((costs.getD 0 []).length : Int))), (6, v4_2), (7, v4_5), (8, v5_2), (9, (.int .i64 (k9_1 : Int))), (11, v11_2), (12, r11_6), (13, v11_9), (15, (.int .i64 k15_3)), (16, (.int .i64 (k16_3 : Int))), (120, (.int .i64 ((m0_2.set k10_2 true).length : Int))), (121, (.int .i64 (k121_4 : Int)))]
            obtain ⟨mf4, rfl⟩ := hid_pred hmu4
            rw [F_impl_assigned_L4_s] at hL4
            have hlu4 := hi4_1.lu
            have hlv4 := hi4_1.lv
            have hll4 := hi4_1.ll
            refine TC.seq ?_
            refine TC.region ?_
            refine TL.op (yq (y_lss (ev_t rfl) (ev_t rfl))) rfl rfl rfl ?_
            refine TL.nil ?_
            refine TN.seq ?_
            refine TC.seq ?_
            refine TC.cond (b := decide ((k121_4 : Int) < ((m0_2.set k10_2 true).length : Int))) (ev_t rfl) (fun h388 => ?_) (fun h388 => ?_)
            · rw [bif_pos h388] at hL4
              have q389 := (of_decide_eq_true h388)
              have hj4l : k121_4 < (m0_2.set k10_2 true).length := Int.ofNat_lt.1 q389
              have hj4 : k121_4 ≤ (costs.getD 0 []).length := Nat.le_of_lt_succ (by rw [List.length_set, hlus] at hj4l; exact hj4l)
              refine TC.skip ?_
              refine TN.seq ?_
              refine TC.seq ?_
              refine TC.block ?_
              refine TC.seq ?_
              refine TC.region ?_
              refine TL.op (yq (y_move (ev_t rfl))) rfl rfl rfl ?_
              refine TL.op (yq (y_assign (ev_t rfl))) rfl rfl rfl ?_
              refine TL.nil ?_
              refine TN.seq ?_
              refine TC.seq ?_
              refine TC.region ?_
              refine TL.op (yq (y_move (ev_t rfl))) rfl rfl rfl ?_
              refine TL.op (yq (y_move (ev_t rfl))) rfl rfl rfl ?_
              have hb390 : Hid (k121_4 < (m0_2.set k10_2 true).length) := (ixs hlus hj4)
              refine TL.op (yq (y_idx (k := k121_4) (ev_t rfl) (ev_t rfl) rfl slT_143 (rd_row 0 rfl) hb390)) rfl rfl rfl ?_
              refine TL.op (yq (y_ldbo (ev_t rfl) one_4 (rd_row 0 rfl) hb390)) rfl rfl rfl ?_
              refine TL.nil ?_
              refine TN.seq ?_
              refine TC.cond (b := ((m0_2.set k10_2 true).getD k121_4 false)) (ev_t rfl) (fun h391 => ?_) (fun h391 => ?_)
              · rw [bif_pos h391] at hL4
                have q392 := h391
                have hup := up_yes hi2_0 hi4_1 hj4 q392
                have hyb := up_bd hi2_0 hi4_1 hsa3 hsa4 hj4 q392
                obtain ⟨hyb1, hyb2, hyb3⟩ := hyb
                refine TC.seq ?_
                refine TC.region ?_
                refine TL.op (yq (y_move (ev_t rfl))) rfl rfl rfl ?_
                refine TL.op (yq (y_move (ev_t rfl))) rfl rfl rfl ?_
                refine TL.op (yq (y_move (ev_t rfl))) rfl rfl rfl ?_
                have hb393 : Hid (k121_4 < (m0_1.set 0 (k9_1 : Int)).length) := (ix hlr2 hj4)
                refine TL.op (yq (y_idx (k := k121_4) (ev_t rfl) (ev_t rfl) rfl slT_34 (ri_row 3 rfl) hb393)) rfl rfl rfl ?_
                refine TL.op (yq (y_ldi (ev_t rfl) one_3 (ri_row 3 rfl) hb393)) rfl rfl rfl ?_
                have hb394 : Hid ((((m0_1.set 0 (k9_1 : Int)).getD k121_4 0)).toNat < m1_4.length) := (ix_u hyb1 hlu4)
                refine TL.op (yq (y_idx (k := (((m0_1.set 0 (k9_1 : Int)).getD k121_4 0)).toNat) (ev_t rfl) (ev_t rfl) (eq_u hyb1) slT_34 (ri_row 5 rfl) hb394)) rfl rfl rfl ?_
                refine TL.op (yq (y_ldi (ev_t rfl) one_3 (ri_row 5 rfl) hb394)) rfl rfl rfl ?_
                refine TL.op (yq (y_move (ev_t rfl))) rfl rfl rfl ?_
                refine TL.op (yq (y_add (ev_t rfl) (ev_t rfl) (in64_ad hyb2 hsa3 hsa4 (by decide)))) rfl rfl rfl ?_
                have hb395 : Hid ((((m0_1.set 0 (k9_1 : Int)).getD k121_4 0)).toNat < m1_4.length) := (ix_u hyb1 hlu4)
                refine TL.op (yq (y_idx (k := (((m0_1.set 0 (k9_1 : Int)).getD k121_4 0)).toNat) (ev_t rfl) (ev_t rfl) (eq_u hyb1) slT_34 (ri_row 5 rfl) hb395)) rfl rfl rfl ?_
                refine TL.storeI 5 (ev_t rfl) (ev_t rfl) one_3 rfl hb395 ?_
                refine TL.nil ?_
                refine TN.seq ?_
                refine TC.region ?_
                refine TL.op (yq (y_move (ev_t rfl))) rfl rfl rfl ?_
                refine TL.op (yq (y_move (ev_t rfl))) rfl rfl rfl ?_
                have hb396 : Hid (k121_4 < m0_4.length) := (ix hlv4 hj4)
                refine TL.op (yq (y_idx (k := k121_4) (ev_t rfl) (ev_t rfl) rfl slT_34 (ri_row 4 rfl) hb396)) rfl rfl rfl ?_
                refine TL.op (yq (y_ldi (ev_t rfl) one_3 (ri_row 4 rfl) hb396)) rfl rfl rfl ?_
                refine TL.op (yq (y_move (ev_t rfl))) rfl rfl rfl ?_
                refine TL.op (yq (y_sub (ev_t rfl) (ev_t rfl) (in64_sb hyb3 hsa3 hsa4 (by decide)))) rfl rfl rfl ?_
                have hb397 : Hid (k121_4 < m0_4.length) := (ix hlv4 hj4)
                refine TL.op (yq (y_idx (k := k121_4) (ev_t rfl) (ev_t rfl) rfl slT_34 (ri_row 4 rfl) hb397)) rfl rfl rfl ?_
                refine TL.storeI 4 (ev_t rfl) (ev_t rfl) one_3 rfl hb397 ?_
                refine TL.nil ?_
                refine TN.blockN ?_
                refine TN.seq ?_
                refine TC.region ?_
                refine TL.op (yq (y_add (ev_t rfl) ev_c (in64_s hj4 hnm3))) rfl rfl rfl ?_
                refine TL.op (yq (y_move (ev_t rfl))) rfl rfl rfl ?_
                refine TL.nil ?_
                have hmu4b := Nat.sub_lt_sub_left hj4l (Nat.lt_succ_self k121_4)
                exact TN.hand (mf4, (k121_4 + 1), (m0_4.set k121_4 ((m0_4.getD k121_4 0) - k15_3)), (m1_4.set ((((m0_1.set 0 (k9_1 : Int)).getD k121_4 0)).toNat) ((m1_4.getD ((((m0_1.set 0 (k9_1 : Int)).getD k121_4 0)).toNat) 0) + k15_3)), m2_4) ⟨hj4l, hup, (Nat.lt_of_lt_of_le hmu4b (Nat.le_of_lt_succ hmu4.out)), hL4⟩ (Nat.lt_succ_self _) ⟨rfl, rfl, rfl, rfl, rfl, rfl, rfl, rfl, rfl, rfl, rfl, rfl, rfl, rfl, trivial⟩ (fun w hw => hw)
              · rw [bif_neg h391] at hL4
                have q392 := h391
                have hup := hi4_1.no hj4 q392
                have hyb4 := up_bd2 hi2_0 hi4_1 hsa3 hsa4 hsa.2.2.2.2.2.2.1 hj4 q392
                refine TC.region ?_
                refine TL.op (yq (y_move (ev_t rfl))) rfl rfl rfl ?_
                refine TL.op (yq (y_move (ev_t rfl))) rfl rfl rfl ?_
                have hb398 : Hid (k121_4 < m2_4.length) := (ix hll4 hj4)
                refine TL.op (yq (y_idx (k := k121_4) (ev_t rfl) (ev_t rfl) rfl slT_34 (ri_row 1 rfl) hb398)) rfl rfl rfl ?_
                refine TL.op (yq (y_ldi (ev_t rfl) one_3 (ri_row 1 rfl) hb398)) rfl rfl rfl ?_
                refine TL.op (yq (y_move (ev_t rfl))) rfl rfl rfl ?_
                refine TL.op (yq (y_sub (ev_t rfl) (ev_t rfl) (in64_sb hyb4 hsa3 hsa4 (by decide)))) rfl rfl rfl ?_
                have hb399 : Hid (k121_4 < m2_4.length) := (ix hll4 hj4)
                refine TL.op (yq (y_idx (k := k121_4) (ev_t rfl) (ev_t rfl) rfl slT_34 (ri_row 1 rfl) hb399)) rfl rfl rfl ?_
                refine TL.storeI 1 (ev_t rfl) (ev_t rfl) one_3 rfl hb399 ?_
                refine TL.nil ?_
                refine TN.blockN ?_
                refine TN.seq ?_
                refine TC.region ?_
                refine TL.op (yq (y_add (ev_t rfl) ev_c (in64_s hj4 hnm3))) rfl rfl rfl ?_
                refine TL.op (yq (y_move (ev_t rfl))) rfl rfl rfl ?_
                refine TL.nil ?_
                have hmu4b := Nat.sub_lt_sub_left hj4l (Nat.lt_succ_self k121_4)
                exact TN.hand (mf4, (k121_4 + 1), m0_4, m1_4, (m2_4.set k121_4 ((m2_4.getD k121_4 0) - k15_3))) ⟨hj4l, hup, (Nat.lt_of_lt_of_le hmu4b (Nat.le_of_lt_succ hmu4.out)), hL4⟩ (Nat.lt_succ_self _) ⟨rfl, rfl, rfl, rfl, rfl, rfl, rfl, rfl, rfl, rfl, rfl, rfl, rfl, rfl, trivial⟩ (fun w hw => hw)
            · rw [bif_neg h388] at hL4
              have q389 := (of_decide_eq_false h388)
              have hj4g : (costs.getD 0 []).length < k121_4 := by have hx := Int.not_lt.1 q389; rw [List.length_set, hlus] at hx; exact Int.ofNat_le.1 hx
              refine TC.exit ?_
              refine TN.thenE ?_
              refine TN.thenE ?_
              rw [← hL4, elim_next] at hL2
              try dsimp only at hL2
              have hri := Th.Up.risen hi2_0 hi3_0 hjgt hi4_1 hj4g
              refine TN.blockH ?_
              refine TN.seq ?_
              refine TC.seq ?_
              refine TC.region ?_
              refine TL.op (yq (y_move (ev_t rfl))) rfl rfl rfl ?_
              refine TL.op (yq (y_assign (ev_t rfl))) rfl rfl rfl ?_
              refine TL.nil ?_
              refine TN.seq ?_
              refine TC.seq ?_
              refine TC.region ?_
              refine TL.op (yq (y_move (ev_t rfl))) rfl rfl rfl ?_
              refine TL.op (yq (y_move (ev_t rfl))) rfl rfl rfl ?_
              have hb400 : Hid (k16_3 < (m0_1.set 0 (k9_1 : Int)).length) := (ix hlr2 hsa2)
              refine TL.op (yq (y_idx (k := k16_3) (ev_t rfl) (ev_t rfl) rfl slT_34 (ri_row 3 rfl) hb400)) rfl rfl rfl ?_
              refine TL.op (yq (y_ldi (ev_t rfl) one_3 (ri_row 3 rfl) hb400)) rfl rfl rfl ?_
              refine TL.op (yq (y_eql (ev_t rfl) ev_c)) rfl rfl rfl ?_
              refine TL.nil ?_
              refine TN.seq ?_
              refine TC.cond (b := decide (((m0_1.set 0 (k9_1 : Int)).getD k16_3 0) = 0)) (ev_t rfl) (fun h401 => ?_) (fun h401 => ?_)
              · rw [bif_pos h401] at hL2
                have q402 := (of_decide_eq_true h401)
                have hax := sr_ax hi2_0 hi3_0 hri q402
                replace h401 : Hid _ := h401
                replace q402 : Hid _ := q402
                refine TC.exit ?_
                refine TN.blockM rfl ?_
                refine TN.thenE ?_
                rw [← hL2, elim_next] at hL1
                try dsimp only at hL1
                refine TN.blockH ?_
                refine TN.seq ?_
                refine TC.block ?_
                obtain ⟨c403, hc404⟩ : ∃ c, F_impl_assigned_L5 m1_3 ((Th.dep 0 m1_3 ((costs.getD 0 []).length + 1) (k16_3 : Int).toNat) + 1) ((k16_3 : Int), (m0_1.set 0 (k9_1 : Int))) = c := ⟨_, rfl⟩
                rw [hc404] at hL1
                refine TC.loop (ι := Nat × Int × List Int) (fun (fu5, k10_5, m0_5) => [(0, vcosts), (4, (.int .i64 (costs.length : Int))), (5, (.int .i64 ((costs.getD 0 []).length : Int))), (6, v4_2), (7, v4_5), (8, v5_2), (9, (.int .i64 (k9_1 : Int))), (10, (.int .i64 k10_5)), (11, v11_2)]) (fun (fu5, k10_5, m0_5) => Hp w [rowI 3 v11_2 m1_3, rowI 3 v5_2 m0_5, rowI 3 v4_5 m0_4, rowI 3 v4_2 m1_4]) (fun (fu5, k10_5, m0_5) => (0 ≤ k10_5) ∧ (Th.Ax costs.length (costs.getD 0 []).length (hC costs) k9_1 m1_4 m0_4 m1_3 m0_5 k10_5.toNat) ∧ Hid (Th.dep 0 m1_3 ((costs.getD 0 []).length + 1) k10_5.toNat < fu5) ∧ F_impl_assigned_L5 m1_3 fu5 (k10_5, m0_5) = c403) (fun (fu5, k10_5, m0_5) => fu5) ((Th.dep 0 m1_3 ((costs.getD 0 []).length + 1) (k16_3 : Int).toNat) + 1, (k16_3 : Int), (m0_1.set 0 (k9_1 : Int))) ⟨(Int.natCast_nonneg _), hax, (Nat.lt_succ_self _), hc404⟩ ⟨rfl, rfl, rfl, rfl, rfl, rfl, rfl, rfl, rfl, trivial⟩ (fun w hw => Hp.sublist hw (.cons _ (.cons _ (.cons_cons _ (.cons_cons _ (.cons_cons _ (.cons_cons _ .slnil))))))) ?_
                rintro ⟨fu5, k10_5, m0_5⟩ hJ5
                obtain ⟨hi5_0, hi5_1, hmu5, hL5⟩ : (0 ≤ k10_5) ∧ (Th.Ax costs.length (costs.getD 0 []).length (hC costs) k9_1 m1_4 m0_4 m1_3 m0_5 k10_5.toNat) ∧ Hid (Th.dep 0 m1_3 ((costs.getD 0 []).length + 1) k10_5.toNat < fu5) ∧ F_impl_assigned_L5 m1_3 fu5 (k10_5, m0_5) = c403 := hJ5
                change TC _ _ _ _ (Hp w [rowI 3 v11_2 m1_3, rowI 3 v5_2 m0_5, rowI 3 v4_5 m0_4, rowI 3 v4_2 m1_4]) [(0, vcosts), (4, (.int .i64 (costs.length : Int))), (5, (.int .i64 ((costs.getD 0 []).length : Int))), (6, v4_2), (7, v4_5), (8, v5_2), (9, (.int .i64 (k9_1 : Int))), (10, (.int .i64 k10_5)), (11, v11_2)]
                obtain ⟨mf5, rfl⟩ := hid_pred hmu5
                rw [F_impl_assigned_L5_s] at hL5
                have hlr5 := hi5_1.lr
                have hlw5 := hi5_1.lw
                have hat5 := hi5_1.atm
                refine TC.seq ?_
                refine TC.seq ?_
                refine TC.region ?_
                refine TL.op (yq (y_move (ev_t rfl))) rfl rfl rfl ?_
                refine TL.op (yq (y_neq (ev_t rfl) ev_c)) rfl rfl rfl ?_
                refine TL.nil ?_
                refine TN.seq ?_
                refine TC.cond (b := !decide (k10_5 = 0)) (ev_t rfl) (fun h405 => ?_) (fun h405 => ?_)
                · rw [bif_pos h405] at hL5
                  have q406 := (of_decide_eq_false (not_t h405))
                  have hs5 := ax_step hi5_0 hi5_1 q406
                  have hs5b : Hid _ := And.intro hs5.1 hs5.2.2.2
                  refine TC.skip ?_
                  refine TN.seq ?_
                  refine TC.block ?_
                  refine TC.seq ?_
                  refine TC.region ?_
                  refine TL.op (yq (y_move (ev_t rfl))) rfl rfl rfl ?_
                  refine TL.op (yq (y_move (ev_t rfl))) rfl rfl rfl ?_
                  refine TL.op (yq (y_move (ev_t rfl))) rfl rfl rfl ?_
                  refine TL.op (yq (y_move (ev_t rfl))) rfl rfl rfl ?_
                  refine TL.op (yq (y_move (ev_t rfl))) rfl rfl rfl ?_
                  have hb407 : Hid ((k10_5).toNat < m1_3.length) := (ix hlw5 hat5)
                  refine TL.op (yq (y_idx (k := (k10_5).toNat) (ev_t rfl) (ev_t rfl) (tn_eq hi5_0) slT_34 (ri_row 0 rfl) hb407)) rfl rfl rfl ?_
                  refine TL.op (yq (y_ldi (ev_t rfl) one_3 (ri_row 0 rfl) hb407)) rfl rfl rfl ?_
                  have hb408 : Hid (((m1_3.getD ((k10_5).toNat) 0)).toNat < m0_5.length) := (ix_w hs5b hlr5)
                  refine TL.op (yq (y_idx (k := ((m1_3.getD ((k10_5).toNat) 0)).toNat) (ev_t rfl) (ev_t rfl) (eq_w hs5b) slT_34 (ri_row 1 rfl) hb408)) rfl rfl rfl ?_
                  refine TL.op (yq (y_ldi (ev_t rfl) one_3 (ri_row 1 rfl) hb408)) rfl rfl rfl ?_
                  have hb409 : Hid ((k10_5).toNat < m0_5.length) := (ix hlr5 hat5)
                  refine TL.op (yq (y_idx (k := (k10_5).toNat) (ev_t rfl) (ev_t rfl) (tn_eq hi5_0) slT_34 (ri_row 1 rfl) hb409)) rfl rfl rfl ?_
                  refine TL.storeI 1 (ev_t rfl) (ev_t rfl) one_3 rfl hb409 ?_
                  refine TL.nil ?_
                  refine TN.seq ?_
                  refine TC.region ?_
                  refine TL.op (yq (y_move (ev_t rfl))) rfl rfl rfl ?_
                  refine TL.op (yq (y_move (ev_t rfl))) rfl rfl rfl ?_
                  have hb410 : Hid ((k10_5).toNat < m1_3.length) := (ix hlw5 hat5)
                  refine TL.op (yq (y_idx (k := (k10_5).toNat) (ev_t rfl) (ev_t rfl) (tn_eq hi5_0) slT_34 (ri_row 0 rfl) hb410)) rfl rfl rfl ?_
                  refine TL.op (yq (y_ldi (ev_t rfl) one_3 (ri_row 0 rfl) hb410)) rfl rfl rfl ?_
                  refine TL.op (yq (y_assign (ev_t rfl))) rfl rfl rfl ?_
                  refine TL.nil ?_
                  refine TN.blockN ?_
                  have hmu5b := hs5.2.2.1
                  exact TN.hand (mf5, (m1_3.getD ((k10_5).toNat) 0), (m0_5.set ((k10_5).toNat) (m0_5.getD (((m1_3.getD ((k10_5).toNat) 0)).toNat) 0))) ⟨hs5.1, hs5.2.1, (Nat.lt_of_lt_of_le hmu5b (Nat.le_of_lt_succ hmu5.out)), hL5⟩ (Nat.lt_succ_self _) ⟨rfl, rfl, rfl, rfl, rfl, rfl, rfl, rfl, rfl, trivial⟩ (fun w hw => hw)
                · rw [bif_neg h405] at hL5
                  have q406 := (of_decide_eq_true (not_f h405))
                  refine TC.exit ?_
                  refine TN.thenE ?_
                  refine TN.thenE ?_
                  rw [← hL5, elim_next] at hL1
                  try dsimp only at hL1
                  refine TN.blockH ?_
                  refine TN.blockN ?_
                  refine TN.seq ?_
                  refine TC.region ?_
                  refine TL.op (yq (y_move (ev_t rfl))) rfl rfl rfl ?_
                  refine TL.op (yq (y_add (ev_t rfl) ev_c (by unfold In64; constructor <;> omega))) rfl rfl rfl ?_
                  refine TL.op (yq (y_assign (ev_t rfl))) rfl rfl rfl ?_
                  refine TL.nil ?_
                  have hmu1b := Nat.sub_lt_sub_left (show k9_1 < costs.length + 1 by omega) (Nat.lt_succ_self k9_1)
                  exact TN.hand (mf1, (k9_1 + 1), m0_5, m0_4, m1_4) ⟨(by first | omega | (simp [-List.getD_eq_getElem?_getD] <;> omega)), (by first | omega | (simp [-List.getD_eq_getElem?_getD] <;> omega)), (hu_next hi5_1 (by omega)), (Nat.lt_of_lt_of_le hmu1b (Nat.le_of_lt_succ hmu1.out)), hL1⟩ (Nat.lt_succ_self _) ⟨rfl, rfl, rfl, rfl, rfl, rfl, rfl, trivial⟩ (fun w hw => Hp.sublist hw (.cons _ (.cons_cons _ (.cons_cons _ (.cons_cons _ .slnil)))))
              · rw [bif_neg h401] at hL2
                have q402 := (of_decide_eq_false h401)
                have hne := q402
                replace hne : Hid _ := hne
                replace h401 : Hid _ := h401
                replace q402 : Hid _ := q402
                refine TC.skip ?_
                refine TN.blockN ?_
                have hmu2b := sr_mu hi2_0
                exact TN.hand (mf2, k16_3, (m0_2.set k10_2 true), m2_4, m1_3, m0_4, m1_4) ⟨(sr_next hi2_0 hi3_0 hri hne), (Nat.lt_of_lt_of_le hmu2b (Nat.le_of_lt_succ hmu2.out)), hL2⟩ (Nat.lt_succ_self _) ⟨rfl, rfl, rfl, rfl, rfl, rfl, rfl, rfl, rfl, rfl, rfl, trivial⟩ (fun w hw => hw)
      · rw [bif_neg h354] at hL1
        have q355 := (of_decide_eq_false h354)
        refine TC.exit ?_
        refine TN.thenE ?_
        refine TN.thenE ?_
        rw [← hL1, elim_next] at hF
        try dsimp only at hF
        have hHu := hu_end hi1_2 (by omega)
        refine TN.blockH ?_
        refine TN.seq ?_
        refine TC.seq ?_
        refine TC.region ?_
        refine TL.op (yq (y_move (ev_t rfl))) rfl rfl rfl ?_
        refine TL.makeSlice (n := costs.length) (ev_t rfl) (ev_t rfl) (by omega) slT_34 rfl (by omega) (by unfold maxLen; omega) rfl (fun v36_1 => ?_)
        refine TL.cls (fun w hw => hw.zeros) ?_
        refine TL.op (yq (y_assign (ev_t rfl))) rfl rfl rfl ?_
        refine TL.op (yq (y_assign ev_c)) rfl rfl rfl ?_
        refine TL.nil ?_
        refine TN.seq ?_
        refine TC.seq ?_
        refine TC.seq ?_
        refine TC.region ?_
        refine TL.op (yq (y_assign ev_c)) rfl rfl rfl ?_
        refine TL.nil ?_
        refine TN.seq ?_
        refine TC.block ?_
        obtain ⟨c411, hc412⟩ : ∃ c, F_impl_assigned_L6 costs m0_1 (((costs.getD 0 []).length + 1 - 1) + 1) (0, 1, (List.replicate costs.length (0 : Int))) = c := ⟨_, rfl⟩
        rw [hc412] at hF
        refine TC.loop (ι := Nat × Int × Nat × List Int) (fun (fu6, k21_6, k22_6, m0_6) => [(0, vcosts), (5, (.int .i64 ((costs.getD 0 []).length : Int))), (8, v5_2), (20, v36_1), (21, (.int .i64 k21_6)), (22, (.int .i64 (k22_6 : Int)))]) (fun (fu6, k21_6, k22_6, m0_6) => Hp w [rowI 3 v36_1 m0_6, rowI 3 v5_2 m0_1]) (fun (fu6, k21_6, k22_6, m0_6) => (1 ≤ k22_6) ∧ (k22_6 ≤ (costs.getD 0 []).length + 1) ∧ (0 ≤ k21_6) ∧ (k21_6 ≤ 1073741824 * ((k22_6 : Int) - 1)) ∧ (m0_6.length = costs.length) ∧ Hid ((costs.getD 0 []).length + 1 - k22_6 < fu6) ∧ F_impl_assigned_L6 costs m0_1 fu6 (k21_6, k22_6, m0_6) = c411) (fun (fu6, k21_6, k22_6, m0_6) => fu6) (((costs.getD 0 []).length + 1 - 1) + 1, 0, 1, (List.replicate costs.length (0 : Int))) ⟨(by first | omega | (simp [-List.getD_eq_getElem?_getD] <;> omega)), (by first | omega | (simp [-List.getD_eq_getElem?_getD] <;> omega)), (by first | omega | (simp [-List.getD_eq_getElem?_getD] <;> omega)), (by first | omega | (simp [-List.getD_eq_getElem?_getD] <;> omega)), (by first | omega | (simp [-List.getD_eq_getElem?_getD] <;> omega)), (Nat.lt_succ_self _), hc412⟩ ⟨rfl, rfl, rfl, rfl, rfl, rfl, trivial⟩ (fun w hw => Hp.sublist hw (.cons_cons _ (.cons_cons _ (.cons _ (.cons _ .slnil))))) ?_
        rintro ⟨fu6, k21_6, k22_6, m0_6⟩ hJ6
        obtain ⟨hi6_0, hi6_1, hi6_2, hi6_3, hi6_4, hmu6, hL6⟩ : (1 ≤ k22_6) ∧ (k22_6 ≤ (costs.getD 0 []).length + 1) ∧ (0 ≤ k21_6) ∧ (k21_6 ≤ 1073741824 * ((k22_6 : Int) - 1)) ∧ (m0_6.length = costs.length) ∧ Hid ((costs.getD 0 []).length + 1 - k22_6 < fu6) ∧ F_impl_assigned_L6 costs m0_1 fu6 (k21_6, k22_6, m0_6) = c411 := hJ6
        change TC _ _ _ _ (Hp w [rowI 3 v36_1 m0_6, rowI 3 v5_2 m0_1]) [(0, vcosts), (5, (.int .i64 ((costs.getD 0 []).length : Int))), (8, v5_2), (20, v36_1), (21, (.int .i64 k21_6)), (22, (.int .i64 (k22_6 : Int)))]
        obtain ⟨mf6, rfl⟩ := hid_pred hmu6
        rw [F_impl_assigned_L6_s] at hL6
        have hlr6 := hHu.lr
        refine TC.seq ?_
        refine TC.seq ?_
        refine TC.region ?_
        refine TL.op (yq (y_move (ev_t rfl))) rfl rfl rfl ?_
        refine TL.op (yq (y_move (ev_t rfl))) rfl rfl rfl ?_
        refine TL.op (yq (y_leq (ev_t rfl) (ev_t rfl))) rfl rfl rfl ?_
        refine TL.nil ?_
        refine TN.seq ?_
        refine TC.cond (b := decide ((k22_6 : Int) ≤ ((costs.getD 0 []).length : Int))) (ev_t rfl) (fun h413 => ?_) (fun h413 => ?_)
        · rw [bif_pos h413] at hL6
          have q414 := (of_decide_eq_true h413)
          have hrj := hHu.rr k22_6 (by omega) (by omega)
          have hce6 := hp0.el (m0_1.getD k22_6 0 - 1).toNat ((k22_6 : Int) - 1).toNat
          have hrw6 := fun h => hp0.rows (m0_1.getD k22_6 0 - 1).toNat h
          refine TC.skip ?_
          refine TN.seq ?_
          refine TC.seq ?_
          refine TC.block ?_
          refine TC.seq ?_
          refine TC.region ?_
          refine TL.op (yq (y_move (ev_t rfl))) rfl rfl rfl ?_
          refine TL.op (yq (y_move (ev_t rfl))) rfl rfl rfl ?_
          have hb415 : Hid (k22_6 < m0_1.length) := (show k22_6 < m0_1.length by omega)
          refine TL.op (yq (y_idx (k := k22_6) (ev_t rfl) (ev_t rfl) (by rfl) slT_34 (ri_row 1 rfl) hb415)) rfl rfl rfl ?_
          refine TL.op (yq (y_ldi (ev_t rfl) one_3 (ri_row 1 rfl) hb415)) rfl rfl rfl ?_
          refine TL.op (yq (y_gtr (ev_t rfl) ev_c)) rfl rfl rfl ?_
          refine TL.nil ?_
          refine TN.seq ?_
          refine TC.cond (b := decide (0 < (m0_1.getD k22_6 0))) (ev_t rfl) (fun h416 => ?_) (fun h416 => ?_)
          · rw [bif_pos h416] at hL6
            have q417 := (of_decide_eq_true h416)
            have hrw7 := hrw6 (by omega)
            refine TC.seq ?_
            refine TC.region ?_
            refine TL.op (yq (y_move (ev_t rfl))) rfl rfl rfl ?_
            refine TL.op (yq (y_move (ev_t rfl))) rfl rfl rfl ?_
            refine TL.op (yq (y_move (ev_t rfl))) rfl rfl rfl ?_
            have hb418 : Hid (k22_6 < m0_1.length) := (show k22_6 < m0_1.length by omega)
            refine TL.op (yq (y_idx (k := k22_6) (ev_t rfl) (ev_t rfl) (by rfl) slT_34 (ri_row 1 rfl) hb418)) rfl rfl rfl ?_
            refine TL.op (yq (y_ldi (ev_t rfl) one_3 (ri_row 1 rfl) hb418)) rfl rfl rfl ?_
            refine TL.op (yq (y_sub (ev_t rfl) ev_c (by unfold In64; constructor <;> omega))) rfl rfl rfl ?_
            refine TL.op (yq (y_move (ev_t rfl))) rfl rfl rfl ?_
            refine TL.op (yq (y_sub (ev_t rfl) ev_c (by unfold In64; constructor <;> omega))) rfl rfl rfl ?_
            have hb419 : Hid (((m0_1.getD k22_6 0) - 1).toNat < m0_6.length) := (show ((m0_1.getD k22_6 0) - 1).toNat < m0_6.length from tn_lt (by omega) (by omega))
            refine TL.op (yq (y_idx (k := ((m0_1.getD k22_6 0) - 1).toNat) (ev_t rfl) (ev_t rfl) (tn_eq (by omega)) slT_34 (ri_row 0 rfl) hb419)) rfl rfl rfl ?_
            refine TL.storeI 0 (ev_t rfl) (ev_t rfl) one_3 rfl hb419 ?_
            refine TL.nil ?_
            refine TN.seq ?_
            refine TC.region ?_
            refine TL.op (yq (y_move (ev_t rfl))) rfl rfl rfl ?_
            refine TL.op (yq (y_move (ev_t rfl))) rfl rfl rfl ?_
            refine TL.op (yq (y_move (ev_t rfl))) rfl rfl rfl ?_
            refine TL.op (yq (y_move (ev_t rfl))) rfl rfl rfl ?_
            have hb420 : Hid (k22_6 < m0_1.length) := (show k22_6 < m0_1.length by omega)
            refine TL.op (yq (y_idx (k := k22_6) (ev_t rfl) (ev_t rfl) (by rfl) slT_34 (ri_row 1 rfl) hb420)) rfl rfl rfl ?_
            refine TL.op (yq (y_ldi (ev_t rfl) one_3 (ri_row 1 rfl) hb420)) rfl rfl rfl ?_
            refine TL.op (yq (y_sub (ev_t rfl) ev_c (by unfold In64; constructor <;> omega))) rfl rfl rfl ?_
            have hb421 : Hid (((m0_1.getD k22_6 0) - 1).toNat < costs.length) := (show ((m0_1.getD k22_6 0) - 1).toNat < costs.length from tn_lt (by omega) (by omega))
            refine TL.op (yq (y_idx (k := ((m0_1.getD k22_6 0) - 1).toNat) (ev_t rfl) (ev_t rfl) (tn_eq (by omega)) slT_49 (fun w hw => ((rii_arg hcosts) w hw).1) hb421)) rfl rfl rfl ?_
            have ha422 := hcosts.row (i := ((m0_1.getD k22_6 0) - 1).toNat) hb421
            refine TL.op (yq (y_ldA (ev_t rfl) one_34 (rii_arg hcosts) hb421)) rfl rfl rfl ?_
            refine TL.op (yq (y_move (ev_t rfl))) rfl rfl rfl ?_
            refine TL.op (yq (y_sub (ev_t rfl) ev_c (by unfold In64; constructor <;> omega))) rfl rfl rfl ?_
            have hb423 : Hid (((k22_6 : Int) - 1).toNat < (costs.getD (((m0_1.getD k22_6 0) - 1).toNat) []).length) := (show ((k22_6 : Int) - 1).toNat < (costs.getD (((m0_1.getD k22_6 0) - 1).toNat) []).length from tn_lt (by omega) (by omega))
            refine TL.op (yq (y_idx (k := ((k22_6 : Int) - 1).toNat) (ev_t rfl) (ev_t rfl) (tn_eq (by omega)) slT_34 (ri_arg ha422) hb423)) rfl rfl rfl ?_
            refine TL.op (yq (y_ldi (ev_t rfl) one_3 (ri_arg ha422) hb423)) rfl rfl rfl ?_
            refine TL.op (yq (y_add (ev_t rfl) (ev_t rfl) (by unfold In64; constructor <;> omega))) rfl rfl rfl ?_
            refine TL.op (yq (y_assign (ev_t rfl))) rfl rfl rfl ?_
            refine TL.nil ?_
            refine TN.blockN ?_
            refine TN.seq ?_
            refine TC.region ?_
            refine TL.op (yq (y_move (ev_t rfl))) rfl rfl rfl ?_
            refine TL.op (yq (y_add (ev_t rfl) ev_c (by unfold In64; constructor <;> omega))) rfl rfl rfl ?_
            refine TL.op (yq (y_assign (ev_t rfl))) rfl rfl rfl ?_
            refine TL.nil ?_
            have hmu6b := Nat.sub_lt_sub_left (show k22_6 < (costs.getD 0 []).length + 1 by omega) (Nat.lt_succ_self k22_6)
            exact TN.hand (mf6, k21_6 + ((costs.getD (((m0_1.getD k22_6 0) - 1).toNat) []).getD (((k22_6 : Int) - 1).toNat) 0), (k22_6 + 1), (m0_6.set (((m0_1.getD k22_6 0) - 1).toNat) ((k22_6 : Int) - 1))) ⟨(by first | omega | (simp [-List.getD_eq_getElem?_getD] <;> omega)), (by first | omega | (simp [-List.getD_eq_getElem?_getD] <;> omega)), (by first | omega | (simp [-List.getD_eq_getElem?_getD] <;> omega)), (by first | omega | (simp [-List.getD_eq_getElem?_getD] <;> omega)), (by first | omega | (simp [-List.getD_eq_getElem?_getD] <;> omega)), (Nat.lt_of_lt_of_le hmu6b (Nat.le_of_lt_succ hmu6.out)), hL6⟩ (Nat.lt_succ_self _) ⟨rfl, rfl, rfl, rfl, rfl, rfl, trivial⟩ (fun w hw => hw)
          · rw [bif_neg h416] at hL6
            have q417 := (of_decide_eq_false h416)
            refine TC.skip ?_
            refine TN.blockN ?_
            refine TN.seq ?_
            refine TC.region ?_
            refine TL.op (yq (y_move (ev_t rfl))) rfl rfl rfl ?_
            refine TL.op (yq (y_add (ev_t rfl) ev_c (by unfold In64; constructor <;> omega))) rfl rfl rfl ?_
            refine TL.op (yq (y_assign (ev_t rfl))) rfl rfl rfl ?_
            refine TL.nil ?_
            have hmu6b := Nat.sub_lt_sub_left (show k22_6 < (costs.getD 0 []).length + 1 by omega) (Nat.lt_succ_self k22_6)
            exact TN.hand (mf6, k21_6, (k22_6 + 1), m0_6) ⟨(by first | omega | (simp [-List.getD_eq_getElem?_getD] <;> omega)), (by first | omega | (simp [-List.getD_eq_getElem?_getD] <;> omega)), (by first | omega | (simp [-List.getD_eq_getElem?_getD] <;> omega)), (by first | omega | (simp [-List.getD_eq_getElem?_getD] <;> omega)), (by first | omega | (simp [-List.getD_eq_getElem?_getD] <;> omega)), (Nat.lt_of_lt_of_le hmu6b (Nat.le_of_lt_succ hmu6.out)), hL6⟩ (Nat.lt_succ_self _) ⟨rfl, rfl, rfl, rfl, rfl, rfl, trivial⟩ (fun w hw => hw)
        · rw [bif_neg h413] at hL6
          have q414 := (of_decide_eq_false h413)
          refine TC.exit ?_
          refine TN.thenE ?_
          refine TN.thenE ?_
          rw [← hL6, elim_next] at hF
          try dsimp only at hF
          refine TN.blockH ?_
          refine TN.seq ?_
          refine TC.seq ?_
          refine TC.region ?_
          refine TL.op (yq (y_move (ev_t rfl))) rfl rfl rfl ?_
          refine TL.op (yq (y_move (ev_t rfl))) rfl rfl rfl ?_
          refine TL.op (yq (y_assign (ev_t rfl))) rfl rfl rfl ?_
          refine TL.op (yq (y_assign (ev_t rfl))) rfl rfl rfl ?_
          refine TL.nil ?_
          refine TN.seq ?_
          refine TC.ret ?_
          subst hF
          exact TN.ret2 rfl (ev_t rfl) (ev_t rfl) (fun w' hw => ⟨v36_1, rfl, Hp.sublist hw (.cons_cons _ (.cons _ .slnil))⟩)

end Go.Proofs.Ytcmhgkcifejgcaa
namespace Go.Proofs.Ytcmhgkcifejgcaa
open Go Go.RowKit
set_option linter.unusedVariables false

set_option maxRecDepth 4000 in
set_option maxHeartbeats 1000000 in
theorem impl_FlowCost_ok (w : World) (vm : Value) (um : List Value) (m : List (List Int)) (hm : RII w vm um m) (va : Value) (a : List Int) (ha : RI w va a) (vreqs : Value) (reqs : List Int) (hreqs : RI w vreqs reqs)  :
    Calls Try.prog 52 ([(.agg #[vm]), va, vreqs] : List Value).toArray w (Ret (.tuple #[(.int .i64 ((F_impl_FlowCost m a reqs).1)), (.bool ((F_impl_FlowCost m a reqs).2))]) (Hp w [])) := by
  obtain ⟨rz, hF⟩ : ∃ rz, (F_impl_FlowCost m a reqs) = rz := ⟨_, rfl⟩
  rw [hF]
  unfold F_impl_FlowCost at hF
  have hlen_m := argT_len hm
  have hlen_a := arg_len ha
  have hlen_reqs := arg_len hreqs
  refine calls_tc Try.func52 rfl rfl rfl ?_
  change TC _ _ _ _ (Hp w []) [(0, (.agg #[vm])), (1, va), (2, vreqs)]
  refine TC.seq ?_
  refine TC.region ?_
  refine TL.box (ev_t rfl) rfl (fun g0_0 => ?_)
  refine TL.op (yq (y_assign ev_c)) rfl rfl rfl ?_
  refine TL.op (yq (y_assign ev_c)) rfl rfl rfl ?_
  refine TL.nil ?_
  refine TN.seq ?_
  refine TC.seq ?_
  refine TC.seq ?_
  refine TC.region ?_
  refine TL.op (yq (y_ldagg (cs := [vm]) 0 (ev_t rfl) agg_55 rfl)) rfl rfl rfl ?_
  refine TL.op (yq (y_move (ev_t rfl))) rfl rfl rfl ?_
  refine TL.op (yq (y_move (ev_t rfl))) rfl rfl rfl ?_
  refine TL.op (y_call (vs := [(.agg #[vm]), va, vreqs]) (v := (.bool (F_impl_isServed m a reqs))) en_100 ⟨(ev_t rfl), (ev_t rfl), (ev_t rfl), trivial⟩ (fun w hw => impl_isServed_ok w vm um m ((rii_arg hm) w hw) va a ((ri_arg ha) w hw) vreqs reqs ((ri_arg hreqs) w hw))) rfl rfl rfl ?_
  refine TL.op (yq (y_not (ev_t rfl))) rfl rfl rfl ?_
  refine TL.nil ?_
  refine TN.seq ?_
  refine TC.cond (b := !(F_impl_isServed m a reqs)) (ev_t rfl) (fun h3 => ?_) (fun h3 => ?_)
  · rw [bif_pos h3] at hF
    have q4 := (not_t h3)
    refine TC.seq ?_
    refine TC.region ?_
    refine TL.op (yq (y_assign ev_c)) rfl rfl rfl ?_
    refine TL.op (yq (y_assign ev_c)) rfl rfl rfl ?_
    refine TL.nil ?_
    refine TN.seq ?_
    refine TC.ret ?_
    refine TN.thenR ?_
    subst hF
    exact TN.ret2 rfl (ev_t rfl) (ev_t rfl) (fun w' hw => ⟨rfl, Hp.sublist hw (List.nil_sublist _)⟩)
  · rw [bif_neg h3] at hF
    have q4 := (isServed_t (not_f h3))
    have hcs := cs_flow q4
    refine TC.skip ?_
    refine TN.seq ?_
    refine TC.seq ?_
    refine TC.region ?_
    refine TL.op (yq (y_ldagg (cs := [vm]) 0 (ev_t rfl) agg_55 rfl)) rfl rfl rfl ?_
    refine TL.op (yq (y_move (ev_t rfl))) rfl rfl rfl ?_
    refine TL.op (yq (y_move (ev_t rfl))) rfl rfl rfl ?_
    refine TL.callr (ι := Nat × Value × List Value) (vs := [(.agg #[vm]), va, vreqs]) (fun i => (.pointer (some ⟨i.1, 0, none⟩))) (fun i => [.blk i.1 106 [.int .i64 ((F_impl_flowOf m a reqs).1), i.2.1], tabI 34 3 i.2.1 i.2.2 ((F_impl_flowOf m a reqs).2)]) en_102 ⟨(ev_t rfl), (ev_t rfl), (ev_t rfl), trivial⟩ rfl (fun w hw => impl_flowOf_ok w vm um m ((rii_arg hm) w hw) va a ((ri_arg ha) w hw) vreqs reqs ((ri_arg hreqs) w hw) (by first | assumption | omega | grind)) (fun r3_3 => ?_)
    refine TL.op (yq (y_nilp (ev_t rfl))) rfl rfl rfl ?_
    refine TL.op (yq (y_fa (fa_106_1 r3_3.1) (ev_t rfl))) rfl rfl rfl ?_
    refine TL.op (yq (y_ldb 0 (ev_t rfl) one_49 rfl rfl)) rfl rfl rfl ?_
    refine TL.callr (ι := Value) (vs := [r3_3.2.1]) (fun i => (.tuple #[i, (.int .i64 ((F_impl_assigned ((F_impl_flowOf m a reqs).2)).2))])) (fun i => [rowI 3 i ((F_impl_assigned ((F_impl_flowOf m a reqs).2)).1)]) en_101 ⟨(ev_t rfl), trivial⟩ rfl (fun w hw => impl_assigned_ok w r3_3.2.1 r3_3.2.2 ((F_impl_flowOf m a reqs).2) ((rii_tab 1 rfl) w hw) (by first | assumption | omega | grind)) (fun r3_7 => ?_)
    refine TL.op (yq (y_move (ev_t rfl))) rfl rfl rfl ?_
    refine TL.op (yq (y_extract (ev_t rfl) rfl)) rfl rfl rfl ?_
    refine TL.op (yq (y_extract (ev_t rfl) rfl)) rfl rfl rfl ?_
    refine TL.op (yq (y_assign (ev_t rfl))) rfl rfl rfl ?_
    refine TL.op (yq (y_assign (ev_t rfl))) rfl rfl rfl ?_
    refine TL.nil ?_
    refine TN.seq ?_
    refine TC.seq ?_
    refine TC.region ?_
    refine TL.op (yq (y_move (ev_t rfl))) rfl rfl rfl ?_
    refine TL.op (yq (y_assign (ev_t rfl))) rfl rfl rfl ?_
    refine TL.op (yq (y_assign ev_c)) rfl rfl rfl ?_
    refine TL.nil ?_
    refine TN.seq ?_
    refine TC.ret ?_
    subst hF
    exact TN.ret2 rfl (ev_t rfl) (ev_t rfl) (fun w' hw => ⟨rfl, Hp.sublist hw (List.nil_sublist _)⟩)

end Go.Proofs.Ytcmhgkcifejgcaa
namespace Go.Proofs.Ytcmhgkcifejgcaa
open Go Go.RowKit
set_option linter.unusedVariables false

set_option maxRecDepth 4000 in
set_option maxHeartbeats 1000000 in
theorem laws_FnExactFlowCost_ok (w : World) (vm : Value) (um : List Value) (m : List (List Int)) (hm : RII w vm um m) (va : Value) (a : List Int) (ha : RI w va a) (vreqs : Value) (reqs : List Int) (hreqs : RI w vreqs reqs)  :
    Calls Try.prog 7 ([(.agg #[vm]), va, vreqs] : List Value).toArray w (Ret (.bool (F_laws_FnExactFlowCost m a reqs)) (Hp w [])) := by
  obtain ⟨rz, hF⟩ : ∃ rz, (F_laws_FnExactFlowCost m a reqs) = rz := ⟨_, rfl⟩
  rw [hF]
  unfold F_laws_FnExactFlowCost at hF
  have hta := toIntS_eq a
  have htb := toIntS_eq reqs
  have hlen_m := argT_len hm
  have hlen_a := arg_len ha
  have hlen_reqs := arg_len hreqs
  refine calls_tc Try.func7 rfl rfl rfl ?_
  change TC _ _ _ _ (Hp w []) [(0, (.agg #[vm])), (1, va), (2, vreqs)]
  refine TC.seq ?_
  refine TC.region ?_
  refine TL.box (ev_t rfl) rfl (fun g0_0 => ?_)
  refine TL.op (yq (y_assign ev_c)) rfl rfl rfl ?_
  refine TL.nil ?_
  refine TN.seq ?_
  refine TC.seq ?_
  refine TC.seq ?_
  refine TC.region ?_
  refine TL.op (yq (y_move (ev_t rfl))) rfl rfl rfl ?_
  refine TL.op (yq (y_len (ev_t rfl) Try.underlying34 (fun w hw => ((ri_arg ha) w hw).ln))) rfl rfl rfl ?_
  refine TL.op (yq (y_gtr (ev_t rfl) ev_c)) rfl rfl rfl ?_
  refine TL.nil ?_
  refine TN.seq ?_
  refine TC.cond (b := decide (1048576 < (a.length : Int))) (ev_t rfl) (fun h15 => ?_) (fun h15 => ?_)
  · rw [bif_pos h15] at hF
    have q16 := (of_decide_eq_true h15)
    refine TC.seq ?_
    refine TC.region ?_
    refine TL.op (yq (y_assign ev_c)) rfl rfl rfl ?_
    refine TL.nil ?_
    refine TN.seq ?_
    refine TC.ret ?_
    refine TN.thenR ?_
    subst hF
    exact TN.ret1 rfl (ev_t rfl) (fun w' hw => ⟨rfl, Hp.sublist hw (List.nil_sublist _)⟩)
  · rw [bif_neg h15] at hF
    have q16 := (of_decide_eq_false h15)
    refine TC.skip ?_
    refine TN.seq ?_
    refine TC.seq ?_
    refine TC.seq ?_
    refine TC.region ?_
    refine TL.op (yq (y_move (ev_t rfl))) rfl rfl rfl ?_
    refine TL.op (yq (y_len (ev_t rfl) Try.underlying34 (fun w hw => ((ri_arg hreqs) w hw).ln))) rfl rfl rfl ?_
    refine TL.op (yq (y_gtr (ev_t rfl) ev_c)) rfl rfl rfl ?_
    refine TL.nil ?_
    refine TN.seq ?_
    refine TC.cond (b := decide (1048576 < (reqs.length : Int))) (ev_t rfl) (fun h17 => ?_) (fun h17 => ?_)
    · rw [bif_pos h17] at hF
      have q18 := (of_decide_eq_true h17)
      refine TC.seq ?_
      refine TC.region ?_
      refine TL.op (yq (y_assign ev_c)) rfl rfl rfl ?_
      refine TL.nil ?_
      refine TN.seq ?_
      refine TC.ret ?_
      refine TN.thenR ?_
      subst hF
      exact TN.ret1 rfl (ev_t rfl) (fun w' hw => ⟨rfl, Hp.sublist hw (List.nil_sublist _)⟩)
    · rw [bif_neg h17] at hF
      have q18 := (of_decide_eq_false h17)
      refine TC.skip ?_
      refine TN.seq ?_
      refine TC.seq ?_
      refine TC.region ?_
      refine TL.op (yq (y_assign ev_c)) rfl rfl rfl ?_
      refine TL.nil ?_
      refine TN.seq ?_
      refine TC.seq ?_
      refine TC.region ?_
      refine TL.op (yq (y_ldagg (cs := [vm]) 0 (ev_t rfl) agg_51 rfl)) rfl rfl rfl ?_
      refine TL.op (yq (y_move (ev_t rfl))) rfl rfl rfl ?_
      refine TL.op (y_call (vs := [(.agg #[vm]), (.int .i64 1048576)]) (v := (.int .i64 (F_laws_szMetric m 1048576))) en_36 ⟨(ev_t rfl), (ev_t rfl), trivial⟩ (fun w hw => laws_szMetric_ok w vm um m ((rii_arg hm) w hw) 1048576 (by first | assumption | omega | grind) (by first | assumption | omega | grind))) rfl rfl rfl ?_
      refine TL.op (yq (y_assign (ev_t rfl))) rfl rfl rfl ?_
      refine TL.nil ?_
      refine TN.seq ?_
      refine TC.seq ?_
      refine TC.seq ?_
      refine TC.region ?_
      refine TL.op (yq (y_move (ev_t rfl))) rfl rfl rfl ?_
      refine TL.op (yq (y_lss (ev_t rfl) ev_c)) rfl rfl rfl ?_
      refine TL.nil ?_
      refine TN.seq ?_
      refine TC.cond (b := decide ((F_laws_szMetric m 1048576) < 0)) (ev_t rfl) (fun h19 => ?_) (fun h19 => ?_)
      · rw [bif_pos h19] at hF
        have q20 := (of_decide_eq_true h19)
        refine TC.seq ?_
        refine TC.region ?_
        refine TL.op (yq (y_assign ev_c)) rfl rfl rfl ?_
        refine TL.nil ?_
        refine TN.seq ?_
        refine TC.ret ?_
        refine TN.thenR ?_
        subst hF
        exact TN.ret1 rfl (ev_t rfl) (fun w' hw => ⟨rfl, Hp.sublist hw (List.nil_sublist _)⟩)
      · rw [bif_neg h19] at hF
        have q20 := (of_decide_eq_false h19)
        have hsz := szMetric_t (m := m) (left := 1048576) (by omega)
        have hsz1 : ∀ i, (m.getD i []).length ≤ 1048576 := fun i => by have := hsz.2 i; omega
        have hsz2 : m.length + total m ≤ 1048576 := by have := hsz.1; omega
        have htm := toMetric_eq m
        refine TC.skip ?_
        refine TN.seq ?_
        refine TC.seq ?_
        refine TC.region ?_
        refine TL.op (yq (y_ldagg (cs := [vm]) 0 (ev_t rfl) agg_51 rfl)) rfl rfl rfl ?_
        refine TL.callr (ι := Value × List Value) (vs := [(.agg #[vm])]) (fun i => (.agg #[i.1])) (fun i => [tabI 34 3 i.1 i.2 (F_laws_toMetric m)]) en_38 ⟨(ev_t rfl), trivial⟩ rfl (fun w hw => laws_toMetric_ok w vm um m ((rii_arg hm) w hw) (by first | assumption | omega | grind) (by first | assumption | omega | grind)) (fun r9_1 => ?_)
        refine TL.op (yq (y_move (ev_t rfl))) rfl rfl rfl ?_
        refine TL.callr (ι := Value) (vs := [va]) (fun i => i) (fun i => [rowI 3 i (F_laws_toIntS a)]) en_51 ⟨(ev_t rfl), trivial⟩ rfl (fun w hw => laws_toIntS_ok w va a ((ri_arg ha) w hw) (by first | assumption | omega | grind)) (fun r9_3 => ?_)
        refine TL.op (yq (y_move (ev_t rfl))) rfl rfl rfl ?_
        refine TL.callr (ι := Value) (vs := [vreqs]) (fun i => i) (fun i => [rowI 3 i (F_laws_toIntS reqs)]) en_51 ⟨(ev_t rfl), trivial⟩ rfl (fun w hw => laws_toIntS_ok w vreqs reqs ((ri_arg hreqs) w hw) (by first | assumption | omega | grind)) (fun r9_5 => ?_)
        refine TL.op (y_call (vs := [(.agg #[r9_1.1]), r9_3, r9_5]) (v := (.tuple #[(.int .i64 ((F_spec_FlowCost (F_laws_toMetric m) (F_laws_toIntS a) (F_laws_toIntS reqs)).1)), (.bool ((F_spec_FlowCost (F_laws_toMetric m) (F_laws_toIntS a) (F_laws_toIntS reqs)).2))])) en_50 ⟨(ev_t rfl), (ev_t rfl), (ev_t rfl), trivial⟩ (fun w hw => spec_FlowCost_ok w r9_1.1 r9_1.2 (F_laws_toMetric m) ((rii_tab 2 rfl) w hw) r9_3 (F_laws_toIntS a) ((ri_row 1 rfl) w hw) r9_5 (F_laws_toIntS reqs) ((ri_row 0 rfl) w hw))) rfl rfl rfl ?_
        refine TL.op (yq (y_move (ev_t rfl))) rfl rfl rfl ?_
        refine TL.op (yq (y_extract (ev_t rfl) rfl)) rfl rfl rfl ?_
        refine TL.op (yq (y_extract (ev_t rfl) rfl)) rfl rfl rfl ?_
        refine TL.op (yq (y_assign (ev_t rfl))) rfl rfl rfl ?_
        refine TL.op (yq (y_assign (ev_t rfl))) rfl rfl rfl ?_
        refine TL.nil ?_
        refine TN.seq ?_
        refine TC.seq ?_
        refine TC.region ?_
        refine TL.op (yq (y_ldagg (cs := [vm]) 3 (ev_t rfl) agg_51 rfl)) rfl rfl rfl ?_
        refine TL.callr (ι := Value × List Value) (vs := [(.agg #[vm])]) (fun i => (.agg #[i.1])) (fun i => [tabI 34 3 i.1 i.2 (F_laws_toMetric m)]) en_38 ⟨(ev_t rfl), trivial⟩ rfl (fun w hw => laws_toMetric_ok w vm um m ((rii_arg hm) w hw) (by first | assumption | omega | grind) (by first | assumption | omega | grind)) (fun r10_1 => ?_)
        refine TL.alloc (u := (.agg #[(.slice none 0 0)])) (by kernel_rfl) rfl (fun g10_2 => ?_)
        refine TL.storeAgg (cs := [(.slice none 0 0)]) (us := [r10_1.1]) 0 (ev_t rfl) (ev_t rfl) agg_55 rfl rfl (fun w hw => (ocs_cons (ln_one ((fun w hw => ((rii_tab 1 rfl) w hw).1) w hw).ln) ocs_nil)) ?_
        refine TL.nil ?_
        refine TN.seq ?_
        refine TC.seq ?_
        refine TC.region ?_
        refine TL.op (yq (y_move (ev_t rfl))) rfl rfl rfl ?_
        refine TL.callr (ι := Value) (vs := [va]) (fun i => i) (fun i => [rowI 3 i (F_laws_toIntS a)]) en_51 ⟨(ev_t rfl), trivial⟩ rfl (fun w hw => laws_toIntS_ok w va a ((ri_arg ha) w hw) (by first | assumption | omega | grind)) (fun r11_1 => ?_)
        refine TL.op (yq (y_assign (ev_t rfl))) rfl rfl rfl ?_
        refine TL.nil ?_
        refine TN.seq ?_
        refine TC.seq ?_
        refine TC.region ?_
        refine TL.op (yq (y_move (ev_t rfl))) rfl rfl rfl ?_
        refine TL.callr (ι := Value) (vs := [vreqs]) (fun i => i) (fun i => [rowI 3 i (F_laws_toIntS reqs)]) en_51 ⟨(ev_t rfl), trivial⟩ rfl (fun w hw => laws_toIntS_ok w vreqs reqs ((ri_arg hreqs) w hw) (by first | assumption | omega | grind)) (fun r12_1 => ?_)
        refine TL.op (yq (y_assign (ev_t rfl))) rfl rfl rfl ?_
        refine TL.nil ?_
        refine TN.seq ?_
        refine TC.seq ?_
        refine TC.region ?_
        refine TL.op (yq (y_ldagg (cs := [r10_1.1]) 2 (ev_t rfl) agg_55 rfl)) rfl rfl rfl ?_
        refine TL.op (yq (y_move (ev_t rfl))) rfl rfl rfl ?_
        refine TL.op (yq (y_move (ev_t rfl))) rfl rfl rfl ?_
        refine TL.op (y_call (vs := [(.agg #[r10_1.1]), r11_1, r12_1]) (v := (.tuple #[(.int .i64 ((F_impl_FlowCost (F_laws_toMetric m) (F_laws_toIntS a) (F_laws_toIntS reqs)).1)), (.bool ((F_impl_FlowCost (F_laws_toMetric m) (F_laws_toIntS a) (F_laws_toIntS reqs)).2))])) en_52 ⟨(ev_t rfl), (ev_t rfl), (ev_t rfl), trivial⟩ (fun w hw => impl_FlowCost_ok w r10_1.1 r10_1.2 (F_laws_toMetric m) ((rii_tab 3 rfl) w hw) r11_1 (F_laws_toIntS a) ((ri_row 1 rfl) w hw) r12_1 (F_laws_toIntS reqs) ((ri_row 0 rfl) w hw))) rfl rfl rfl ?_
        refine TL.op (yq (y_move (ev_t rfl))) rfl rfl rfl ?_
        refine TL.op (yq (y_extract (ev_t rfl) rfl)) rfl rfl rfl ?_
        refine TL.op (yq (y_extract (ev_t rfl) rfl)) rfl rfl rfl ?_
        refine TL.op (yq (y_assign (ev_t rfl))) rfl rfl rfl ?_
        refine TL.op (yq (y_assign (ev_t rfl))) rfl rfl rfl ?_
        refine TL.nil ?_
        refine TN.seq ?_
        refine TC.seq ?_
        refine TC.seq ?_
        refine TC.region ?_
        refine TL.op (yq (y_move (ev_t rfl))) rfl rfl rfl ?_
        refine TL.op (yq (y_move (ev_t rfl))) rfl rfl rfl ?_
        refine TL.op (yq (y_neq (ev_t rfl) (ev_t rfl))) rfl rfl rfl ?_
        refine TL.op (yq (y_move (ev_t rfl))) rfl rfl rfl ?_
        refine TL.opw (w_f rfl rfl rfl) (fun hg => yq (y_move (ev_t rfl))) rfl rfl ?_
        refine TL.opw (w_f rfl rfl rfl) (fun hg => yq (y_move (ev_t rfl))) rfl rfl ?_
        refine TL.opw (w_f rfl rfl rfl) (fun hg => yq (y_bneq (ev_g rfl hg) (ev_g rfl hg) Try.underlying4)) rfl rfl ?_
        refine TL.op (yq (y_or (ev_t rfl) (fun hq => (ev_g rfl hq)))) rfl rfl rfl ?_
        refine TL.nil ?_
        refine TN.seq ?_
        refine TC.cond (b := ((!decide ((F_impl_FlowCost (F_laws_toMetric m) (F_laws_toIntS a) (F_laws_toIntS reqs)).1 = (F_spec_FlowCost (F_laws_toMetric m) (F_laws_toIntS a) (F_laws_toIntS reqs)).1)) || (((F_impl_FlowCost (F_laws_toMetric m) (F_laws_toIntS a) (F_laws_toIntS reqs)).2) != ((F_spec_FlowCost (F_laws_toMetric m) (F_laws_toIntS a) (F_laws_toIntS reqs)).2)))) (ev_t rfl) (fun h21 => ?_) (fun h21 => ?_)
        · rw [bif_pos h21] at hF
          have q22 := ((or_t h21).imp (fun h => (of_decide_eq_false (not_t h))) (fun h => h))
          refine TC.seq ?_
          refine TC.region ?_
          refine TL.op (yq (y_assign ev_c)) rfl rfl rfl ?_
          refine TL.nil ?_
          refine TN.seq ?_
          refine TC.ret ?_
          refine TN.thenR ?_
          subst hF
          exact TN.ret1 rfl (ev_t rfl) (fun w' hw => ⟨rfl, Hp.sublist hw (List.nil_sublist _)⟩)
        · rw [bif_neg h21] at hF
          have q22 := (and_imp (or_f h21) (fun h => (of_decide_eq_true (not_f h))) (fun h => h))
          refine TC.skip ?_
          refine TN.seq ?_
          refine TC.seq ?_
          refine TC.seq ?_
          refine TC.regionH 5 (Hp w [rowI 3 r12_1 (F_laws_toIntS reqs), rowI 3 r11_1 (F_laws_toIntS a), .blk g10_2 55 [r10_1.1], tabI 34 3 r10_1.1 r10_1.2 (F_laws_toMetric m), rowI 3 r9_5 (F_laws_toIntS reqs), rowI 3 r9_3 (F_laws_toIntS a), tabI 34 3 r9_1.1 r9_1.2 (F_laws_toMetric m), .blk g0_0 51 [vm]]) rfl (by kernel_rfl) dr_hp (fun w hw => hw) ?_
          refine TH.take 0 rfl (by kernel_rfl) (y_ldagg (cs := [r10_1.1]) 2 (ev_t rfl) agg_55 rfl) rfl rfl rfl ?_
          refine TH.take 1 rfl (by kernel_rfl) (y_ldagg (cs := [vm]) 7 (ev_t rfl) agg_51 rfl) rfl rfl rfl ?_
          refine TH.loud 2 rfl (by kernel_rfl) ?_
          refine TL.callr (ι := Value × List Value) (vs := [(.agg #[vm])]) (fun i => (.agg #[i.1])) (fun i => [tabI 34 3 i.1 i.2 (F_laws_toMetric m)]) en_38 ⟨(ev_t rfl), trivial⟩ rfl (fun w hw => laws_toMetric_ok w vm um m ((rii_arg hm) w hw) (by first | assumption | omega | grind) (by first | assumption | omega | grind)) (fun r16_2 => ?_)
          refine TL.nil ?_
          refine TH.back (fun w hw => Hp.sublist hw (.cons _ (.cons_cons _ (.cons_cons _ (.cons_cons _ (.cons_cons _ (.cons_cons _ (.cons_cons _ (.cons_cons _ (.cons_cons _ .slnil)))))))))) ?_
          refine TH.loud 3 rfl (by kernel_rfl) ?_
          refine TL.op (y_call (vs := [(.agg #[r10_1.1]), (.agg #[r16_2.1])]) (v := (.bool (F_laws_eqMetric (F_laws_toMetric m) (F_laws_toMetric m)))) en_41 ⟨(ev_t rfl), (ev_t rfl), trivial⟩ (fun w hw => laws_eqMetric_ok w r10_1.1 r10_1.2 (F_laws_toMetric m) ((rii_tab 4 rfl) w hw) r16_2.1 r16_2.2 (F_laws_toMetric m) ((rii_tab 0 rfl) w hw))) rfl rfl rfl ?_
          refine TL.nil ?_
          refine TH.back (fun w hw => Hp.sublist hw (.cons _ (.cons_cons _ (.cons_cons _ (.cons_cons _ (.cons_cons _ (.cons_cons _ (.cons_cons _ (.cons_cons _ (.cons_cons _ .slnil)))))))))) ?_
          refine TH.take 4 rfl (by kernel_rfl) (y_not (ev_t rfl)) rfl rfl rfl ?_
          refine TH.done (by kernel_rfl) ?_
          refine TN.seq ?_
          refine TC.cond (b := !(F_laws_eqMetric (F_laws_toMetric m) (F_laws_toMetric m))) (ev_t rfl) (fun h23 => ?_) (fun h23 => ?_)
          · rw [bif_pos h23] at hF
            have q24 := (not_t h23)
            refine TC.seq ?_
            refine TC.region ?_
            refine TL.op (yq (y_assign ev_c)) rfl rfl rfl ?_
            refine TL.nil ?_
            refine TN.seq ?_
            refine TC.ret ?_
            refine TN.thenR ?_
            subst hF
            exact TN.ret1 rfl (ev_t rfl) (fun w' hw => ⟨rfl, Hp.sublist hw (List.nil_sublist _)⟩)
          · rw [bif_neg h23] at hF
            have q24 := (not_f h23)
            refine TC.skip ?_
            refine TN.seq ?_
            refine TC.seq ?_
            refine TC.seq ?_
            refine TC.region ?_
            refine TL.op (yq (y_move (ev_t rfl))) rfl rfl rfl ?_
            refine TL.op (yq (y_move (ev_t rfl))) rfl rfl rfl ?_
            refine TL.callr (ι := Value) (vs := [va]) (fun i => i) (fun i => [rowI 3 i (F_laws_toIntS a)]) en_51 ⟨(ev_t rfl), trivial⟩ rfl (fun w hw => laws_toIntS_ok w va a ((ri_arg ha) w hw) (by first | assumption | omega | grind)) (fun r18_2 => ?_)
            refine TL.op (y_call (vs := [r11_1, r18_2]) (v := (.bool (F_laws_eqIntS (F_laws_toIntS a) (F_laws_toIntS a)))) en_53 ⟨(ev_t rfl), (ev_t rfl), trivial⟩ (fun w hw => laws_eqIntS_ok w r11_1 (F_laws_toIntS a) ((ri_row 3 rfl) w hw) r18_2 (F_laws_toIntS a) ((ri_row 0 rfl) w hw))) rfl rfl rfl ?_
            refine TL.op (yq (y_not (ev_t rfl))) rfl rfl rfl ?_
            refine TL.nil ?_
            refine TN.seq ?_
            refine TC.cond (b := !(F_laws_eqIntS (F_laws_toIntS a) (F_laws_toIntS a))) (ev_t rfl) (fun h25 => ?_) (fun h25 => ?_)
            · rw [bif_pos h25] at hF
              have q26 := (not_t h25)
              refine TC.seq ?_
              refine TC.region ?_
              refine TL.op (yq (y_assign ev_c)) rfl rfl rfl ?_
              refine TL.nil ?_
              refine TN.seq ?_
              refine TC.ret ?_
              refine TN.thenR ?_
              subst hF
              exact TN.ret1 rfl (ev_t rfl) (fun w' hw => ⟨rfl, Hp.sublist hw (List.nil_sublist _)⟩)
            · rw [bif_neg h25] at hF
              have q26 := (not_f h25)
              refine TC.skip ?_
              refine TN.seq ?_
              refine TC.seq ?_
              refine TC.seq ?_
              refine TC.region ?_
              refine TL.op (yq (y_move (ev_t rfl))) rfl rfl rfl ?_
              refine TL.op (yq (y_move (ev_t rfl))) rfl rfl rfl ?_
              refine TL.callr (ι := Value) (vs := [vreqs]) (fun i => i) (fun i => [rowI 3 i (F_laws_toIntS reqs)]) en_51 ⟨(ev_t rfl), trivial⟩ rfl (fun w hw => laws_toIntS_ok w vreqs reqs ((ri_arg hreqs) w hw) (by first | assumption | omega | grind)) (fun r20_2 => ?_)
              refine TL.op (y_call (vs := [r12_1, r20_2]) (v := (.bool (F_laws_eqIntS (F_laws_toIntS reqs) (F_laws_toIntS reqs)))) en_53 ⟨(ev_t rfl), (ev_t rfl), trivial⟩ (fun w hw => laws_eqIntS_ok w r12_1 (F_laws_toIntS reqs) ((ri_row 3 rfl) w hw) r20_2 (F_laws_toIntS reqs) ((ri_row 0 rfl) w hw))) rfl rfl rfl ?_
              refine TL.op (yq (y_not (ev_t rfl))) rfl rfl rfl ?_
              refine TL.nil ?_
              refine TN.seq ?_
              refine TC.cond (b := !(F_laws_eqIntS (F_laws_toIntS reqs) (F_laws_toIntS reqs))) (ev_t rfl) (fun h27 => ?_) (fun h27 => ?_)
              · rw [bif_pos h27] at hF
                have q28 := (not_t h27)
                refine TC.seq ?_
                refine TC.region ?_
                refine TL.op (yq (y_assign ev_c)) rfl rfl rfl ?_
                refine TL.nil ?_
                refine TN.seq ?_
                refine TC.ret ?_
                refine TN.thenR ?_
                subst hF
                exact TN.ret1 rfl (ev_t rfl) (fun w' hw => ⟨rfl, Hp.sublist hw (List.nil_sublist _)⟩)
              · rw [bif_neg h27] at hF
                have q28 := (not_f h27)
                refine TC.skip ?_
                refine TN.seq ?_
                refine TC.seq ?_
                refine TC.region ?_
                refine TL.op (yq (y_assign ev_c)) rfl rfl rfl ?_
                refine TL.nil ?_
                refine TN.seq ?_
                refine TC.ret ?_
                subst hF
                exact TN.ret1 rfl (ev_t rfl) (fun w' hw => ⟨rfl, Hp.sublist hw (List.nil_sublist _)⟩)

end Go.Proofs.Ytcmhgkcifejgcaa
