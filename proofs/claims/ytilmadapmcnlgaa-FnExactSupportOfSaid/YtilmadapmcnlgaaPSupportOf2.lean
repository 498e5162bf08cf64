/-
  Walks of the functions that a law reaches: each computes its plain function. No condition but the bounds that are typed.
-/
import Derived.Test.YtilmadapmcnlgaaPSupportOf1
namespace Go.Proofs.Ytilmadapmcnlgaa
open Go Go.RowKit

set_option maxRecDepth 4000 in
set_option maxHeartbeats 1000000 in
theorem spec_l6Match_ok (w : World) (vm : Value) (um : List Value) (m : List (List Int)) (hm : RII w vm um m) (va : Value) (a : List Int) (ha : RI w va a) (vb : Value) (b : List Int) (hb : RI w vb b) (hp0 : Tab m) (hp1 : Cf m.length a) (hp2 : Cf m.length b) (hp3 : a.length = b.length) :
    Calls Try.prog 113 ([(.agg #[vm]), va, vb] : List Value).toArray w (fun e w' => ∃ i : Value, e = .returned (.tuple #[i, (.int .i64 ((F_spec_l6Match m a b).2))]) ∧ Hp w [rowI 3 i ((F_spec_l6Match m a b).1)] w') := by
  obtain ⟨rz, hF⟩ : ∃ rz, (F_spec_l6Match m a b) = rz := ⟨_, rfl⟩
  rw [hF]
  unfold F_spec_l6Match at hF
  have hn3 := hp1.n3
  have hor := perms_row a.length hp1.n1 hp1.n3
  have hlen_m := argT_len hm
  have hlen_a := arg_len ha
  have hlen_b := arg_len hb
  refine calls_tc Try.func113 rfl rfl rfl ?_
  change TC _ _ _ _ (Hp w []) [(0, (.agg #[vm])), (1, va), (2, vb)]
  refine TC.seq ?_
  refine TC.region ?_
  refine TL.box (ev_t rfl) rfl (fun g0_0 => ?_)
  refine TL.op (yq (y_assign ev_c)) rfl rfl rfl ?_
  refine TL.op (yq (y_assign ev_c)) rfl rfl rfl ?_
  refine TL.nil ?_
  refine TN.seq ?_
  refine TC.seq ?_
  refine TC.region ?_
  refine TL.op (yq (y_move (ev_t rfl))) rfl rfl rfl ?_
  refine TL.op (yq (y_len (ev_t rfl) Try.underlying25 (fun w hw => ((ri_arg ha) w hw).ln))) rfl rfl rfl ?_
  refine TL.callr (ι := Value × List Value) (vs := [(.int .i64 (a.length : Int))]) (fun i => i.1) (fun i => [tabI 25 3 i.1 i.2 (F_spec_l6Perms (a.length : Int))]) en_131 ⟨(ev_t rfl), trivial⟩ rfl (fun w hw => spec_l6Perms_ok w (a.length : Int) (by first | assumption | omega | grind)) (fun r1_2 => ?_)
  refine TL.buildI (zs := []) (qs := []) slT_25 rfl trivial rfl (by decide) rfl (fun v1_3 => ?_)
  refine TL.op (yq (y_assign (ev_t rfl))) rfl rfl rfl ?_
  refine TL.op (yq (y_assign (ev_t rfl))) rfl rfl rfl ?_
  refine TL.op (yq (y_assign ev_c)) rfl rfl rfl ?_
  refine TL.nil ?_
  refine TN.seq ?_
  refine TC.seq ?_
  refine TC.seq ?_
  refine TC.region ?_
  refine TL.op (yq (y_assign ev_c)) rfl rfl rfl ?_
  refine TL.nil ?_
  refine TN.seq ?_
  refine TC.block ?_
  obtain ⟨c61, hc62⟩ : ∃ c, F_spec_l6Match_L1 m a b ((((F_spec_l6Perms (a.length : Int)).length) - 0) + 1) (([] : List Int), (-1), 0) = c := ⟨_, rfl⟩
  rw [hc62] at hF
  refine TC.loop (ι := Nat × List Int × Int × Nat × Value) (fun (fu1, k9_1, k10_1, k11_1, vk9_1) => [(1, va), (2, vb), (3, (.pointer (some ⟨g0_0, 0, none⟩))), (8, r1_2.1), (9, vk9_1), (10, (.int .i64 k10_1)), (11, (.int .i64 (k11_1 : Int)))]) (fun (fu1, k9_1, k10_1, k11_1, vk9_1) => Hp w [rowI 3 v1_3 ([] : List Int), tabI 25 3 r1_2.1 r1_2.2 (F_spec_l6Perms (a.length : Int)), .blk g0_0 29 [vm]]) (fun (fu1, k9_1, k10_1, k11_1, vk9_1) => (k11_1 ≤ ((F_spec_l6Perms (a.length : Int)).length)) ∧ (∀ w', Hp w [rowI 3 v1_3 ([] : List Int), tabI 25 3 r1_2.1 r1_2.2 (F_spec_l6Perms (a.length : Int))] w' → Hp w [rowI 3 vk9_1 k9_1] w') ∧ ((F_spec_l6Perms (a.length : Int)).length) - k11_1 < fu1 ∧ F_spec_l6Match_L1 m a b fu1 (k9_1, k10_1, k11_1) = c61) (fun (fu1, k9_1, k10_1, k11_1, vk9_1) => fu1) ((((F_spec_l6Perms (a.length : Int)).length) - 0) + 1, ([] : List Int), -1, 0, v1_3) ⟨(by first | omega | (simp [-List.getD_eq_getElem?_getD] <;> omega)), (fun w hw => Hp.sublist hw (.cons_cons _ (.cons _ .slnil))), (by omega), hc62⟩ ⟨rfl, rfl, rfl, rfl, rfl, rfl, rfl, trivial⟩ (fun w hw => hw) ?_
  rintro ⟨fu1, k9_1, k10_1, k11_1, vk9_1⟩ hJ1
  obtain ⟨hi1_0, hrk9_1, hmu1, hL1⟩ : (k11_1 ≤ ((F_spec_l6Perms (a.length : Int)).length)) ∧ (∀ w', Hp w [rowI 3 v1_3 ([] : List Int), tabI 25 3 r1_2.1 r1_2.2 (F_spec_l6Perms (a.length : Int))] w' → Hp w [rowI 3 vk9_1 k9_1] w') ∧ ((F_spec_l6Perms (a.length : Int)).length) - k11_1 < fu1 ∧ F_spec_l6Match_L1 m a b fu1 (k9_1, k10_1, k11_1) = c61 := hJ1
  change TC _ _ _ _ (Hp w [rowI 3 v1_3 ([] : List Int), tabI 25 3 r1_2.1 r1_2.2 (F_spec_l6Perms (a.length : Int)), .blk g0_0 29 [vm]]) [(1, va), (2, vb), (3, (.pointer (some ⟨g0_0, 0, none⟩))), (8, r1_2.1), (9, vk9_1), (10, (.int .i64 k10_1)), (11, (.int .i64 (k11_1 : Int)))]
  obtain ⟨mf1, rfl⟩ : ∃ m, fu1 = m + 1 := ⟨fu1 - 1, by omega⟩
  rw [F_spec_l6Match_L1_s] at hL1
  have hoj := hor.2.2 k11_1
  refine TC.seq ?_
  refine TC.seq ?_
  refine TC.region ?_
  refine TL.op (yq (y_move (ev_t rfl))) rfl rfl rfl ?_
  refine TL.op (yq (y_move (ev_t rfl))) rfl rfl rfl ?_
  refine TL.op (yq (y_len (ev_t rfl) Try.underlying22 (fun w hw => ((fun w hw => ((rii_tab 1 rfl) w hw).1) w hw).ln))) rfl rfl rfl ?_
  refine TL.op (yq (y_lss (ev_t rfl) (ev_t rfl))) rfl rfl rfl ?_
  refine TL.nil ?_
  refine TN.seq ?_
  refine TC.cond (b := decide ((k11_1 : Int) < ((F_spec_l6Perms (a.length : Int)).length : Int))) (ev_t rfl) (fun h63 => ?_) (fun h63 => ?_)
  · rw [bif_pos h63] at hL1
    have q64 := (of_decide_eq_true h63)
    refine TC.skip ?_
    refine TN.seq ?_
    refine TC.seq ?_
    refine TC.block ?_
    refine TC.seq ?_
    refine TC.region ?_
    refine TL.op (yq (y_assign ev_c)) rfl rfl rfl ?_
    refine TL.nil ?_
    refine TN.seq ?_
    refine TC.seq ?_
    refine TC.seq ?_
    refine TC.region ?_
    refine TL.op (yq (y_assign ev_c)) rfl rfl rfl ?_
    refine TL.nil ?_
    refine TN.seq ?_
    refine TC.block ?_
    obtain ⟨c65, hc66⟩ : ∃ c, F_spec_l6Match_L2 m a b k11_1 ((a.length - 0) + 1) (0, 0) = c := ⟨_, rfl⟩
    rw [hc66] at hL1
    refine TC.loop (ι := Nat × Int × Nat) (fun (fu2, k12_2, k13_2) => [(1, va), (2, vb), (3, (.pointer (some ⟨g0_0, 0, none⟩))), (8, r1_2.1), (9, vk9_1), (10, (.int .i64 k10_1)), (11, (.int .i64 (k11_1 : Int))), (12, (.int .i64 k12_2)), (13, (.int .i64 (k13_2 : Int)))]) (fun (fu2, k12_2, k13_2) => Hp w [rowI 3 v1_3 ([] : List Int), tabI 25 3 r1_2.1 r1_2.2 (F_spec_l6Perms (a.length : Int)), .blk g0_0 29 [vm]]) (fun (fu2, k12_2, k13_2) => (k13_2 ≤ a.length) ∧ (-99 * (k13_2 : Int) ≤ k12_2) ∧ (k12_2 ≤ 99 * (k13_2 : Int)) ∧ a.length - k13_2 < fu2 ∧ F_spec_l6Match_L2 m a b k11_1 fu2 (k12_2, k13_2) = c65) (fun (fu2, k12_2, k13_2) => fu2) ((a.length - 0) + 1, 0, 0) ⟨(by first | omega | (simp [-List.getD_eq_getElem?_getD] <;> omega)), (by first | omega | (simp [-List.getD_eq_getElem?_getD] <;> omega)), (by first | omega | (simp [-List.getD_eq_getElem?_getD] <;> omega)), (by omega), hc66⟩ ⟨rfl, rfl, rfl, rfl, rfl, rfl, rfl, rfl, rfl, trivial⟩ (fun w hw => hw) ?_
    rintro ⟨fu2, k12_2, k13_2⟩ hJ2
    obtain ⟨hi2_0, hi2_1, hi2_2, hmu2, hL2⟩ : (k13_2 ≤ a.length) ∧ (-99 * (k13_2 : Int) ≤ k12_2) ∧ (k12_2 ≤ 99 * (k13_2 : Int)) ∧ a.length - k13_2 < fu2 ∧ F_spec_l6Match_L2 m a b k11_1 fu2 (k12_2, k13_2) = c65 := hJ2
    change TC _ _ _ _ (Hp w [rowI 3 v1_3 ([] : List Int), tabI 25 3 r1_2.1 r1_2.2 (F_spec_l6Perms (a.length : Int)), .blk g0_0 29 [vm]]) [(1, va), (2, vb), (3, (.pointer (some ⟨g0_0, 0, none⟩))), (8, r1_2.1), (9, vk9_1), (10, (.int .i64 k10_1)), (11, (.int .i64 (k11_1 : Int))), (12, (.int .i64 k12_2)), (13, (.int .i64 (k13_2 : Int)))]
    obtain ⟨mf2, rfl⟩ : ∃ m, fu2 = m + 1 := ⟨fu2 - 1, by omega⟩
    rw [F_spec_l6Match_L2_s] at hL2
    have hoe := hoj (by omega)
    have hoe2 := hoe.2 k13_2
    have ha1 := hp1.el k13_2
    have hb1 := hp2.el ((((F_spec_l6Perms (a.length : Int)).getD k11_1 []).getD k13_2 0).toNat)
    have hrw := hp0.rows ((a.getD k13_2 0).toNat)
    have hme := hp0.el ((a.getD k13_2 0).toNat) ((b.getD ((((F_spec_l6Perms (a.length : Int)).getD k11_1 []).getD k13_2 0).toNat) 0).toNat)
    refine TC.seq ?_
    refine TC.seq ?_
    refine TC.region ?_
    refine TL.op (yq (y_move (ev_t rfl))) rfl rfl rfl ?_
    refine TL.op (yq (y_move (ev_t rfl))) rfl rfl rfl ?_
    refine TL.op (yq (y_len (ev_t rfl) Try.underlying25 (fun w hw => ((ri_arg ha) w hw).ln))) rfl rfl rfl ?_
    refine TL.op (yq (y_lss (ev_t rfl) (ev_t rfl))) rfl rfl rfl ?_
    refine TL.nil ?_
    refine TN.seq ?_
    refine TC.cond (b := decide ((k13_2 : Int) < (a.length : Int))) (ev_t rfl) (fun h67 => ?_) (fun h67 => ?_)
    · rw [bif_pos h67] at hL2
      have q68 := (of_decide_eq_true h67)
      refine TC.skip ?_
      refine TN.seq ?_
      refine TC.seq ?_
      refine TC.block ?_
      refine TC.regionQ (by kernel_rfl) (by kernel_rfl) dr_hp ?_
      refine TQ.op (yq (y_move (ev_t rfl))) rfl rfl rfl ?_
      refine TQ.op (yq (y_fa (fa_29_0 g0_0) (ev_t rfl))) rfl rfl rfl ?_
      refine TQ.op (yq (y_ldb 2 (ev_t rfl) one_22 rfl rfl)) rfl rfl rfl ?_
      refine TQ.op (yq (y_move (ev_t rfl))) rfl rfl rfl ?_
      refine TQ.op (yq (y_move (ev_t rfl))) rfl rfl rfl ?_
      have hb69 : k13_2 < a.length := (by first | omega | (simp only [List.length_set, List.length_append, List.length_cons, List.length_nil, List.length_replicate]; omega) | (rw [sortI_length]; simp only [List.length_cons, List.length_nil]; omega))
      refine TQ.op (yq (y_idx (k := k13_2) (ev_t rfl) (ev_t rfl) (by first | omega | simp) slT_25 (ri_arg ha) hb69)) rfl rfl rfl ?_
      refine TQ.op (yq (y_ldi (ev_t rfl) one_3 (ri_arg ha) hb69)) rfl rfl rfl ?_
      have hb70 : ((a.getD k13_2 0)).toNat < m.length := (by first | omega | (simp only [List.length_set, List.length_append, List.length_cons, List.length_nil, List.length_replicate]; omega) | (rw [sortI_length]; simp only [List.length_cons, List.length_nil]; omega))
      refine TQ.op (yq (y_idx (k := ((a.getD k13_2 0)).toNat) (ev_t rfl) (ev_t rfl) (by first | omega | simp) slT_22 (fun w hw => ((rii_arg hm) w hw).1) hb70)) rfl rfl rfl ?_
      have ha71 := hm.row (i := ((a.getD k13_2 0)).toNat) hb70
      refine TQ.op (yq (y_ldA (ev_t rfl) one_25 (rii_arg hm) hb70)) rfl rfl rfl ?_
      refine TQ.op (yq (y_move (ev_t rfl))) rfl rfl rfl ?_
      refine TQ.op (yq (y_move (ev_t rfl))) rfl rfl rfl ?_
      refine TQ.op (yq (y_move (ev_t rfl))) rfl rfl rfl ?_
      have hb72 : k11_1 < (F_spec_l6Perms (a.length : Int)).length := (by first | omega | (simp only [List.length_set, List.length_append, List.length_cons, List.length_nil, List.length_replicate]; omega) | (rw [sortI_length]; simp only [List.length_cons, List.length_nil]; omega))
      refine TQ.op (yq (y_idx (k := k11_1) (ev_t rfl) (ev_t rfl) (by first | omega | simp) slT_22 (fun w hw => ((rii_tab 1 rfl) w hw).1) hb72)) rfl rfl rfl ?_
      refine TQ.op (yq (y_ldT 1 (ev_t rfl) one_25 rfl hb72)) rfl rfl rfl ?_
      refine TQ.op (yq (y_move (ev_t rfl))) rfl rfl rfl ?_
      have hb73 : k13_2 < ((F_spec_l6Perms (a.length : Int)).getD k11_1 []).length := (by first | omega | (simp only [List.length_set, List.length_append, List.length_cons, List.length_nil, List.length_replicate]; omega) | (rw [sortI_length]; simp only [List.length_cons, List.length_nil]; omega))
      refine TQ.op (yq (y_idx (k := k13_2) (ev_t rfl) (ev_t rfl) (by first | omega | simp) slT_25 (ri_tab 1 k11_1 rfl hb72) hb73)) rfl rfl rfl ?_
      refine TQ.op (yq (y_ldi (ev_t rfl) one_3 (ri_tab 1 k11_1 rfl hb72) hb73)) rfl rfl rfl ?_
      have hb74 : ((((F_spec_l6Perms (a.length : Int)).getD k11_1 []).getD k13_2 0)).toNat < b.length := (by first | omega | (simp only [List.length_set, List.length_append, List.length_cons, List.length_nil, List.length_replicate]; omega) | (rw [sortI_length]; simp only [List.length_cons, List.length_nil]; omega))
      refine TQ.op (yq (y_idx (k := ((((F_spec_l6Perms (a.length : Int)).getD k11_1 []).getD k13_2 0)).toNat) (ev_t rfl) (ev_t rfl) (by first | omega | simp) slT_25 (ri_arg hb) hb74)) rfl rfl rfl ?_
      refine TQ.op (yq (y_ldi (ev_t rfl) one_3 (ri_arg hb) hb74)) rfl rfl rfl ?_
      have hb75 : ((b.getD (((((F_spec_l6Perms (a.length : Int)).getD k11_1 []).getD k13_2 0)).toNat) 0)).toNat < (m.getD (((a.getD k13_2 0)).toNat) []).length := (by first | omega | (simp only [List.length_set, List.length_append, List.length_cons, List.length_nil, List.length_replicate]; omega) | (rw [sortI_length]; simp only [List.length_cons, List.length_nil]; omega))
      refine TQ.op (yq (y_idx (k := ((b.getD (((((F_spec_l6Perms (a.length : Int)).getD k11_1 []).getD k13_2 0)).toNat) 0)).toNat) (ev_t rfl) (ev_t rfl) (by first | omega | simp) slT_25 (ri_arg ha71) hb75)) rfl rfl rfl ?_
      refine TQ.op (yq (y_ldi (ev_t rfl) one_3 (ri_arg ha71) hb75)) rfl rfl rfl ?_
      refine TQ.op (yq (y_add (ev_t rfl) (ev_t rfl) (by unfold In64; omega))) rfl rfl rfl ?_
      refine TQ.op (yq (y_assign (ev_t rfl))) rfl rfl rfl ?_
      refine TQ.nil ?_
      refine TN.blockN ?_
      refine TN.seq ?_
      refine TC.region ?_
      refine TL.op (yq (y_move (ev_t rfl))) rfl rfl rfl ?_
      refine TL.op (yq (y_add (ev_t rfl) ev_c (by unfold In64; omega))) rfl rfl rfl ?_
      refine TL.op (yq (y_assign (ev_t rfl))) rfl rfl rfl ?_
      refine TL.nil ?_
      exact TN.hand (mf2, k12_2 + ((m.getD (((a.getD k13_2 0)).toNat) []).getD (((b.getD (((((F_spec_l6Perms (a.length : Int)).getD k11_1 []).getD k13_2 0)).toNat) 0)).toNat) 0), (k13_2 + 1)) ⟨(by first | omega | (simp [-List.getD_eq_getElem?_getD] <;> omega)), (by first | omega | (simp [-List.getD_eq_getElem?_getD] <;> omega)), (by first | omega | (simp [-List.getD_eq_getElem?_getD] <;> omega)), (by omega), hL2⟩ (Nat.lt_succ_self _) ⟨rfl, rfl, rfl, rfl, rfl, rfl, rfl, rfl, rfl, trivial⟩ (fun w hw => hw)
    · rw [bif_neg h67] at hL2
      have q68 := (of_decide_eq_false h67)
      refine TC.exit ?_
      refine TN.thenE ?_
      refine TN.thenE ?_
      rw [← hL2, elim_next] at hL1
      try dsimp only at hL1
      refine TN.blockH ?_
      refine TN.seq ?_
      refine TC.seq ?_
      refine TC.region ?_
      refine TL.op (yq (y_move (ev_t rfl))) rfl rfl rfl ?_
      refine TL.op (yq (y_lss (ev_t rfl) ev_c)) rfl rfl rfl ?_
      refine TL.op (yq (y_move (ev_t rfl))) rfl rfl rfl ?_
      refine TL.opw (w_f rfl rfl rfl) (fun hg => yq (y_move (ev_t rfl))) rfl rfl ?_
      refine TL.opw (w_f rfl rfl rfl) (fun hg => yq (y_move (ev_t rfl))) rfl rfl ?_
      refine TL.opw (w_f rfl rfl rfl) (fun hg => yq (y_lss (ev_g rfl hg) (ev_g rfl hg))) rfl rfl ?_
      refine TL.op (yq (y_or (ev_t rfl) (fun hq => (ev_g rfl hq)))) rfl rfl rfl ?_
      refine TL.nil ?_
      refine TN.seq ?_
      refine TC.cond (b := ((decide (k10_1 < 0)) || (decide (k12_2 < k10_1)))) (ev_t rfl) (fun h76 => ?_) (fun h76 => ?_)
      · rw [bif_pos h76] at hL1
        have q77 := ((or_t h76).imp (fun h => (of_decide_eq_true h)) (fun h => (of_decide_eq_true h)))
        refine TC.seq ?_
        refine TC.region ?_
        refine TL.op (yq (y_move (ev_t rfl))) rfl rfl rfl ?_
        refine TL.op (yq (y_move (ev_t rfl))) rfl rfl rfl ?_
        have hb78 : k11_1 < (F_spec_l6Perms (a.length : Int)).length := (by first | omega | (simp only [List.length_set, List.length_append, List.length_cons, List.length_nil, List.length_replicate]; omega) | (rw [sortI_length]; simp only [List.length_cons, List.length_nil]; omega))
        refine TL.op (yq (y_idx (k := k11_1) (ev_t rfl) (ev_t rfl) (by first | omega | simp) slT_22 (fun w hw => ((rii_tab 1 rfl) w hw).1) hb78)) rfl rfl rfl ?_
        refine TL.op (yq (y_ldT 1 (ev_t rfl) one_25 rfl hb78)) rfl rfl rfl ?_
        refine TL.op (yq (y_assign (ev_t rfl))) rfl rfl rfl ?_
        refine TL.nil ?_
        refine TN.seq ?_
        refine TC.region ?_
        refine TL.op (yq (y_move (ev_t rfl))) rfl rfl rfl ?_
        refine TL.op (yq (y_assign (ev_t rfl))) rfl rfl rfl ?_
        refine TL.nil ?_
        refine TN.blockN ?_
        refine TN.seq ?_
        refine TC.region ?_
        refine TL.op (yq (y_move (ev_t rfl))) rfl rfl rfl ?_
        refine TL.op (yq (y_add (ev_t rfl) ev_c (by unfold In64; omega))) rfl rfl rfl ?_
        refine TL.op (yq (y_assign (ev_t rfl))) rfl rfl rfl ?_
        refine TL.nil ?_
        exact TN.hand (mf1, ((F_spec_l6Perms (a.length : Int)).getD k11_1 []), k12_2, (k11_1 + 1), (r1_2.2.getD k11_1 undef)) ⟨(by first | omega | (simp [-List.getD_eq_getElem?_getD] <;> omega)), (fun w hw => ext_row 1 rfl hb78 hw), (by omega), hL1⟩ (Nat.lt_succ_self _) ⟨rfl, rfl, rfl, rfl, rfl, rfl, rfl, trivial⟩ (fun w hw => hw)
      · rw [bif_neg h76] at hL1
        have q77 := (and_imp (or_f h76) (fun h => (of_decide_eq_false h)) (fun h => (of_decide_eq_false h)))
        refine TC.skip ?_
        refine TN.blockN ?_
        refine TN.seq ?_
        refine TC.region ?_
        refine TL.op (yq (y_move (ev_t rfl))) rfl rfl rfl ?_
        refine TL.op (yq (y_add (ev_t rfl) ev_c (by unfold In64; omega))) rfl rfl rfl ?_
        refine TL.op (yq (y_assign (ev_t rfl))) rfl rfl rfl ?_
        refine TL.nil ?_
        exact TN.hand (mf1, k9_1, k10_1, (k11_1 + 1), vk9_1) ⟨(by first | omega | (simp [-List.getD_eq_getElem?_getD] <;> omega)), hrk9_1, (by omega), hL1⟩ (Nat.lt_succ_self _) ⟨rfl, rfl, rfl, rfl, rfl, rfl, rfl, trivial⟩ (fun w hw => hw)
  · rw [bif_neg h63] at hL1
    have q64 := (of_decide_eq_false h63)
    refine TC.exit ?_
    refine TN.thenE ?_
    refine TN.thenE ?_
    rw [← hL1, elim_next] at hF
    try dsimp only at hF
    refine TN.blockH ?_
    refine TN.seq ?_
    refine TC.seq ?_
    refine TC.region ?_
    refine TL.op (yq (y_move (ev_t rfl))) rfl rfl rfl ?_
    refine TL.op (yq (y_move (ev_t rfl))) rfl rfl rfl ?_
    refine TL.op (yq (y_assign (ev_t rfl))) rfl rfl rfl ?_
    refine TL.op (yq (y_assign (ev_t rfl))) rfl rfl rfl ?_
    refine TL.nil ?_
    refine TN.seq ?_
    refine TC.ret ?_
    subst hF
    refine TN.cls (fun w hw => hrk9_1 w (Hp.sublist hw (.cons_cons _ (.cons_cons _ (.cons _ .slnil))))) ?_
    exact TN.ret2 rfl (ev_t rfl) (ev_t rfl) (fun w' hw => ⟨vk9_1, rfl, hw⟩)

set_option maxRecDepth 4000 in
set_option maxHeartbeats 1000000 in
theorem spec_l6Move_ok (w : World) (vm : Value) (um : List Value) (m : List (List Int)) (hm : RII w vm um m) (va : Value) (a : List Int) (ha : RI w va a) (vb : Value) (b : List Int) (hb : RI w vb b) (hp0 : Tab m) (hp1 : Cf m.length a) (hp2 : Cf m.length b) (hp3 : a.length = b.length) :
    Calls Try.prog 76 ([(.agg #[vm]), va, vb] : List Value).toArray w (Ret (.int .i64 (F_spec_l6Move m a b)) (Hp w [])) := by
  obtain ⟨rz, hF⟩ : ∃ rz, (F_spec_l6Move m a b) = rz := ⟨_, rfl⟩
  rw [hF]
  unfold F_spec_l6Move at hF
  have hlen_m := argT_len hm
  have hlen_a := arg_len ha
  have hlen_b := arg_len hb
  refine calls_tc Try.func76 rfl rfl rfl ?_
  change TC _ _ _ _ (Hp w []) [(0, (.agg #[vm])), (1, va), (2, vb)]
  refine TC.seq ?_
  refine TC.region ?_
  refine TL.box (ev_t rfl) rfl (fun g0_0 => ?_)
  refine TL.op (yq (y_assign ev_c)) rfl rfl rfl ?_
  refine TL.nil ?_
  refine TN.seq ?_
  refine TC.seq ?_
  refine TC.region ?_
  refine TL.op (yq (y_ldagg (cs := [vm]) 0 (ev_t rfl) agg_29 rfl)) rfl rfl rfl ?_
  refine TL.op (yq (y_move (ev_t rfl))) rfl rfl rfl ?_
  refine TL.op (yq (y_move (ev_t rfl))) rfl rfl rfl ?_
  refine TL.callr (ι := Value) (vs := [(.agg #[vm]), va, vb]) (fun i => (.tuple #[i, (.int .i64 ((F_spec_l6Match m a b).2))])) (fun i => [rowI 3 i ((F_spec_l6Match m a b).1)]) en_113 ⟨(ev_t rfl), (ev_t rfl), (ev_t rfl), trivial⟩ rfl (fun w hw => spec_l6Match_ok w vm um m ((rii_arg hm) w hw) va a ((ri_arg ha) w hw) vb b ((ri_arg hb) w hw) (by first | assumption | omega | grind) (by first | assumption | omega | grind) (by first | assumption | omega | grind) (by first | assumption | omega | grind)) (fun r1_3 => ?_)
  refine TL.op (yq (y_move (ev_t rfl))) rfl rfl rfl ?_
  refine TL.op (yq (y_extract (ev_t rfl) rfl)) rfl rfl rfl ?_
  refine TL.op (yq (y_extract (ev_t rfl) rfl)) rfl rfl rfl ?_
  refine TL.op (yq (y_assign (ev_t rfl))) rfl rfl rfl ?_
  refine TL.op (yq (y_assign (ev_t rfl))) rfl rfl rfl ?_
  refine TL.nil ?_
  refine TN.seq ?_
  refine TC.seq ?_
  refine TC.region ?_
  refine TL.op (yq (y_move (ev_t rfl))) rfl rfl rfl ?_
  refine TL.op (yq (y_assign (ev_t rfl))) rfl rfl rfl ?_
  refine TL.nil ?_
  refine TN.seq ?_
  refine TC.ret ?_
  subst hF
  exact TN.ret1 rfl (ev_t rfl) (fun w' hw => ⟨rfl, Hp.sublist hw (List.nil_sublist _)⟩)

set_option maxRecDepth 4000 in
set_option maxHeartbeats 1000000 in
theorem impl_worksOf_ok (w : World) (vm : Value) (um : List Value) (m : List (List Int)) (hm : RII w vm um m) (k : Int) (hp0 : Ks m k) :
    Calls Try.prog 56 ([(.agg #[vm]), (.int .i64 k)] : List Value).toArray w (fun e w' => ∃ i : Nat × Value × Value × List Value × Value × List Value, e = .returned (.pointer (some ⟨i.1, 0, none⟩)) ∧ Hp w [.blk i.1 70 [i.2.1, i.2.2.1, i.2.2.2.2.1], tabI 25 3 i.2.2.1 i.2.2.2.1 ((F_impl_worksOf m k).1), tabI 25 3 i.2.2.2.2.1 i.2.2.2.2.2 ((F_impl_worksOf m k).2)] w') := by
  obtain ⟨rz, hF⟩ : ∃ rz, (F_impl_worksOf m k) = rz := ⟨_, rfl⟩
  rw [hF]
  unfold F_impl_worksOf at hF
  have hn6 := hp0.tab.n6
  have hcs := hp0.cfgs
  have hc56 := hp0.c56
  have hTab := hp0.tab
  have hk1 := hp0.k1
  have hk3 := hp0.k3
  have hlen_m := argT_len hm
  refine calls_tc Try.func56 rfl rfl rfl ?_
  change TC _ _ _ _ (Hp w []) [(0, (.agg #[vm])), (1, (.int .i64 k))]
  refine TC.seq ?_
  refine TC.region ?_
  refine TL.box (ev_t rfl) rfl (fun g0_0 => ?_)
  refine TL.op (yq (y_assign ev_c)) rfl rfl rfl ?_
  refine TL.nil ?_
  refine TN.seq ?_
  refine TC.seq ?_
  refine TC.regionH 9 (Hp w [.blk g0_0 29 [vm]]) rfl (by kernel_rfl) dr_hp (fun w hw => hw) ?_
  refine TH.take 0 rfl (by kernel_rfl) (y_ldagg (cs := [vm]) 0 (ev_t rfl) agg_29 rfl) rfl rfl rfl ?_
  refine TH.take 1 rfl (by kernel_rfl) (y_fa (fa_29_0 g0_0) (ev_t rfl)) rfl rfl rfl ?_
  refine TH.take 2 rfl (by kernel_rfl) (y_ldb 0 (ev_t rfl) one_22 rfl rfl) rfl rfl rfl ?_
  refine TH.take 3 rfl (by kernel_rfl) (y_len (ev_t rfl) Try.underlying22 (fun w hw => ((fun w hw => ((rii_arg hm) w hw).1) w hw).ln)) rfl rfl rfl ?_
  refine TH.take 4 rfl (by kernel_rfl) (y_move (ev_t rfl)) rfl rfl rfl ?_
  refine TH.loud 5 rfl (by kernel_rfl) ?_
  refine TL.callr (ι := Value × List Value) (vs := [(.int .i64 (m.length : Int)), (.int .i64 k), (.int .i64 0)]) (fun i => i.1) (fun i => [tabI 25 3 i.1 i.2 (F_impl_configsOf (m.length : Int) k 0)]) en_99 ⟨(ev_t rfl), (ev_t rfl), ev_c, trivial⟩ rfl (fun w hw => impl_configsOf_ok w (m.length : Int) k 0 (by first | assumption | omega | grind) (by first | assumption | omega | grind) (by first | assumption | omega | grind) (by first | assumption | omega | grind)) (fun r1_5 => ?_)
  refine TL.nil ?_
  refine TH.back (fun w hw => Hp.sublist hw (.cons _ (.cons_cons _ .slnil))) ?_
  refine TH.loud 6 rfl (by kernel_rfl) ?_
  refine TL.op (yq (y_bldW (ev_t rfl) (ev_t rfl) bd_70_w (fun w hw => ((fun w hw => ((rii_arg hm) w hw).1) w hw).ln) (fun w hw => ((fun w hw => ((rii_tab 0 rfl) w hw).1) w hw).ln))) rfl rfl rfl ?_
  refine TL.nil ?_
  refine TH.back (fun w hw => Hp.sublist hw (.cons _ (.cons_cons _ .slnil))) ?_
  refine TH.loud 7 rfl (by kernel_rfl) ?_
  refine TL.boxW (ev_t rfl) (fun w hw => ((fun w hw => ((rii_arg hm) w hw).1) w hw).ln) (fun w hw => ((fun w hw => ((rii_tab 0 rfl) w hw).1) w hw).ln) rfl (fun g1_7 => ?_)
  refine TL.nil ?_
  refine TH.back (fun w hw => Hp.sublist hw (.cons _ (.cons _ (.cons_cons _ .slnil)))) ?_
  refine TH.take 8 rfl (by kernel_rfl) (y_assign (ev_t rfl)) rfl rfl rfl ?_
  refine TH.done (by kernel_rfl) ?_
  refine TN.seq ?_
  refine TC.seq ?_
  refine TC.seq ?_
  refine TC.region ?_
  refine TL.op (yq (y_move (ev_t rfl))) rfl rfl rfl ?_
  refine TL.op (yq (y_nilp (ev_t rfl))) rfl rfl rfl ?_
  refine TL.op (yq (y_fa (fa_70_1 g1_7) (ev_t rfl))) rfl rfl rfl ?_
  refine TL.op (yq (y_ldb 0 (ev_t rfl) one_22 rfl rfl)) rfl rfl rfl ?_
  refine TL.op (yq (y_len (ev_t rfl) Try.underlying22 (fun w hw => ((fun w hw => ((rii_tab 1 rfl) w hw).1) w hw).ln))) rfl rfl rfl ?_
  refine TL.op (yq (y_move ev_c)) rfl rfl rfl ?_
  refine TL.nil ?_
  refine TN.seq ?_
  refine TC.block ?_
  refine TC.cls (fun w hw => hw.nilTab 25 3) ?_
  obtain ⟨c28, hc29⟩ : ∃ c, F_impl_worksOf_L1 m k ((((F_impl_configsOf (m.length : Int) k 0).length) - 0) + 1) (0, ([])) = c := ⟨_, rfl⟩
  rw [hc29] at hF
  refine TC.loop (ι := Nat × Nat × List (List Int) × Value × List Value) (fun (fu1, k24_1, zg1_7_2_1, vzg1_7_2_1, uzg1_7_2_1) => [(2, (.pointer (some ⟨g0_0, 0, none⟩))), (5, (.pointer (some ⟨g1_7, 0, none⟩))), (22, r1_5.1), (23, (.int .i64 ((F_impl_configsOf (m.length : Int) k 0).length : Int))), (24, (.int .i64 (k24_1 : Int)))]) (fun (fu1, k24_1, zg1_7_2_1, vzg1_7_2_1, uzg1_7_2_1) => Hp w [tabI 25 3 vzg1_7_2_1 uzg1_7_2_1 zg1_7_2_1, .blk g1_7 70 [vm, r1_5.1, vzg1_7_2_1], tabI 25 3 r1_5.1 r1_5.2 (F_impl_configsOf (m.length : Int) k 0), .blk g0_0 29 [vm]]) (fun (fu1, k24_1, zg1_7_2_1, vzg1_7_2_1, uzg1_7_2_1) => (k24_1 ≤ ((F_impl_configsOf (m.length : Int) k 0).length)) ∧ (zg1_7_2_1.length = k24_1) ∧ ((F_impl_configsOf (m.length : Int) k 0).length) - k24_1 < fu1 ∧ F_impl_worksOf_L1 m k fu1 (k24_1, zg1_7_2_1) = c28) (fun (fu1, k24_1, zg1_7_2_1, vzg1_7_2_1, uzg1_7_2_1) => fu1) ((((F_impl_configsOf (m.length : Int) k 0).length) - 0) + 1, 0, [], (.slice none 0 0), []) ⟨(by first | omega | (simp [-List.getD_eq_getElem?_getD] <;> omega)), (by first | omega | (simp [-List.getD_eq_getElem?_getD] <;> omega)), (by omega), hc29⟩ ⟨rfl, rfl, rfl, rfl, rfl, trivial⟩ (fun w hw => hw) ?_
  rintro ⟨fu1, k24_1, zg1_7_2_1, vzg1_7_2_1, uzg1_7_2_1⟩ hJ1
  obtain ⟨hi1_0, hi1_1, hmu1, hL1⟩ : (k24_1 ≤ ((F_impl_configsOf (m.length : Int) k 0).length)) ∧ (zg1_7_2_1.length = k24_1) ∧ ((F_impl_configsOf (m.length : Int) k 0).length) - k24_1 < fu1 ∧ F_impl_worksOf_L1 m k fu1 (k24_1, zg1_7_2_1) = c28 := hJ1
  change TC _ _ _ _ (Hp w [tabI 25 3 vzg1_7_2_1 uzg1_7_2_1 zg1_7_2_1, .blk g1_7 70 [vm, r1_5.1, vzg1_7_2_1], tabI 25 3 r1_5.1 r1_5.2 (F_impl_configsOf (m.length : Int) k 0), .blk g0_0 29 [vm]]) [(2, (.pointer (some ⟨g0_0, 0, none⟩))), (5, (.pointer (some ⟨g1_7, 0, none⟩))), (22, r1_5.1), (23, (.int .i64 ((F_impl_configsOf (m.length : Int) k 0).length : Int))), (24, (.int .i64 (k24_1 : Int)))]
  obtain ⟨mf1, rfl⟩ : ∃ m, fu1 = m + 1 := ⟨fu1 - 1, by omega⟩
  rw [F_impl_worksOf_L1_s] at hL1
  have hca := (hcs k24_1)
  refine TC.seq ?_
  refine TC.region ?_
  refine TL.op (yq (y_lss (ev_t rfl) (ev_t rfl))) rfl rfl rfl ?_
  refine TL.nil ?_
  refine TN.seq ?_
  refine TC.seq ?_
  refine TC.cond (b := decide ((k24_1 : Int) < ((F_impl_configsOf (m.length : Int) k 0).length : Int))) (ev_t rfl) (fun h30 => ?_) (fun h30 => ?_)
  · rw [bif_pos h30] at hL1
    have q31 := (of_decide_eq_true h30)
    refine TC.skip ?_
    refine TN.seq ?_
    refine TC.seq ?_
    refine TC.block ?_
    refine TC.seq ?_
    refine TC.region ?_
    have hb32 : k24_1 < (F_impl_configsOf (m.length : Int) k 0).length := (by first | omega | (simp only [List.length_set, List.length_append, List.length_cons, List.length_nil, List.length_replicate]; omega) | (rw [sortI_length]; simp only [List.length_cons, List.length_nil]; omega))
    refine TL.op (yq (y_idx (k := k24_1) (ev_t rfl) (ev_t rfl) (by first | omega | simp) slT_22 (fun w hw => ((rii_tab 2 rfl) w hw).1) hb32)) rfl rfl rfl ?_
    refine TL.op (yq (y_ldT 2 (ev_t rfl) one_25 rfl hb32)) rfl rfl rfl ?_
    refine TL.op (yq (y_assign (ev_t rfl))) rfl rfl rfl ?_
    refine TL.nil ?_
    refine TN.seq ?_
    refine TC.seq ?_
    refine TC.region ?_
    refine TL.buildI (zs := []) (qs := []) slT_25 rfl trivial rfl (by decide) rfl (fun v5_0 => ?_)
    refine TL.op (yq (y_assign (ev_t rfl))) rfl rfl rfl ?_
    refine TL.nil ?_
    refine TN.seq ?_
    refine TC.seq ?_
    refine TC.seq ?_
    refine TC.region ?_
    refine TL.op (yq (y_move (ev_t rfl))) rfl rfl rfl ?_
    refine TL.op (yq (y_nilp (ev_t rfl))) rfl rfl rfl ?_
    refine TL.op (yq (y_fa (fa_70_1 g1_7) (ev_t rfl))) rfl rfl rfl ?_
    refine TL.op (yq (y_ldb 2 (ev_t rfl) one_22 rfl rfl)) rfl rfl rfl ?_
    refine TL.op (yq (y_len (ev_t rfl) Try.underlying22 (fun w hw => ((fun w hw => ((rii_tab 3 rfl) w hw).1) w hw).ln))) rfl rfl rfl ?_
    refine TL.op (yq (y_move ev_c)) rfl rfl rfl ?_
    refine TL.nil ?_
    refine TN.seq ?_
    refine TC.block ?_
    obtain ⟨c33, hc34⟩ : ∃ c, F_impl_worksOf_L2 m k k24_1 ((((F_impl_configsOf (m.length : Int) k 0).length) - 0) + 1) (([] : List Int), 0) = c := ⟨_, rfl⟩
    rw [hc34] at hL1
    refine TC.loop (ι := Nat × List Int × Nat × Value) (fun (fu2, row2, k34_2, vrow2) => [(2, (.pointer (some ⟨g0_0, 0, none⟩))), (5, (.pointer (some ⟨g1_7, 0, none⟩))), (7, (r1_5.2.getD k24_1 undef)), (8, vrow2), (22, r1_5.1), (23, (.int .i64 ((F_impl_configsOf (m.length : Int) k 0).length : Int))), (24, (.int .i64 (k24_1 : Int))), (32, r1_5.1), (33, (.int .i64 ((F_impl_configsOf (m.length : Int) k 0).length : Int))), (34, (.int .i64 (k34_2 : Int)))]) (fun (fu2, row2, k34_2, vrow2) => Hp w [rowI 3 vrow2 row2, tabI 25 3 vzg1_7_2_1 uzg1_7_2_1 zg1_7_2_1, .blk g1_7 70 [vm, r1_5.1, vzg1_7_2_1], tabI 25 3 r1_5.1 r1_5.2 (F_impl_configsOf (m.length : Int) k 0), .blk g0_0 29 [vm]]) (fun (fu2, row2, k34_2, vrow2) => (k34_2 ≤ ((F_impl_configsOf (m.length : Int) k 0).length)) ∧ (row2.length = k34_2) ∧ ((F_impl_configsOf (m.length : Int) k 0).length) - k34_2 < fu2 ∧ F_impl_worksOf_L2 m k k24_1 fu2 (row2, k34_2) = c33) (fun (fu2, row2, k34_2, vrow2) => fu2) ((((F_impl_configsOf (m.length : Int) k 0).length) - 0) + 1, ([] : List Int), 0, v5_0) ⟨(by first | omega | (simp [-List.getD_eq_getElem?_getD] <;> omega)), (by first | omega | (simp [-List.getD_eq_getElem?_getD] <;> omega)), (by omega), hc34⟩ ⟨rfl, rfl, rfl, rfl, rfl, rfl, rfl, rfl, rfl, rfl, trivial⟩ (fun w hw => hw) ?_
    rintro ⟨fu2, row2, k34_2, vrow2⟩ hJ2
    obtain ⟨hi2_0, hi2_1, hmu2, hL2⟩ : (k34_2 ≤ ((F_impl_configsOf (m.length : Int) k 0).length)) ∧ (row2.length = k34_2) ∧ ((F_impl_configsOf (m.length : Int) k 0).length) - k34_2 < fu2 ∧ F_impl_worksOf_L2 m k k24_1 fu2 (row2, k34_2) = c33 := hJ2
    change TC _ _ _ _ (Hp w [rowI 3 vrow2 row2, tabI 25 3 vzg1_7_2_1 uzg1_7_2_1 zg1_7_2_1, .blk g1_7 70 [vm, r1_5.1, vzg1_7_2_1], tabI 25 3 r1_5.1 r1_5.2 (F_impl_configsOf (m.length : Int) k 0), .blk g0_0 29 [vm]]) [(2, (.pointer (some ⟨g0_0, 0, none⟩))), (5, (.pointer (some ⟨g1_7, 0, none⟩))), (7, (r1_5.2.getD k24_1 undef)), (8, vrow2), (22, r1_5.1), (23, (.int .i64 ((F_impl_configsOf (m.length : Int) k 0).length : Int))), (24, (.int .i64 (k24_1 : Int))), (32, r1_5.1), (33, (.int .i64 ((F_impl_configsOf (m.length : Int) k 0).length : Int))), (34, (.int .i64 (k34_2 : Int)))]
    obtain ⟨mf2, rfl⟩ : ∃ m, fu2 = m + 1 := ⟨fu2 - 1, by omega⟩
    rw [F_impl_worksOf_L2_s] at hL2
    have hca1 := (hcs k24_1 (by omega)).1
    have hcb1 := fun h => (hcs k34_2 h).1
    have hcl := fun h => hp0.eqlen k24_1 k34_2 (by omega) h
    refine TC.seq ?_
    refine TC.region ?_
    refine TL.op (yq (y_lss (ev_t rfl) (ev_t rfl))) rfl rfl rfl ?_
    refine TL.nil ?_
    refine TN.seq ?_
    refine TC.seq ?_
    refine TC.cond (b := decide ((k34_2 : Int) < ((F_impl_configsOf (m.length : Int) k 0).length : Int))) (ev_t rfl) (fun h35 => ?_) (fun h35 => ?_)
    · rw [bif_pos h35] at hL2
      have q36 := (of_decide_eq_true h35)
      refine TC.skip ?_
      refine TN.seq ?_
      refine TC.seq ?_
      refine TC.block ?_
      refine TC.seq ?_
      refine TC.region ?_
      have hb37 : k34_2 < (F_impl_configsOf (m.length : Int) k 0).length := (by first | omega | (simp only [List.length_set, List.length_append, List.length_cons, List.length_nil, List.length_replicate]; omega) | (rw [sortI_length]; simp only [List.length_cons, List.length_nil]; omega))
      refine TL.op (yq (y_idx (k := k34_2) (ev_t rfl) (ev_t rfl) (by first | omega | simp) slT_22 (fun w hw => ((rii_tab 3 rfl) w hw).1) hb37)) rfl rfl rfl ?_
      refine TL.op (yq (y_ldT 3 (ev_t rfl) one_25 rfl hb37)) rfl rfl rfl ?_
      refine TL.op (yq (y_assign (ev_t rfl))) rfl rfl rfl ?_
      refine TL.nil ?_
      refine TN.seq ?_
      refine TC.region ?_
      refine TL.op (yq (y_move (ev_t rfl))) rfl rfl rfl ?_
      refine TL.op (yq (y_ldagg (cs := [vm]) 4 (ev_t rfl) agg_29 rfl)) rfl rfl rfl ?_
      refine TL.op (yq (y_move (ev_t rfl))) rfl rfl rfl ?_
      refine TL.op (yq (y_move (ev_t rfl))) rfl rfl rfl ?_
      refine TL.op (y_call (vs := [(.agg #[vm]), (r1_5.2.getD k24_1 undef), (r1_5.2.getD k34_2 undef)]) (v := (.int .i64 (F_impl_Metric_moveCost m ((F_impl_configsOf (m.length : Int) k 0).getD k24_1 []) ((F_impl_configsOf (m.length : Int) k 0).getD k34_2 [])))) en_100 ⟨(ev_t rfl), (ev_t rfl), (ev_t rfl), trivial⟩ (fun w hw => impl_Metric_moveCost_ok w vm um m ((rii_arg hm) w hw) (r1_5.2.getD k24_1 undef) ((F_impl_configsOf (m.length : Int) k 0).getD k24_1 []) ((ri_tab 3 k24_1 rfl hb32) w hw) (r1_5.2.getD k34_2 undef) ((F_impl_configsOf (m.length : Int) k 0).getD k34_2 []) ((ri_tab 3 k34_2 rfl hb37) w hw) (by first | assumption | omega | grind) (by first | assumption | omega | grind) (by first | assumption | omega | grind) (by first | assumption | omega | grind))) rfl rfl rfl ?_
      refine TL.buildI (zs := [.tmp 42]) (qs := [(F_impl_Metric_moveCost m ((F_impl_configsOf (m.length : Int) k 0).getD k24_1 []) ((F_impl_configsOf (m.length : Int) k 0).getD k34_2 []))]) slT_25 rfl ⟨(ev_t rfl), trivial⟩ rfl (by decide) rfl (fun v9_5 => ?_)
      refine TL.appendI 1 (ev_t rfl) (ev_t rfl) rfl slT_25 (ri_row 0 rfl) (by first | omega | (simp [-List.getD_eq_getElem?_getD] <;> omega)) rfl (fun v9_6 => ?_)
      refine TL.op (yq (y_assign (ev_t rfl))) rfl rfl rfl ?_
      refine TL.nil ?_
      refine TN.blockN ?_
      refine TN.seq ?_
      refine TC.region ?_
      refine TL.op (yq (y_add (ev_t rfl) ev_c (by unfold In64; omega))) rfl rfl rfl ?_
      refine TL.op (yq (y_move (ev_t rfl))) rfl rfl rfl ?_
      refine TL.nil ?_
      exact TN.hand (mf2, (row2 ++ ([(F_impl_Metric_moveCost m ((F_impl_configsOf (m.length : Int) k 0).getD k24_1 []) ((F_impl_configsOf (m.length : Int) k 0).getD k34_2 []))])), (k34_2 + 1), v9_6) ⟨(by first | omega | (simp [-List.getD_eq_getElem?_getD] <;> omega)), (by first | omega | (simp [-List.getD_eq_getElem?_getD] <;> omega)), (by omega), hL2⟩ (Nat.lt_succ_self _) ⟨rfl, rfl, rfl, rfl, rfl, rfl, rfl, rfl, rfl, rfl, trivial⟩ (fun w hw => Hp.sublist hw (.cons _ (.cons_cons _ (.cons_cons _ (.cons_cons _ (.cons_cons _ (.cons_cons _ .slnil)))))))
    · rw [bif_neg h35] at hL2
      have q36 := (of_decide_eq_false h35)
      refine TC.exit ?_
      refine TN.thenE ?_
      refine TN.thenE ?_
      rw [← hL2, elim_next] at hL1
      try dsimp only at hL1
      refine TN.blockH ?_
      refine TN.seq ?_
      refine TC.region ?_
      refine TL.op (yq (y_move (ev_t rfl))) rfl rfl rfl ?_
      refine TL.op (yq (y_move (ev_t rfl))) rfl rfl rfl ?_
      refine TL.op (yq (y_nilp (ev_t rfl))) rfl rfl rfl ?_
      refine TL.op (yq (y_fa (fa_70_2 g1_7) (ev_t rfl))) rfl rfl rfl ?_
      refine TL.op (yq (y_ldb 2 (ev_t rfl) one_22 rfl rfl)) rfl rfl rfl ?_
      refine TL.op (yq (y_move (ev_t rfl))) rfl rfl rfl ?_
      refine TL.buildU slT_22 (ev_t rfl) (fun w hw => ((ri_row 0 rfl) w hw).ln) rfl (fun v11_6 => ?_)
      refine TL.appendT 2 1 rfl (ev_t rfl) (ev_t rfl) rfl rfl slT_22 (rd_row 0 rfl) (by first | omega | (simp [-List.getD_eq_getElem?_getD] <;> omega)) rfl (fun v11_7 => ?_)
      refine TL.op (yq (y_nilp (ev_t rfl))) rfl rfl rfl ?_
      refine TL.op (yq (y_fa (fa_70_2 g1_7) (ev_t rfl))) rfl rfl rfl ?_
      refine TL.storeB 3 (ev_t rfl) (ev_t rfl) one_22 rfl (by first | decide | simp) (fun w hw => (ln_one ((fun w hw => ((rii_tab 2 rfl) w hw).1) w hw).ln)) ?_
      refine TL.nil ?_
      refine TN.blockN ?_
      refine TN.seq ?_
      refine TC.region ?_
      refine TL.op (yq (y_add (ev_t rfl) ev_c (by unfold In64; omega))) rfl rfl rfl ?_
      refine TL.op (yq (y_move (ev_t rfl))) rfl rfl rfl ?_
      refine TL.nil ?_
      exact TN.hand (mf1, (k24_1 + 1), (zg1_7_2_1 ++ [row2]), v11_7, (uzg1_7_2_1 ++ [vrow2])) ⟨(by first | omega | (simp [-List.getD_eq_getElem?_getD] <;> omega)), (by first | omega | (simp [-List.getD_eq_getElem?_getD] <;> omega)), (by omega), hL1⟩ (Nat.lt_succ_self _) ⟨rfl, rfl, rfl, rfl, rfl, trivial⟩ (fun w hw => Hp.sublist hw (.cons _ (.cons _ (.cons_cons _ (.cons_cons _ (.cons_cons _ (.cons_cons _ .slnil)))))))
  · rw [bif_neg h30] at hL1
    have q31 := (of_decide_eq_false h30)
    refine TC.exit ?_
    refine TN.thenE ?_
    refine TN.thenE ?_
    rw [← hL1, elim_next] at hF
    try dsimp only at hF
    refine TN.blockH ?_
    refine TN.seq ?_
    refine TC.seq ?_
    refine TC.region ?_
    refine TL.op (yq (y_move (ev_t rfl))) rfl rfl rfl ?_
    refine TL.op (yq (y_assign (ev_t rfl))) rfl rfl rfl ?_
    refine TL.nil ?_
    refine TN.seq ?_
    refine TC.ret ?_
    subst hF
    exact TN.ret1 rfl (ev_t rfl) (fun w' hw => ⟨(g1_7, vm, r1_5.1, r1_5.2, vzg1_7_2_1, uzg1_7_2_1), rfl, Hp.picks [1, 2, 0] (by decide) rfl hw⟩)

set_option maxRecDepth 4000 in
set_option maxHeartbeats 1000000 in
theorem impl_works_isWork_ok (w : World) (gx : Nat) (vx0 : Value) (vx1 : Value) (ux1 : List Value) (xc1 : List (List Int)) (vx2 : Value) (ux2 : List Value) (xc2 : List (List Int)) (hx : BlkAt w gx [vx0, vx1, vx2]) (hrx1 : RII w vx1 ux1 xc1) (hrx2 : RII w vx2 ux2 xc2) (vwk : Value) (wk : List Int) (hwk : RI w vwk wk) (hp0 : Wd xc1 xc2) :
    Calls Try.prog 57 ([(.pointer (some ⟨gx, 0, none⟩)), vwk] : List Value).toArray w (Ret (.bool (F_impl_works_isWork xc1 xc2 wk)) (Hp w [])) := by
  obtain ⟨rz, hF⟩ : ∃ rz, (F_impl_works_isWork xc1 xc2 wk) = rz := ⟨_, rfl⟩
  rw [hF]
  unfold F_impl_works_isWork at hF
  have hwl := hp0.len
  have hlen_x1 := argT_len hrx1
  have hlen_x2 := argT_len hrx2
  have hlen_wk := arg_len hwk
  refine calls_tc Try.func57 rfl rfl rfl ?_
  change TC _ _ _ _ (Hp w []) [(0, (.pointer (some ⟨gx, 0, none⟩))), (1, vwk)]
  refine TC.seq ?_
  refine TC.region ?_
  refine TL.op (yq (y_assign ev_c)) rfl rfl rfl ?_
  refine TL.nil ?_
  refine TN.seq ?_
  refine TC.seq ?_
  refine TC.seq ?_
  refine TC.region ?_
  refine TL.op (yq (y_move (ev_t rfl))) rfl rfl rfl ?_
  refine TL.op (yq (y_len (ev_t rfl) Try.underlying25 (fun w hw => ((ri_arg hwk) w hw).ln))) rfl rfl rfl ?_
  refine TL.op (yq (y_move (ev_t rfl))) rfl rfl rfl ?_
  refine TL.op (yq (y_nilp (ev_t rfl))) rfl rfl rfl ?_
  refine TL.op (yq (y_fa (fa_70_1 gx) (ev_t rfl))) rfl rfl rfl ?_
  refine TL.op (yq (y_ldk (ev_t rfl) one_22 hx rfl)) rfl rfl rfl ?_
  refine TL.op (yq (y_len (ev_t rfl) Try.underlying22 (fun w hw => ((fun w hw => ((rii_arg hrx1) w hw).1) w hw).ln))) rfl rfl rfl ?_
  refine TL.op (yq (y_neq (ev_t rfl) (ev_t rfl))) rfl rfl rfl ?_
  refine TL.op (yq (y_move (ev_t rfl))) rfl rfl rfl ?_
  refine TL.opw (w_f rfl rfl rfl) (fun hg => yq (y_move (ev_t rfl))) rfl rfl ?_
  refine TL.opw (w_f rfl rfl rfl) (fun hg => y_call (vs := [(.int .i64 100000), vwk]) (v := (.bool (F_impl_areBelow 100000 wk))) en_101 ⟨ev_c, (ev_g rfl hg), trivial⟩ (fun w hw => impl_areBelow_ok w 100000 vwk wk ((ri_arg hwk) w hw) (by have hgf := (of_decide_eq_true (not_f (not_t hg))); first | assumption | omega | (have hq := hgf.n6; omega) | (have hq := hgf.1.n6; omega) | grind) (by have hgf := (of_decide_eq_true (not_f (not_t hg))); first | assumption | omega | (have hq := hgf.n6; omega) | (have hq := hgf.1.n6; omega) | grind))) rfl rfl ?_
  refine TL.opw (w_f rfl rfl rfl) (fun hg => yq (y_not (ev_g rfl hg))) rfl rfl ?_
  refine TL.op (yq (y_or (ev_t rfl) (fun hq => (ev_g rfl hq)))) rfl rfl rfl ?_
  refine TL.nil ?_
  refine TN.seq ?_
  refine TC.cond (b := ((!decide ((wk.length : Int) = (xc1.length : Int))) || (!(F_impl_areBelow 100000 wk)))) (ev_t rfl) (fun h33 => ?_) (fun h33 => ?_)
  · rw [bif_pos h33] at hF
    have q34 := ((or_t h33).imp (fun h => (of_decide_eq_false (not_t h))) (fun h => (not_t h)))
    refine TC.seq ?_
    refine TC.region ?_
    refine TL.op (yq (y_assign ev_c)) rfl rfl rfl ?_
    refine TL.nil ?_
    refine TN.seq ?_
    refine TC.ret ?_
    refine TN.thenR ?_
    subst hF
    exact TN.ret1 rfl (ev_t rfl) (fun w' hw => ⟨rfl, hw⟩)
  · rw [bif_neg h33] at hF
    have q34 := (and_imp (or_f h33) (fun h => (of_decide_eq_true (not_f h))) (fun h => (areBelow_t (not_f h))))
    have hwe := q34.2
    refine TC.skip ?_
    refine TN.seq ?_
    refine TC.seq ?_
    refine TC.seq ?_
    refine TC.region ?_
    refine TL.op (yq (y_move (ev_t rfl))) rfl rfl rfl ?_
    refine TL.op (yq (y_len (ev_t rfl) Try.underlying25 (fun w hw => ((ri_arg hwk) w hw).ln))) rfl rfl rfl ?_
    refine TL.op (yq (y_move ev_c)) rfl rfl rfl ?_
    refine TL.nil ?_
    refine TN.seq ?_
    refine TC.block ?_
    obtain ⟨c35, hc36⟩ : ∃ c, F_impl_works_isWork_L1 xc2 wk ((wk.length - 0) + 1) 0 = c := ⟨_, rfl⟩
    rw [hc36] at hF
    refine TC.loop (ι := Nat × Nat) (fun (fu1, k24_1) => [(0, (.pointer (some ⟨gx, 0, none⟩))), (1, vwk), (22, vwk), (23, (.int .i64 (wk.length : Int))), (24, (.int .i64 (k24_1 : Int)))]) (fun (fu1, k24_1) => Hp w []) (fun (fu1, k24_1) => (k24_1 ≤ wk.length) ∧ wk.length - k24_1 < fu1 ∧ F_impl_works_isWork_L1 xc2 wk fu1 k24_1 = c35) (fun (fu1, k24_1) => fu1) ((wk.length - 0) + 1, 0) ⟨(by first | omega | (simp [-List.getD_eq_getElem?_getD] <;> omega)), (by omega), hc36⟩ ⟨rfl, rfl, rfl, rfl, rfl, trivial⟩ (fun w hw => hw) ?_
    rintro ⟨fu1, k24_1⟩ hJ1
    obtain ⟨hi1_0, hmu1, hL1⟩ : (k24_1 ≤ wk.length) ∧ wk.length - k24_1 < fu1 ∧ F_impl_works_isWork_L1 xc2 wk fu1 k24_1 = c35 := hJ1
    change TC _ _ _ _ (Hp w []) [(0, (.pointer (some ⟨gx, 0, none⟩))), (1, vwk), (22, vwk), (23, (.int .i64 (wk.length : Int))), (24, (.int .i64 (k24_1 : Int)))]
    obtain ⟨mf1, rfl⟩ : ∃ m, fu1 = m + 1 := ⟨fu1 - 1, by omega⟩
    rw [F_impl_works_isWork_L1_s] at hL1
    have hwr := hp0.row k24_1
    have hwe1 := hwe k24_1
    refine TC.seq ?_
    refine TC.region ?_
    refine TL.op (yq (y_lss (ev_t rfl) (ev_t rfl))) rfl rfl rfl ?_
    refine TL.nil ?_
    refine TN.seq ?_
    refine TC.seq ?_
    refine TC.cond (b := decide ((k24_1 : Int) < (wk.length : Int))) (ev_t rfl) (fun h37 => ?_) (fun h37 => ?_)
    · rw [bif_pos h37] at hL1
      have q38 := (of_decide_eq_true h37)
      refine TC.skip ?_
      refine TN.seq ?_
      refine TC.seq ?_
      refine TC.block ?_
      refine TC.seq ?_
      refine TC.region ?_
      refine TL.op (yq (y_move (ev_t rfl))) rfl rfl rfl ?_
      have hb39 : k24_1 < wk.length := (by first | omega | (simp only [List.length_set, List.length_append, List.length_cons, List.length_nil, List.length_replicate]; omega) | (rw [sortI_length]; simp only [List.length_cons, List.length_nil]; omega))
      refine TL.op (yq (y_idx (k := k24_1) (ev_t rfl) (ev_t rfl) (by first | omega | simp) slT_25 (ri_arg hwk) hb39)) rfl rfl rfl ?_
      refine TL.op (yq (y_ldi (ev_t rfl) one_3 (ri_arg hwk) hb39)) rfl rfl rfl ?_
      refine TL.op (yq (y_assign (ev_t rfl))) rfl rfl rfl ?_
      refine TL.op (yq (y_assign (ev_t rfl))) rfl rfl rfl ?_
      refine TL.nil ?_
      refine TN.seq ?_
      refine TC.seq ?_
      refine TC.region ?_
      refine TL.op (yq (y_move (ev_t rfl))) rfl rfl rfl ?_
      refine TL.op (yq (y_len (ev_t rfl) Try.underlying25 (fun w hw => ((ri_arg hwk) w hw).ln))) rfl rfl rfl ?_
      refine TL.op (yq (y_move ev_c)) rfl rfl rfl ?_
      refine TL.nil ?_
      refine TN.seq ?_
      refine TC.block ?_
      obtain ⟨c40, hc41⟩ : ∃ c, F_impl_works_isWork_L2 xc2 wk k24_1 ((wk.length - 0) + 1) 0 = c := ⟨_, rfl⟩
      rw [hc41] at hL1
      refine TC.loop (ι := Nat × Nat) (fun (fu2, k31_2) => [(0, (.pointer (some ⟨gx, 0, none⟩))), (1, vwk), (5, (.int .i64 (k24_1 : Int))), (6, (.int .i64 (wk.getD k24_1 0))), (22, vwk), (23, (.int .i64 (wk.length : Int))), (24, (.int .i64 (k24_1 : Int))), (29, vwk), (30, (.int .i64 (wk.length : Int))), (31, (.int .i64 (k31_2 : Int)))]) (fun (fu2, k31_2) => Hp w []) (fun (fu2, k31_2) => (k31_2 ≤ wk.length) ∧ wk.length - k31_2 < fu2 ∧ F_impl_works_isWork_L2 xc2 wk k24_1 fu2 k31_2 = c40) (fun (fu2, k31_2) => fu2) ((wk.length - 0) + 1, 0) ⟨(by first | omega | (simp [-List.getD_eq_getElem?_getD] <;> omega)), (by omega), hc41⟩ ⟨rfl, rfl, rfl, rfl, rfl, rfl, rfl, rfl, rfl, rfl, trivial⟩ (fun w hw => hw) ?_
      rintro ⟨fu2, k31_2⟩ hJ2
      obtain ⟨hi2_0, hmu2, hL2⟩ : (k31_2 ≤ wk.length) ∧ wk.length - k31_2 < fu2 ∧ F_impl_works_isWork_L2 xc2 wk k24_1 fu2 k31_2 = c40 := hJ2
      change TC _ _ _ _ (Hp w []) [(0, (.pointer (some ⟨gx, 0, none⟩))), (1, vwk), (5, (.int .i64 (k24_1 : Int))), (6, (.int .i64 (wk.getD k24_1 0))), (22, vwk), (23, (.int .i64 (wk.length : Int))), (24, (.int .i64 (k24_1 : Int))), (29, vwk), (30, (.int .i64 (wk.length : Int))), (31, (.int .i64 (k31_2 : Int)))]
      obtain ⟨mf2, rfl⟩ : ∃ m, fu2 = m + 1 := ⟨fu2 - 1, by omega⟩
      rw [F_impl_works_isWork_L2_s] at hL2
      have hwe2 := hwe k31_2
      refine TC.seq ?_
      refine TC.region ?_
      refine TL.op (yq (y_lss (ev_t rfl) (ev_t rfl))) rfl rfl rfl ?_
      refine TL.nil ?_
      refine TN.seq ?_
      refine TC.seq ?_
      refine TC.cond (b := decide ((k31_2 : Int) < (wk.length : Int))) (ev_t rfl) (fun h42 => ?_) (fun h42 => ?_)
      · rw [bif_pos h42] at hL2
        have q43 := (of_decide_eq_true h42)
        refine TC.skip ?_
        refine TN.seq ?_
        refine TC.seq ?_
        refine TC.block ?_
        refine TC.seq ?_
        refine TC.region ?_
        refine TL.op (yq (y_move (ev_t rfl))) rfl rfl rfl ?_
        have hb44 : k31_2 < wk.length := (by first | omega | (simp only [List.length_set, List.length_append, List.length_cons, List.length_nil, List.length_replicate]; omega) | (rw [sortI_length]; simp only [List.length_cons, List.length_nil]; omega))
        refine TL.op (yq (y_idx (k := k31_2) (ev_t rfl) (ev_t rfl) (by first | omega | simp) slT_25 (ri_arg hwk) hb44)) rfl rfl rfl ?_
        refine TL.op (yq (y_ldi (ev_t rfl) one_3 (ri_arg hwk) hb44)) rfl rfl rfl ?_
        refine TL.op (yq (y_assign (ev_t rfl))) rfl rfl rfl ?_
        refine TL.op (yq (y_assign (ev_t rfl))) rfl rfl rfl ?_
        refine TL.nil ?_
        refine TN.seq ?_
        refine TC.seq ?_
        refine TC.region ?_
        refine TL.op (yq (y_move (ev_t rfl))) rfl rfl rfl ?_
        refine TL.op (yq (y_move (ev_t rfl))) rfl rfl rfl ?_
        refine TL.op (yq (y_sub (ev_t rfl) (ev_t rfl) (by unfold In64; omega))) rfl rfl rfl ?_
        refine TL.op (yq (y_move (ev_t rfl))) rfl rfl rfl ?_
        refine TL.op (yq (y_nilp (ev_t rfl))) rfl rfl rfl ?_
        refine TL.op (yq (y_fa (fa_70_2 gx) (ev_t rfl))) rfl rfl rfl ?_
        refine TL.op (yq (y_ldk (ev_t rfl) one_22 hx rfl)) rfl rfl rfl ?_
        refine TL.op (yq (y_move (ev_t rfl))) rfl rfl rfl ?_
        have hb45 : k24_1 < xc2.length := (by first | omega | (simp only [List.length_set, List.length_append, List.length_cons, List.length_nil, List.length_replicate]; omega) | (rw [sortI_length]; simp only [List.length_cons, List.length_nil]; omega))
        refine TL.op (yq (y_idx (k := k24_1) (ev_t rfl) (ev_t rfl) (by first | omega | simp) slT_22 (fun w hw => ((rii_arg hrx2) w hw).1) hb45)) rfl rfl rfl ?_
        have ha46 := hrx2.row (i := k24_1) hb45
        refine TL.op (yq (y_ldA (ev_t rfl) one_25 (rii_arg hrx2) hb45)) rfl rfl rfl ?_
        refine TL.op (yq (y_move (ev_t rfl))) rfl rfl rfl ?_
        have hb47 : k31_2 < (xc2.getD k24_1 []).length := (by first | omega | (simp only [List.length_set, List.length_append, List.length_cons, List.length_nil, List.length_replicate]; omega) | (rw [sortI_length]; simp only [List.length_cons, List.length_nil]; omega))
        refine TL.op (yq (y_idx (k := k31_2) (ev_t rfl) (ev_t rfl) (by first | omega | simp) slT_25 (ri_arg ha46) hb47)) rfl rfl rfl ?_
        refine TL.op (yq (y_ldi (ev_t rfl) one_3 (ri_arg ha46) hb47)) rfl rfl rfl ?_
        refine TL.op (yq (y_gtr (ev_t rfl) (ev_t rfl))) rfl rfl rfl ?_
        refine TL.nil ?_
        refine TN.seq ?_
        refine TC.cond (b := decide (((xc2.getD k24_1 []).getD k31_2 0) < (wk.getD k24_1 0) - (wk.getD k31_2 0))) (ev_t rfl) (fun h48 => ?_) (fun h48 => ?_)
        · rw [bif_pos h48] at hL2
          have q49 := (of_decide_eq_true h48)
          refine TC.seq ?_
          refine TC.region ?_
          refine TL.op (yq (y_assign ev_c)) rfl rfl rfl ?_
          refine TL.nil ?_
          refine TN.seq ?_
          refine TC.ret ?_
          refine TN.blockR ?_
          refine TN.thenR ?_
          refine TN.thenR ?_
          rw [← hL2, elim_ret] at hL1
          refine TN.blockR ?_
          refine TN.blockR ?_
          refine TN.thenR ?_
          refine TN.thenR ?_
          rw [← hL1, elim_ret] at hF
          refine TN.blockR ?_
          refine TN.thenR ?_
          subst hF
          exact TN.ret1 rfl (ev_t rfl) (fun w' hw => ⟨rfl, hw⟩)
        · rw [bif_neg h48] at hL2
          have q49 := (of_decide_eq_false h48)
          refine TC.skip ?_
          refine TN.blockN ?_
          refine TN.seq ?_
          refine TC.region ?_
          refine TL.op (yq (y_add (ev_t rfl) ev_c (by unfold In64; omega))) rfl rfl rfl ?_
          refine TL.op (yq (y_move (ev_t rfl))) rfl rfl rfl ?_
          refine TL.nil ?_
          exact TN.hand (mf2, (k31_2 + 1)) ⟨(by first | omega | (simp [-List.getD_eq_getElem?_getD] <;> omega)), (by omega), hL2⟩ (Nat.lt_succ_self _) ⟨rfl, rfl, rfl, rfl, rfl, rfl, rfl, rfl, rfl, rfl, trivial⟩ (fun w hw => hw)
      · rw [bif_neg h42] at hL2
        have q43 := (of_decide_eq_false h42)
        refine TC.exit ?_
        refine TN.thenE ?_
        refine TN.thenE ?_
        rw [← hL2, elim_next] at hL1
        try dsimp only at hL1
        refine TN.blockH ?_
        refine TN.blockN ?_
        refine TN.seq ?_
        refine TC.region ?_
        refine TL.op (yq (y_add (ev_t rfl) ev_c (by unfold In64; omega))) rfl rfl rfl ?_
        refine TL.op (yq (y_move (ev_t rfl))) rfl rfl rfl ?_
        refine TL.nil ?_
        exact TN.hand (mf1, (k24_1 + 1)) ⟨(by first | omega | (simp [-List.getD_eq_getElem?_getD] <;> omega)), (by omega), hL1⟩ (Nat.lt_succ_self _) ⟨rfl, rfl, rfl, rfl, rfl, trivial⟩ (fun w hw => hw)
    · rw [bif_neg h37] at hL1
      have q38 := (of_decide_eq_false h37)
      refine TC.exit ?_
      refine TN.thenE ?_
      refine TN.thenE ?_
      rw [← hL1, elim_next] at hF
      try dsimp only at hF
      refine TN.blockH ?_
      refine TN.seq ?_
      refine TC.seq ?_
      refine TC.region ?_
      refine TL.op (yq (y_assign ev_c)) rfl rfl rfl ?_
      refine TL.nil ?_
      refine TN.seq ?_
      refine TC.ret ?_
      subst hF
      exact TN.ret1 rfl (ev_t rfl) (fun w' hw => ⟨rfl, hw⟩)

set_option maxRecDepth 4000 in
set_option maxHeartbeats 1000000 in
theorem impl_isKs_ok (w : World) (vm : Value) (um : List Value) (m : List (List Int)) (hm : RII w vm um m) (k : Int)  :
    Calls Try.prog 55 ([(.agg #[vm]), (.int .i64 k)] : List Value).toArray w (Ret (.bool (F_impl_isKs m k)) (Hp w [])) := by
  obtain ⟨rz, hF⟩ : ∃ rz, (F_impl_isKs m k) = rz := ⟨_, rfl⟩
  rw [hF]
  unfold F_impl_isKs at hF
  have hlen_m := argT_len hm
  refine calls_tc Try.func55 rfl rfl rfl ?_
  change TC _ _ _ _ (Hp w []) [(0, (.agg #[vm])), (1, (.int .i64 k))]
  refine TC.seq ?_
  refine TC.region ?_
  refine TL.box (ev_t rfl) rfl (fun g0_0 => ?_)
  refine TL.op (yq (y_assign ev_c)) rfl rfl rfl ?_
  refine TL.nil ?_
  refine TN.seq ?_
  refine TC.seq ?_
  refine TC.region ?_
  refine TL.op (yq (y_ldagg (cs := [vm]) 0 (ev_t rfl) agg_29 rfl)) rfl rfl rfl ?_
  refine TL.op (y_call (vs := [(.agg #[vm])]) (v := (.bool (F_impl_IsMetric m))) en_77 ⟨(ev_t rfl), trivial⟩ (fun w hw => impl_IsMetric_ok w vm um m ((rii_arg hm) w hw))) rfl rfl rfl ?_
  refine TL.op (yq (y_move (ev_t rfl))) rfl rfl rfl ?_
  refine TL.opw (w_t rfl rfl rfl) (fun hg => yq (y_move (ev_t rfl))) rfl rfl ?_
  refine TL.opw (w_t rfl rfl rfl) (fun hg => y_call (vs := [(.int .i64 k)]) (v := (.bool ((decide (1 ≤ k)) && (decide (k ≤ 3))))) en_98 ⟨(ev_g rfl hg), trivial⟩ (fun w hw => impl_isServers_ok w k)) rfl rfl ?_
  refine TL.op (yq (y_and (ev_t rfl) (fun hq => (ev_g rfl hq)))) rfl rfl rfl ?_
  refine TL.op (yq (y_assign (ev_t rfl))) rfl rfl rfl ?_
  refine TL.nil ?_
  refine TN.seq ?_
  refine TC.ret ?_
  subst hF
  exact TN.ret1 rfl (ev_t rfl) (fun w' hw => ⟨rfl, Hp.sublist hw (List.nil_sublist _)⟩)

set_option maxRecDepth 4000 in
set_option maxHeartbeats 1000000 in
theorem impl_worksFor_ok (w : World) (vm : Value) (um : List Value) (m : List (List Int)) (hm : RII w vm um m) (k : Int) (vwk : Value) (wk : List Int) (hwk : RI w vwk wk)  :
    Calls Try.prog 60 ([(.agg #[vm]), (.int .i64 k), vwk] : List Value).toArray w (fun e w' => ∃ i : Nat × Value × Value × List Value × Value × List Value, e = .returned (.tuple #[(wptr ((F_impl_worksFor m k wk).1) i.1), (.bool ((F_impl_worksFor m k wk).2.2.2))]) ∧ Hp w [wblk ((F_impl_worksFor m k wk).1) i.1 70 [i.2.1, i.2.2.1, i.2.2.2.2.1], tabI 25 3 i.2.2.1 i.2.2.2.1 ((F_impl_worksFor m k wk).2.1), tabI 25 3 i.2.2.2.2.1 i.2.2.2.2.2 ((F_impl_worksFor m k wk).2.2.1)] w') := by
  obtain ⟨rz, hF⟩ : ∃ rz, (F_impl_worksFor m k wk) = rz := ⟨_, rfl⟩
  rw [hF]
  unfold F_impl_worksFor at hF
  have hlen_m := argT_len hm
  have hlen_wk := arg_len hwk
  refine calls_tc Try.func60 rfl rfl rfl ?_
  change TC _ _ _ _ (Hp w []) [(0, (.agg #[vm])), (1, (.int .i64 k)), (2, vwk)]
  refine TC.seq ?_
  refine TC.region ?_
  refine TL.box (ev_t rfl) rfl (fun g0_0 => ?_)
  refine TL.op (yq (y_assign ev_c)) rfl rfl rfl ?_
  refine TL.op (yq (y_assign ev_c)) rfl rfl rfl ?_
  refine TL.nil ?_
  refine TN.seq ?_
  refine TC.seq ?_
  refine TC.seq ?_
  refine TC.region ?_
  refine TL.op (yq (y_ldagg (cs := [vm]) 0 (ev_t rfl) agg_29 rfl)) rfl rfl rfl ?_
  refine TL.op (yq (y_move (ev_t rfl))) rfl rfl rfl ?_
  refine TL.op (y_call (vs := [(.agg #[vm]), (.int .i64 k)]) (v := (.bool (F_impl_isKs m k))) en_55 ⟨(ev_t rfl), (ev_t rfl), trivial⟩ (fun w hw => impl_isKs_ok w vm um m ((rii_arg hm) w hw) k)) rfl rfl rfl ?_
  refine TL.op (yq (y_not (ev_t rfl))) rfl rfl rfl ?_
  refine TL.nil ?_
  refine TN.seq ?_
  refine TC.cond (b := !(F_impl_isKs m k)) (ev_t rfl) (fun h3 => ?_) (fun h3 => ?_)
  · rw [bif_pos h3] at hF
    have q4 := (not_t h3)
    refine TC.seq ?_
    refine TC.region ?_
    refine TL.op (yq (y_assign ev_c)) rfl rfl rfl ?_
    refine TL.op (yq (y_assign ev_c)) rfl rfl rfl ?_
    refine TL.nil ?_
    refine TN.seq ?_
    refine TC.ret ?_
    refine TN.thenR ?_
    subst hF
    refine TN.cls (fun w hw => hw.nil 0 1) ?_
    refine TN.cls (fun w hw => hw.nilTab 25 3) ?_
    refine TN.cls (fun w hw => hw.nilTab 25 3) ?_
    exact TN.ret2 rfl (ev_t rfl) (ev_t rfl) (fun w' hw => ⟨(0, (.slice none 0 0), (.slice none 0 0), [], (.slice none 0 0), []), rfl, Hp.picks [2, 1, 0] (by decide) rfl hw⟩)
  · rw [bif_neg h3] at hF
    have q4 := (isKs_t (not_f h3))
    have hKs := q4
    have hWd := hKs.wd
    refine TC.skip ?_
    refine TN.seq ?_
    refine TC.seq ?_
    refine TC.region ?_
    refine TL.op (yq (y_ldagg (cs := [vm]) 0 (ev_t rfl) agg_29 rfl)) rfl rfl rfl ?_
    refine TL.op (yq (y_move (ev_t rfl))) rfl rfl rfl ?_
    refine TL.callr (ι := Nat × Value × Value × List Value × Value × List Value) (vs := [(.agg #[vm]), (.int .i64 k)]) (fun i => (.pointer (some ⟨i.1, 0, none⟩))) (fun i => [.blk i.1 70 [i.2.1, i.2.2.1, i.2.2.2.2.1], tabI 25 3 i.2.2.1 i.2.2.2.1 ((F_impl_worksOf m k).1), tabI 25 3 i.2.2.2.2.1 i.2.2.2.2.2 ((F_impl_worksOf m k).2)]) en_56 ⟨(ev_t rfl), (ev_t rfl), trivial⟩ rfl (fun w hw => impl_worksOf_ok w vm um m ((rii_arg hm) w hw) k (by first | assumption | omega | grind)) (fun r3_2 => ?_)
    refine TL.op (yq (y_assign (ev_t rfl))) rfl rfl rfl ?_
    refine TL.nil ?_
    refine TN.seq ?_
    refine TC.seq ?_
    refine TC.region ?_
    refine TL.op (yq (y_move (ev_t rfl))) rfl rfl rfl ?_
    refine TL.op (yq (y_move (ev_t rfl))) rfl rfl rfl ?_
    refine TL.op (yq (y_move (ev_t rfl))) rfl rfl rfl ?_
    refine TL.op (y_call (vs := [(.pointer (some ⟨r3_2.1, 0, none⟩)), vwk]) (v := (.bool (F_impl_works_isWork ((F_impl_worksOf m k).1) ((F_impl_worksOf m k).2) wk))) en_57 ⟨(ev_t rfl), (ev_t rfl), trivial⟩ (fun w hw => impl_works_isWork_ok w r3_2.1 r3_2.2.1 r3_2.2.2.1 r3_2.2.2.2.1 ((F_impl_worksOf m k).1) r3_2.2.2.2.2.1 r3_2.2.2.2.2.2 ((F_impl_worksOf m k).2) (blk_at 0 rfl hw) ((rii_tab 1 rfl) w hw) ((rii_tab 2 rfl) w hw) vwk wk ((ri_arg hwk) w hw) (by first | assumption | omega | grind))) rfl rfl rfl ?_
    refine TL.op (yq (y_assign (ev_t rfl))) rfl rfl rfl ?_
    refine TL.op (yq (y_assign (ev_t rfl))) rfl rfl rfl ?_
    refine TL.nil ?_
    refine TN.seq ?_
    refine TC.ret ?_
    subst hF
    exact TN.ret2 rfl (ev_t rfl) (ev_t rfl) (fun w' hw => ⟨(r3_2.1, r3_2.2.1, r3_2.2.2.1, r3_2.2.2.2.1, r3_2.2.2.2.2.1, r3_2.2.2.2.2.2), rfl, Hp.sublist hw (.cons_cons _ (.cons_cons _ (.cons_cons _ (.cons _ .slnil))))⟩)

set_option maxRecDepth 4000 in
set_option maxHeartbeats 1000000 in
theorem spec_l7Asked_ok (w : World) (vm : Value) (um : List Value) (m : List (List Int)) (hm : RII w vm um m) (k : Int)  :
    Calls Try.prog 52 ([(.agg #[vm]), (.int .i64 k)] : List Value).toArray w (Ret (.bool (F_spec_l7Asked m k)) (Hp w [])) := by
  obtain ⟨rz, hF⟩ : ∃ rz, (F_spec_l7Asked m k) = rz := ⟨_, rfl⟩
  rw [hF]
  unfold F_spec_l7Asked at hF
  have hlen_m := argT_len hm
  refine calls_tc Try.func52 rfl rfl rfl ?_
  change TC _ _ _ _ (Hp w []) [(0, (.agg #[vm])), (1, (.int .i64 k))]
  refine TC.seq ?_
  refine TC.region ?_
  refine TL.box (ev_t rfl) rfl (fun g0_0 => ?_)
  refine TL.op (yq (y_assign ev_c)) rfl rfl rfl ?_
  refine TL.nil ?_
  refine TN.seq ?_
  refine TC.seq ?_
  refine TC.region ?_
  refine TL.op (yq (y_ldagg (cs := [vm]) 0 (ev_t rfl) agg_29 rfl)) rfl rfl rfl ?_
  refine TL.op (y_call (vs := [(.agg #[vm])]) (v := (.bool (F_spec_l6Good m))) en_64 ⟨(ev_t rfl), trivial⟩ (fun w hw => spec_l6Good_ok w vm um m ((rii_arg hm) w hw))) rfl rfl rfl ?_
  refine TL.op (yq (y_move (ev_t rfl))) rfl rfl rfl ?_
  refine TL.opw (w_t rfl rfl rfl) (fun hg => yq (y_move (ev_t rfl))) rfl rfl ?_
  refine TL.opw (w_t rfl rfl rfl) (fun hg => y_call (vs := [(.int .i64 k), (.int .i64 1), (.int .i64 3)]) (v := (.bool ((decide (1 ≤ k)) && (decide (k ≤ 3))))) en_96 ⟨(ev_g rfl hg), ev_c, ev_c, trivial⟩ (fun w hw => spec_l1In_ok w k 1 3)) rfl rfl ?_
  refine TL.op (yq (y_and (ev_t rfl) (fun hq => (ev_g rfl hq)))) rfl rfl rfl ?_
  refine TL.op (yq (y_assign (ev_t rfl))) rfl rfl rfl ?_
  refine TL.nil ?_
  refine TN.seq ?_
  refine TC.ret ?_
  subst hF
  exact TN.ret1 rfl (ev_t rfl) (fun w' hw => ⟨rfl, Hp.sublist hw (List.nil_sublist _)⟩)

set_option maxRecDepth 4000 in
set_option maxHeartbeats 1000000 in
theorem spec_l7Work_ok (w : World) (vm : Value) (um : List Value) (m : List (List Int)) (hm : RII w vm um m) (vconfigs : Value) (uconfigs : List Value) (configs : List (List Int)) (hconfigs : RII w vconfigs uconfigs configs) (vwk : Value) (wk : List Int) (hwk : RI w vwk wk) (hp0 : Ksc m configs) :
    Calls Try.prog 53 ([(.agg #[vm]), vconfigs, vwk] : List Value).toArray w (Ret (.bool (F_spec_l7Work m configs wk)) (Hp w [])) := by
  obtain ⟨rz, hF⟩ : ∃ rz, (F_spec_l7Work m configs wk) = rz := ⟨_, rfl⟩
  rw [hF]
  unfold F_spec_l7Work at hF
  have hTab := hp0.tab
  have hn56 := hp0.n56
  have hlen_m := argT_len hm
  have hlen_configs := argT_len hconfigs
  have hlen_wk := arg_len hwk
  refine calls_tc Try.func53 rfl rfl rfl ?_
  change TC _ _ _ _ (Hp w []) [(0, (.agg #[vm])), (1, vconfigs), (2, vwk)]
  refine TC.seq ?_
  refine TC.region ?_
  refine TL.box (ev_t rfl) rfl (fun g0_0 => ?_)
  refine TL.op (yq (y_assign ev_c)) rfl rfl rfl ?_
  refine TL.nil ?_
  refine TN.seq ?_
  refine TC.seq ?_
  refine TC.seq ?_
  refine TC.region ?_
  refine TL.op (yq (y_move (ev_t rfl))) rfl rfl rfl ?_
  refine TL.op (yq (y_len (ev_t rfl) Try.underlying25 (fun w hw => ((ri_arg hwk) w hw).ln))) rfl rfl rfl ?_
  refine TL.op (yq (y_move (ev_t rfl))) rfl rfl rfl ?_
  refine TL.op (yq (y_len (ev_t rfl) Try.underlying22 (fun w hw => ((fun w hw => ((rii_arg hconfigs) w hw).1) w hw).ln))) rfl rfl rfl ?_
  refine TL.op (yq (y_neq (ev_t rfl) (ev_t rfl))) rfl rfl rfl ?_
  refine TL.nil ?_
  refine TN.seq ?_
  refine TC.cond (b := !decide ((wk.length : Int) = (configs.length : Int))) (ev_t rfl) (fun h53 => ?_) (fun h53 => ?_)
  · rw [bif_pos h53] at hF
    have q54 := (of_decide_eq_false (not_t h53))
    refine TC.seq ?_
    refine TC.region ?_
    refine TL.op (yq (y_assign ev_c)) rfl rfl rfl ?_
    refine TL.nil ?_
    refine TN.seq ?_
    refine TC.ret ?_
    refine TN.thenR ?_
    subst hF
    exact TN.ret1 rfl (ev_t rfl) (fun w' hw => ⟨rfl, Hp.sublist hw (List.nil_sublist _)⟩)
  · rw [bif_neg h53] at hF
    have q54 := (of_decide_eq_true (not_f h53))
    refine TC.skip ?_
    refine TN.seq ?_
    refine TC.seq ?_
    refine TC.seq ?_
    refine TC.region ?_
    refine TL.op (yq (y_assign ev_c)) rfl rfl rfl ?_
    refine TL.nil ?_
    refine TN.seq ?_
    refine TC.block ?_
    obtain ⟨c55, hc56⟩ : ∃ c, F_spec_l7Work_L1 wk ((wk.length - 0) + 1) 0 = c := ⟨_, rfl⟩
    rw [hc56] at hF
    refine TC.loop (ι := Nat × Nat) (fun (fu1, k7_1) => [(1, vconfigs), (2, vwk), (3, (.pointer (some ⟨g0_0, 0, none⟩))), (7, (.int .i64 (k7_1 : Int)))]) (fun (fu1, k7_1) => Hp w [.blk g0_0 29 [vm]]) (fun (fu1, k7_1) => (k7_1 ≤ wk.length) ∧ (∀ j, j < k7_1 → 0 ≤ wk.getD j 0 ∧ wk.getD j 0 ≤ 99999) ∧ wk.length - k7_1 < fu1 ∧ F_spec_l7Work_L1 wk fu1 k7_1 = c55) (fun (fu1, k7_1) => fu1) ((wk.length - 0) + 1, 0) ⟨(by first | omega | (simp [-List.getD_eq_getElem?_getD] <;> omega)), (fun j hj => by omega), (by omega), hc56⟩ ⟨rfl, rfl, rfl, rfl, trivial⟩ (fun w hw => hw) ?_
    rintro ⟨fu1, k7_1⟩ hJ1
    obtain ⟨hi1_0, hi1_1, hmu1, hL1⟩ : (k7_1 ≤ wk.length) ∧ (∀ j, j < k7_1 → 0 ≤ wk.getD j 0 ∧ wk.getD j 0 ≤ 99999) ∧ wk.length - k7_1 < fu1 ∧ F_spec_l7Work_L1 wk fu1 k7_1 = c55 := hJ1
    change TC _ _ _ _ (Hp w [.blk g0_0 29 [vm]]) [(1, vconfigs), (2, vwk), (3, (.pointer (some ⟨g0_0, 0, none⟩))), (7, (.int .i64 (k7_1 : Int)))]
    obtain ⟨mf1, rfl⟩ : ∃ m, fu1 = m + 1 := ⟨fu1 - 1, by omega⟩
    rw [F_spec_l7Work_L1_s] at hL1
    refine TC.seq ?_
    refine TC.seq ?_
    refine TC.region ?_
    refine TL.op (yq (y_move (ev_t rfl))) rfl rfl rfl ?_
    refine TL.op (yq (y_move (ev_t rfl))) rfl rfl rfl ?_
    refine TL.op (yq (y_len (ev_t rfl) Try.underlying25 (fun w hw => ((ri_arg hwk) w hw).ln))) rfl rfl rfl ?_
    refine TL.op (yq (y_lss (ev_t rfl) (ev_t rfl))) rfl rfl rfl ?_
    refine TL.nil ?_
    refine TN.seq ?_
    refine TC.cond (b := decide ((k7_1 : Int) < (wk.length : Int))) (ev_t rfl) (fun h57 => ?_) (fun h57 => ?_)
    · rw [bif_pos h57] at hL1
      have q58 := (of_decide_eq_true h57)
      refine TC.skip ?_
      refine TN.seq ?_
      refine TC.seq ?_
      refine TC.block ?_
      refine TC.seq ?_
      refine TC.region ?_
      refine TL.op (yq (y_move (ev_t rfl))) rfl rfl rfl ?_
      refine TL.op (yq (y_move (ev_t rfl))) rfl rfl rfl ?_
      have hb59 : k7_1 < wk.length := (by first | omega | (simp only [List.length_set, List.length_append, List.length_cons, List.length_nil, List.length_replicate]; omega) | (rw [sortI_length]; simp only [List.length_cons, List.length_nil]; omega))
      refine TL.op (yq (y_idx (k := k7_1) (ev_t rfl) (ev_t rfl) (by first | omega | simp) slT_25 (ri_arg hwk) hb59)) rfl rfl rfl ?_
      refine TL.op (yq (y_ldi (ev_t rfl) one_3 (ri_arg hwk) hb59)) rfl rfl rfl ?_
      refine TL.op (y_call (vs := [(.int .i64 (wk.getD k7_1 0)), (.int .i64 0), (.int .i64 99999)]) (v := (.bool ((decide (0 ≤ (wk.getD k7_1 0))) && (decide ((wk.getD k7_1 0) ≤ 99999))))) en_96 ⟨(ev_t rfl), ev_c, ev_c, trivial⟩ (fun w hw => spec_l1In_ok w (wk.getD k7_1 0) 0 99999)) rfl rfl rfl ?_
      refine TL.op (yq (y_not (ev_t rfl))) rfl rfl rfl ?_
      refine TL.nil ?_
      refine TN.seq ?_
      refine TC.cond (b := !((decide (0 ≤ (wk.getD k7_1 0))) && (decide ((wk.getD k7_1 0) ≤ 99999)))) (ev_t rfl) (fun h60 => ?_) (fun h60 => ?_)
      · rw [bif_pos h60] at hL1
        have q61 := ((and_f (not_t h60)).imp (fun h => (of_decide_eq_false h)) (fun h => (of_decide_eq_false h)))
        refine TC.seq ?_
        refine TC.region ?_
        refine TL.op (yq (y_assign ev_c)) rfl rfl rfl ?_
        refine TL.nil ?_
        refine TN.seq ?_
        refine TC.ret ?_
        refine TN.blockR ?_
        refine TN.thenR ?_
        refine TN.thenR ?_
        rw [← hL1, elim_ret] at hF
        refine TN.blockR ?_
        refine TN.thenR ?_
        subst hF
        exact TN.ret1 rfl (ev_t rfl) (fun w' hw => ⟨rfl, Hp.sublist hw (List.nil_sublist _)⟩)
      · rw [bif_neg h60] at hL1
        have q61 := (and_imp (and_t (not_f h60)) (fun h => (of_decide_eq_true h)) (fun h => (of_decide_eq_true h)))
        refine TC.skip ?_
        refine TN.blockN ?_
        refine TN.seq ?_
        refine TC.region ?_
        refine TL.op (yq (y_move (ev_t rfl))) rfl rfl rfl ?_
        refine TL.op (yq (y_add (ev_t rfl) ev_c (by unfold In64; omega))) rfl rfl rfl ?_
        refine TL.op (yq (y_assign (ev_t rfl))) rfl rfl rfl ?_
        refine TL.nil ?_
        exact TN.hand (mf1, (k7_1 + 1)) ⟨(by first | omega | (simp [-List.getD_eq_getElem?_getD] <;> omega)), (upto_succ hi1_1 (by omega)), (by omega), hL1⟩ (Nat.lt_succ_self _) ⟨rfl, rfl, rfl, rfl, trivial⟩ (fun w hw => hw)
    · rw [bif_neg h57] at hL1
      have q58 := (of_decide_eq_false h57)
      refine TC.exit ?_
      refine TN.thenE ?_
      refine TN.thenE ?_
      rw [← hL1, elim_next] at hF
      try dsimp only at hF
      have hwe : ∀ i, i < wk.length → 0 ≤ wk.getD i 0 ∧ wk.getD i 0 ≤ 99999 := fun i hi => hi1_1 i (by omega)
      refine TN.blockH ?_
      refine TN.seq ?_
      refine TC.seq ?_
      refine TC.seq ?_
      refine TC.region ?_
      refine TL.op (yq (y_assign ev_c)) rfl rfl rfl ?_
      refine TL.nil ?_
      refine TN.seq ?_
      refine TC.block ?_
      obtain ⟨c62, hc63⟩ : ∃ c, F_spec_l7Work_L2 m configs wk ((wk.length - 0) + 1) 0 = c := ⟨_, rfl⟩
      rw [hc63] at hF
      refine TC.loop (ι := Nat × Nat) (fun (fu2, k8_2) => [(1, vconfigs), (2, vwk), (3, (.pointer (some ⟨g0_0, 0, none⟩))), (8, (.int .i64 (k8_2 : Int)))]) (fun (fu2, k8_2) => Hp w [.blk g0_0 29 [vm]]) (fun (fu2, k8_2) => (k8_2 ≤ wk.length) ∧ wk.length - k8_2 < fu2 ∧ F_spec_l7Work_L2 m configs wk fu2 k8_2 = c62) (fun (fu2, k8_2) => fu2) ((wk.length - 0) + 1, 0) ⟨(by first | omega | (simp [-List.getD_eq_getElem?_getD] <;> omega)), (by omega), hc63⟩ ⟨rfl, rfl, rfl, rfl, trivial⟩ (fun w hw => hw) ?_
      rintro ⟨fu2, k8_2⟩ hJ2
      obtain ⟨hi2_0, hmu2, hL2⟩ : (k8_2 ≤ wk.length) ∧ wk.length - k8_2 < fu2 ∧ F_spec_l7Work_L2 m configs wk fu2 k8_2 = c62 := hJ2
      change TC _ _ _ _ (Hp w [.blk g0_0 29 [vm]]) [(1, vconfigs), (2, vwk), (3, (.pointer (some ⟨g0_0, 0, none⟩))), (8, (.int .i64 (k8_2 : Int)))]
      obtain ⟨mf2, rfl⟩ : ∃ m, fu2 = m + 1 := ⟨fu2 - 1, by omega⟩
      rw [F_spec_l7Work_L2_s] at hL2
      have hwa := hwe k8_2
      have hca := hp0.cf k8_2
      refine TC.seq ?_
      refine TC.seq ?_
      refine TC.region ?_
      refine TL.op (yq (y_move (ev_t rfl))) rfl rfl rfl ?_
      refine TL.op (yq (y_move (ev_t rfl))) rfl rfl rfl ?_
      refine TL.op (yq (y_len (ev_t rfl) Try.underlying25 (fun w hw => ((ri_arg hwk) w hw).ln))) rfl rfl rfl ?_
      refine TL.op (yq (y_lss (ev_t rfl) (ev_t rfl))) rfl rfl rfl ?_
      refine TL.nil ?_
      refine TN.seq ?_
      refine TC.cond (b := decide ((k8_2 : Int) < (wk.length : Int))) (ev_t rfl) (fun h64 => ?_) (fun h64 => ?_)
      · rw [bif_pos h64] at hL2
        have q65 := (of_decide_eq_true h64)
        refine TC.skip ?_
        refine TN.seq ?_
        refine TC.seq ?_
        refine TC.block ?_
        refine TC.seq ?_
        refine TC.region ?_
        refine TL.op (yq (y_assign ev_c)) rfl rfl rfl ?_
        refine TL.nil ?_
        refine TN.seq ?_
        refine TC.block ?_
        obtain ⟨c66, hc67⟩ : ∃ c, F_spec_l7Work_L3 m configs wk k8_2 ((k8_2 - 0) + 1) 0 = c := ⟨_, rfl⟩
        rw [hc67] at hL2
        refine TC.loop (ι := Nat × Nat) (fun (fu3, k9_3) => [(1, vconfigs), (2, vwk), (3, (.pointer (some ⟨g0_0, 0, none⟩))), (8, (.int .i64 (k8_2 : Int))), (9, (.int .i64 (k9_3 : Int)))]) (fun (fu3, k9_3) => Hp w [.blk g0_0 29 [vm]]) (fun (fu3, k9_3) => (k9_3 ≤ k8_2) ∧ k8_2 - k9_3 < fu3 ∧ F_spec_l7Work_L3 m configs wk k8_2 fu3 k9_3 = c66) (fun (fu3, k9_3) => fu3) ((k8_2 - 0) + 1, 0) ⟨(by first | omega | (simp [-List.getD_eq_getElem?_getD] <;> omega)), (by omega), hc67⟩ ⟨rfl, rfl, rfl, rfl, rfl, trivial⟩ (fun w hw => hw) ?_
        rintro ⟨fu3, k9_3⟩ hJ3
        obtain ⟨hi3_0, hmu3, hL3⟩ : (k9_3 ≤ k8_2) ∧ k8_2 - k9_3 < fu3 ∧ F_spec_l7Work_L3 m configs wk k8_2 fu3 k9_3 = c66 := hJ3
        change TC _ _ _ _ (Hp w [.blk g0_0 29 [vm]]) [(1, vconfigs), (2, vwk), (3, (.pointer (some ⟨g0_0, 0, none⟩))), (8, (.int .i64 (k8_2 : Int))), (9, (.int .i64 (k9_3 : Int)))]
        obtain ⟨mf3, rfl⟩ : ∃ m, fu3 = m + 1 := ⟨fu3 - 1, by omega⟩
        rw [F_spec_l7Work_L3_s] at hL3
        have hwb := hwe k9_3
        have hcb := hp0.cf k9_3
        have hcl := hp0.eq k8_2 k9_3
        refine TC.seq ?_
        refine TC.seq ?_
        refine TC.region ?_
        refine TL.op (yq (y_move (ev_t rfl))) rfl rfl rfl ?_
        refine TL.op (yq (y_move (ev_t rfl))) rfl rfl rfl ?_
        refine TL.op (yq (y_lss (ev_t rfl) (ev_t rfl))) rfl rfl rfl ?_
        refine TL.nil ?_
        refine TN.seq ?_
        refine TC.cond (b := decide ((k9_3 : Int) < (k8_2 : Int))) (ev_t rfl) (fun h68 => ?_) (fun h68 => ?_)
        · rw [bif_pos h68] at hL3
          have q69 := (of_decide_eq_true h68)
          refine TC.skip ?_
          refine TN.seq ?_
          refine TC.seq ?_
          refine TC.block ?_
          refine TC.seq ?_
          refine TC.regionQ (by kernel_rfl) (by kernel_rfl) dr_hp ?_
          refine TQ.op (yq (y_move (ev_t rfl))) rfl rfl rfl ?_
          refine TQ.op (yq (y_move (ev_t rfl))) rfl rfl rfl ?_
          have hb70 : k8_2 < wk.length := (by first | omega | (simp only [List.length_set, List.length_append, List.length_cons, List.length_nil, List.length_replicate]; omega) | (rw [sortI_length]; simp only [List.length_cons, List.length_nil]; omega))
          refine TQ.op (yq (y_idx (k := k8_2) (ev_t rfl) (ev_t rfl) (by first | omega | simp) slT_25 (ri_arg hwk) hb70)) rfl rfl rfl ?_
          refine TQ.op (yq (y_ldi (ev_t rfl) one_3 (ri_arg hwk) hb70)) rfl rfl rfl ?_
          refine TQ.op (yq (y_move (ev_t rfl))) rfl rfl rfl ?_
          refine TQ.op (yq (y_move (ev_t rfl))) rfl rfl rfl ?_
          have hb71 : k9_3 < wk.length := (by first | omega | (simp only [List.length_set, List.length_append, List.length_cons, List.length_nil, List.length_replicate]; omega) | (rw [sortI_length]; simp only [List.length_cons, List.length_nil]; omega))
          refine TQ.op (yq (y_idx (k := k9_3) (ev_t rfl) (ev_t rfl) (by first | omega | simp) slT_25 (ri_arg hwk) hb71)) rfl rfl rfl ?_
          refine TQ.op (yq (y_ldi (ev_t rfl) one_3 (ri_arg hwk) hb71)) rfl rfl rfl ?_
          refine TQ.op (yq (y_sub (ev_t rfl) (ev_t rfl) (by unfold In64; omega))) rfl rfl rfl ?_
          refine TQ.op (yq (y_move (ev_t rfl))) rfl rfl rfl ?_
          refine TQ.op (yq (y_move (ev_t rfl))) rfl rfl rfl ?_
          have hb72 : k9_3 < wk.length := (by first | omega | (simp only [List.length_set, List.length_append, List.length_cons, List.length_nil, List.length_replicate]; omega) | (rw [sortI_length]; simp only [List.length_cons, List.length_nil]; omega))
          refine TQ.op (yq (y_idx (k := k9_3) (ev_t rfl) (ev_t rfl) (by first | omega | simp) slT_25 (ri_arg hwk) hb72)) rfl rfl rfl ?_
          refine TQ.op (yq (y_ldi (ev_t rfl) one_3 (ri_arg hwk) hb72)) rfl rfl rfl ?_
          refine TQ.op (yq (y_move (ev_t rfl))) rfl rfl rfl ?_
          refine TQ.op (yq (y_move (ev_t rfl))) rfl rfl rfl ?_
          have hb73 : k8_2 < wk.length := (by first | omega | (simp only [List.length_set, List.length_append, List.length_cons, List.length_nil, List.length_replicate]; omega) | (rw [sortI_length]; simp only [List.length_cons, List.length_nil]; omega))
          refine TQ.op (yq (y_idx (k := k8_2) (ev_t rfl) (ev_t rfl) (by first | omega | simp) slT_25 (ri_arg hwk) hb73)) rfl rfl rfl ?_
          refine TQ.op (yq (y_ldi (ev_t rfl) one_3 (ri_arg hwk) hb73)) rfl rfl rfl ?_
          refine TQ.op (yq (y_sub (ev_t rfl) (ev_t rfl) (by unfold In64; omega))) rfl rfl rfl ?_
          refine TQ.op (y_call (vs := [(.int .i64 ((wk.getD k8_2 0) - (wk.getD k9_3 0))), (.int .i64 ((wk.getD k9_3 0) - (wk.getD k8_2 0)))]) (v := (.int .i64 (F_spec_l1Most ((wk.getD k8_2 0) - (wk.getD k9_3 0)) ((wk.getD k9_3 0) - (wk.getD k8_2 0))))) en_97 ⟨(ev_t rfl), (ev_t rfl), trivial⟩ (fun w hw => spec_l1Most_ok w ((wk.getD k8_2 0) - (wk.getD k9_3 0)) ((wk.getD k9_3 0) - (wk.getD k8_2 0)))) rfl rfl rfl ?_
          refine TQ.op (yq (y_ldagg (cs := [vm]) 0 (ev_t rfl) agg_29 rfl)) rfl rfl rfl ?_
          refine TQ.op (yq (y_move (ev_t rfl))) rfl rfl rfl ?_
          refine TQ.op (yq (y_move (ev_t rfl))) rfl rfl rfl ?_
          have hb74 : k8_2 < configs.length := (by first | omega | (simp only [List.length_set, List.length_append, List.length_cons, List.length_nil, List.length_replicate]; omega) | (rw [sortI_length]; simp only [List.length_cons, List.length_nil]; omega))
          refine TQ.op (yq (y_idx (k := k8_2) (ev_t rfl) (ev_t rfl) (by first | omega | simp) slT_22 (fun w hw => ((rii_arg hconfigs) w hw).1) hb74)) rfl rfl rfl ?_
          have ha75 := hconfigs.row (i := k8_2) hb74
          refine TQ.op (yq (y_ldA (ev_t rfl) one_25 (rii_arg hconfigs) hb74)) rfl rfl rfl ?_
          refine TQ.op (yq (y_move (ev_t rfl))) rfl rfl rfl ?_
          refine TQ.op (yq (y_move (ev_t rfl))) rfl rfl rfl ?_
          have hb76 : k9_3 < configs.length := (by first | omega | (simp only [List.length_set, List.length_append, List.length_cons, List.length_nil, List.length_replicate]; omega) | (rw [sortI_length]; simp only [List.length_cons, List.length_nil]; omega))
          refine TQ.op (yq (y_idx (k := k9_3) (ev_t rfl) (ev_t rfl) (by first | omega | simp) slT_22 (fun w hw => ((rii_arg hconfigs) w hw).1) hb76)) rfl rfl rfl ?_
          have ha77 := hconfigs.row (i := k9_3) hb76
          refine TQ.op (yq (y_ldA (ev_t rfl) one_25 (rii_arg hconfigs) hb76)) rfl rfl rfl ?_
          refine TQ.op (y_call (vs := [(.agg #[vm]), (uconfigs.getD k8_2 undef), (uconfigs.getD k9_3 undef)]) (v := (.int .i64 (F_spec_l6Move m (configs.getD k8_2 []) (configs.getD k9_3 [])))) en_76 ⟨(ev_t rfl), (ev_t rfl), (ev_t rfl), trivial⟩ (fun w hw => spec_l6Move_ok w vm um m ((rii_arg hm) w hw) (uconfigs.getD k8_2 undef) (configs.getD k8_2 []) ((ri_arg ha75) w hw) (uconfigs.getD k9_3 undef) (configs.getD k9_3 []) ((ri_arg ha77) w hw) (by first | assumption | omega | grind) (by first | assumption | omega | grind) (by first | assumption | omega | grind) (by first | assumption | omega | grind))) rfl rfl rfl ?_
          refine TQ.op (yq (y_gtr (ev_t rfl) (ev_t rfl))) rfl rfl rfl ?_
          refine TQ.nil ?_
          refine TN.seq ?_
          refine TC.cond (b := decide ((F_spec_l6Move m (configs.getD k8_2 []) (configs.getD k9_3 [])) < (F_spec_l1Most ((wk.getD k8_2 0) - (wk.getD k9_3 0)) ((wk.getD k9_3 0) - (wk.getD k8_2 0))))) (ev_t rfl) (fun h78 => ?_) (fun h78 => ?_)
          · rw [bif_pos h78] at hL3
            have q79 := (of_decide_eq_true h78)
            refine TC.seq ?_
            refine TC.region ?_
            refine TL.op (yq (y_assign ev_c)) rfl rfl rfl ?_
            refine TL.nil ?_
            refine TN.seq ?_
            refine TC.ret ?_
            refine TN.blockR ?_
            refine TN.thenR ?_
            refine TN.thenR ?_
            rw [← hL3, elim_ret] at hL2
            refine TN.blockR ?_
            refine TN.blockR ?_
            refine TN.thenR ?_
            refine TN.thenR ?_
            rw [← hL2, elim_ret] at hF
            refine TN.blockR ?_
            refine TN.thenR ?_
            subst hF
            exact TN.ret1 rfl (ev_t rfl) (fun w' hw => ⟨rfl, Hp.sublist hw (List.nil_sublist _)⟩)
          · rw [bif_neg h78] at hL3
            have q79 := (of_decide_eq_false h78)
            refine TC.skip ?_
            refine TN.blockN ?_
            refine TN.seq ?_
            refine TC.region ?_
            refine TL.op (yq (y_move (ev_t rfl))) rfl rfl rfl ?_
            refine TL.op (yq (y_add (ev_t rfl) ev_c (by unfold In64; omega))) rfl rfl rfl ?_
            refine TL.op (yq (y_assign (ev_t rfl))) rfl rfl rfl ?_
            refine TL.nil ?_
            exact TN.hand (mf3, (k9_3 + 1)) ⟨(by first | omega | (simp [-List.getD_eq_getElem?_getD] <;> omega)), (by omega), hL3⟩ (Nat.lt_succ_self _) ⟨rfl, rfl, rfl, rfl, rfl, trivial⟩ (fun w hw => hw)
        · rw [bif_neg h68] at hL3
          have q69 := (of_decide_eq_false h68)
          refine TC.exit ?_
          refine TN.thenE ?_
          refine TN.thenE ?_
          rw [← hL3, elim_next] at hL2
          try dsimp only at hL2
          refine TN.blockH ?_
          refine TN.blockN ?_
          refine TN.seq ?_
          refine TC.region ?_
          refine TL.op (yq (y_move (ev_t rfl))) rfl rfl rfl ?_
          refine TL.op (yq (y_add (ev_t rfl) ev_c (by unfold In64; omega))) rfl rfl rfl ?_
          refine TL.op (yq (y_assign (ev_t rfl))) rfl rfl rfl ?_
          refine TL.nil ?_
          exact TN.hand (mf2, (k8_2 + 1)) ⟨(by first | omega | (simp [-List.getD_eq_getElem?_getD] <;> omega)), (by omega), hL2⟩ (Nat.lt_succ_self _) ⟨rfl, rfl, rfl, rfl, trivial⟩ (fun w hw => hw)
      · rw [bif_neg h64] at hL2
        have q65 := (of_decide_eq_false h64)
        refine TC.exit ?_
        refine TN.thenE ?_
        refine TN.thenE ?_
        rw [← hL2, elim_next] at hF
        try dsimp only at hF
        refine TN.blockH ?_
        refine TN.seq ?_
        refine TC.seq ?_
        refine TC.region ?_
        refine TL.op (yq (y_assign ev_c)) rfl rfl rfl ?_
        refine TL.nil ?_
        refine TN.seq ?_
        refine TC.ret ?_
        subst hF
        exact TN.ret1 rfl (ev_t rfl) (fun w' hw => ⟨rfl, Hp.sublist hw (List.nil_sublist _)⟩)

set_option maxRecDepth 4000 in
set_option maxHeartbeats 1000000 in
theorem impl_SupportOf_ok (w : World) (vm : Value) (um : List Value) (m : List (List Int)) (hm : RII w vm um m) (k : Int) (vwk : Value) (wk : List Int) (hwk : RI w vwk wk)  :
    Calls Try.prog 28 ([(.agg #[vm]), (.int .i64 k), vwk] : List Value).toArray w (fun e w' => ∃ i : Value × List Value, e = .returned (.tuple #[i.1, (.bool ((F_impl_SupportOf m k wk).2))]) ∧ Hp w [tabI 25 3 i.1 i.2 ((F_impl_SupportOf m k wk).1)] w') := by
  obtain ⟨rz, hF⟩ : ∃ rz, (F_impl_SupportOf m k wk) = rz := ⟨_, rfl⟩
  rw [hF]
  unfold F_impl_SupportOf at hF
  have hlen_m := argT_len hm
  have hlen_wk := arg_len hwk
  refine calls_tc Try.func28 rfl rfl rfl ?_
  change TC _ _ _ _ (Hp w []) [(0, (.agg #[vm])), (1, (.int .i64 k)), (2, vwk)]
  refine TC.seq ?_
  refine TC.region ?_
  refine TL.box (ev_t rfl) rfl (fun g0_0 => ?_)
  refine TL.op (yq (y_assign ev_c)) rfl rfl rfl ?_
  refine TL.op (yq (y_assign ev_c)) rfl rfl rfl ?_
  refine TL.nil ?_
  refine TN.seq ?_
  refine TC.seq ?_
  refine TC.region ?_
  refine TL.op (yq (y_ldagg (cs := [vm]) 0 (ev_t rfl) agg_29 rfl)) rfl rfl rfl ?_
  refine TL.op (yq (y_move (ev_t rfl))) rfl rfl rfl ?_
  refine TL.op (yq (y_move (ev_t rfl))) rfl rfl rfl ?_
  refine TL.callr (ι := Nat × Value × Value × List Value × Value × List Value) (vs := [(.agg #[vm]), (.int .i64 k), vwk]) (fun i => (.tuple #[(wptr ((F_impl_worksFor m k wk).1) i.1), (.bool ((F_impl_worksFor m k wk).2.2.2))])) (fun i => [wblk ((F_impl_worksFor m k wk).1) i.1 70 [i.2.1, i.2.2.1, i.2.2.2.2.1], tabI 25 3 i.2.2.1 i.2.2.2.1 ((F_impl_worksFor m k wk).2.1), tabI 25 3 i.2.2.2.2.1 i.2.2.2.2.2 ((F_impl_worksFor m k wk).2.2.1)]) en_60 ⟨(ev_t rfl), (ev_t rfl), (ev_t rfl), trivial⟩ rfl (fun w hw => impl_worksFor_ok w vm um m ((rii_arg hm) w hw) k vwk wk ((ri_arg hwk) w hw)) (fun r1_3 => ?_)
  refine TL.op (yq (y_move (ev_t rfl))) rfl rfl rfl ?_
  refine TL.op (yq (y_extract (ev_t rfl) rfl)) rfl rfl rfl ?_
  refine TL.op (yq (y_extract (ev_t rfl) rfl)) rfl rfl rfl ?_
  refine TL.op (yq (y_assign (ev_t rfl))) rfl rfl rfl ?_
  refine TL.op (yq (y_assign (ev_t rfl))) rfl rfl rfl ?_
  refine TL.nil ?_
  refine TN.seq ?_
  refine TC.seq ?_
  refine TC.seq ?_
  refine TC.region ?_
  refine TL.op (yq (y_move (ev_t rfl))) rfl rfl rfl ?_
  refine TL.op (yq (y_not (ev_t rfl))) rfl rfl rfl ?_
  refine TL.nil ?_
  refine TN.seq ?_
  refine TC.cond (b := !((F_impl_worksFor m k wk).2.2.2)) (ev_t rfl) (fun h19 => ?_) (fun h19 => ?_)
  · rw [bif_pos h19] at hF
    have q20 := (not_t h19)
    refine TC.seq ?_
    refine TC.region ?_
    refine TL.op (yq (y_assign ev_c)) rfl rfl rfl ?_
    refine TL.op (yq (y_assign ev_c)) rfl rfl rfl ?_
    refine TL.nil ?_
    refine TN.seq ?_
    refine TC.ret ?_
    refine TN.thenR ?_
    subst hF
    refine TN.cls (fun w hw => hw.nilTab 25 3) ?_
    exact TN.ret2 rfl (ev_t rfl) (ev_t rfl) (fun w' hw => ⟨((.slice none 0 0), []), rfl, Hp.sublist hw (.cons_cons _ (.cons _ (.cons _ (.cons _ (.cons _ .slnil)))))⟩)
  · rw [bif_neg h19] at hF
    have q20 := (worksFor_t (not_f h19))
    have hWf := q20
    rw [wptr_t hWf.b, wblk_t hWf.b]
    have hWd := hWf.wd
    have hwl := hWf.len
    have hwe := hWf.el
    have h56 := hWd.n56
    have hdl := hWd.len
    refine TC.skip ?_
    refine TN.seq ?_
    refine TC.seq ?_
    refine TC.region ?_
    refine TL.buildSlice (zs := []) (vs := []) slT_22 rfl trivial (by simp) rfl (by decide) rfl (fun v4_0 => ?_)
    refine TL.cls (fun w hw => hw.emptyTab 3) ?_
    refine TL.op (yq (y_assign (ev_t rfl))) rfl rfl rfl ?_
    refine TL.nil ?_
    refine TN.seq ?_
    refine TC.seq ?_
    refine TC.seq ?_
    refine TC.region ?_
    refine TL.op (yq (y_move (ev_t rfl))) rfl rfl rfl ?_
    refine TL.op (yq (y_nilp (ev_t rfl))) rfl rfl rfl ?_
    refine TL.op (yq (y_fa (fa_70_1 r1_3.1) (ev_t rfl))) rfl rfl rfl ?_
    refine TL.op (yq (y_ldb 1 (ev_t rfl) one_22 rfl rfl)) rfl rfl rfl ?_
    refine TL.op (yq (y_len (ev_t rfl) Try.underlying22 (fun w hw => ((fun w hw => ((rii_tab 2 rfl) w hw).1) w hw).ln))) rfl rfl rfl ?_
    refine TL.op (yq (y_move ev_c)) rfl rfl rfl ?_
    refine TL.nil ?_
    refine TN.seq ?_
    refine TC.block ?_
    obtain ⟨c22, hc23⟩ : ∃ c, F_impl_SupportOf_L1 m k wk ((((F_impl_worksFor m k wk).2.1.length) - 0) + 1) (([]), 0) = c := ⟨_, rfl⟩
    rw [hc23] at hF
    refine TC.loop (ι := Nat × List (List Int) × Nat × Value × List Value) (fun (fu1, k10_1, k30_1, vk10_1, uk10_1) => [(2, vwk), (8, (.pointer (some ⟨r1_3.1, 0, none⟩))), (10, vk10_1), (28, r1_3.2.2.1), (29, (.int .i64 ((F_impl_worksFor m k wk).2.1.length : Int))), (30, (.int .i64 (k30_1 : Int)))]) (fun (fu1, k10_1, k30_1, vk10_1, uk10_1) => Hp w [tabI 25 3 vk10_1 uk10_1 k10_1, .blk r1_3.1 70 [r1_3.2.1, r1_3.2.2.1, r1_3.2.2.2.2.1], tabI 25 3 r1_3.2.2.1 r1_3.2.2.2.1 ((F_impl_worksFor m k wk).2.1), tabI 25 3 r1_3.2.2.2.2.1 r1_3.2.2.2.2.2 ((F_impl_worksFor m k wk).2.2.1)]) (fun (fu1, k10_1, k30_1, vk10_1, uk10_1) => (k30_1 ≤ ((F_impl_worksFor m k wk).2.1.length)) ∧ (k10_1.length ≤ k30_1) ∧ ((F_impl_worksFor m k wk).2.1.length) - k30_1 < fu1 ∧ F_impl_SupportOf_L1 m k wk fu1 (k10_1, k30_1) = c22) (fun (fu1, k10_1, k30_1, vk10_1, uk10_1) => fu1) ((((F_impl_worksFor m k wk).2.1.length) - 0) + 1, [], 0, v4_0, []) ⟨(by first | omega | (simp [-List.getD_eq_getElem?_getD] <;> omega)), (by first | omega | (simp [-List.getD_eq_getElem?_getD] <;> omega)), (by omega), hc23⟩ ⟨rfl, rfl, rfl, rfl, rfl, rfl, trivial⟩ (fun w hw => Hp.sublist hw (.cons_cons _ (.cons_cons _ (.cons_cons _ (.cons_cons _ (.cons _ .slnil)))))) ?_
    rintro ⟨fu1, k10_1, k30_1, vk10_1, uk10_1⟩ hJ1
    obtain ⟨hi1_0, hi1_1, hmu1, hL1⟩ : (k30_1 ≤ ((F_impl_worksFor m k wk).2.1.length)) ∧ (k10_1.length ≤ k30_1) ∧ ((F_impl_worksFor m k wk).2.1.length) - k30_1 < fu1 ∧ F_impl_SupportOf_L1 m k wk fu1 (k10_1, k30_1) = c22 := hJ1
    change TC _ _ _ _ (Hp w [tabI 25 3 vk10_1 uk10_1 k10_1, .blk r1_3.1 70 [r1_3.2.1, r1_3.2.2.1, r1_3.2.2.2.2.1], tabI 25 3 r1_3.2.2.1 r1_3.2.2.2.1 ((F_impl_worksFor m k wk).2.1), tabI 25 3 r1_3.2.2.2.2.1 r1_3.2.2.2.2.2 ((F_impl_worksFor m k wk).2.2.1)]) [(2, vwk), (8, (.pointer (some ⟨r1_3.1, 0, none⟩))), (10, vk10_1), (28, r1_3.2.2.1), (29, (.int .i64 ((F_impl_worksFor m k wk).2.1.length : Int))), (30, (.int .i64 (k30_1 : Int)))]
    obtain ⟨mf1, rfl⟩ : ∃ m, fu1 = m + 1 := ⟨fu1 - 1, by omega⟩
    rw [F_impl_SupportOf_L1_s] at hL1
    have hwi := hwe k30_1
    have hcn := fun h => (hWf.cf k30_1 h).1.n3
    refine TC.seq ?_
    refine TC.region ?_
    refine TL.op (yq (y_lss (ev_t rfl) (ev_t rfl))) rfl rfl rfl ?_
    refine TL.nil ?_
    refine TN.seq ?_
    refine TC.seq ?_
    refine TC.cond (b := decide ((k30_1 : Int) < ((F_impl_worksFor m k wk).2.1.length : Int))) (ev_t rfl) (fun h24 => ?_) (fun h24 => ?_)
    · rw [bif_pos h24] at hL1
      have q25 := (of_decide_eq_true h24)
      refine TC.skip ?_
      refine TN.seq ?_
      refine TC.seq ?_
      refine TC.block ?_
      refine TC.seq ?_
      refine TC.region ?_
      refine TL.op (yq (y_move (ev_t rfl))) rfl rfl rfl ?_
      have hb26 : k30_1 < (F_impl_worksFor m k wk).2.1.length := (by first | omega | (simp only [List.length_set, List.length_append, List.length_cons, List.length_nil, List.length_replicate]; omega) | (rw [sortI_length]; simp only [List.length_cons, List.length_nil]; omega))
      refine TL.op (yq (y_idx (k := k30_1) (ev_t rfl) (ev_t rfl) (by first | omega | simp) slT_22 (fun w hw => ((rii_tab 2 rfl) w hw).1) hb26)) rfl rfl rfl ?_
      refine TL.op (yq (y_ldT 2 (ev_t rfl) one_25 rfl hb26)) rfl rfl rfl ?_
      refine TL.op (yq (y_assign (ev_t rfl))) rfl rfl rfl ?_
      refine TL.op (yq (y_assign (ev_t rfl))) rfl rfl rfl ?_
      refine TL.nil ?_
      refine TN.seq ?_
      refine TC.seq ?_
      refine TC.region ?_
      refine TL.op (yq (y_assign ev_c)) rfl rfl rfl ?_
      refine TL.nil ?_
      refine TN.seq ?_
      refine TC.seq ?_
      refine TC.seq ?_
      refine TC.region ?_
      refine TL.op (yq (y_move (ev_t rfl))) rfl rfl rfl ?_
      refine TL.op (yq (y_nilp (ev_t rfl))) rfl rfl rfl ?_
      refine TL.op (yq (y_fa (fa_70_1 r1_3.1) (ev_t rfl))) rfl rfl rfl ?_
      refine TL.op (yq (y_ldb 1 (ev_t rfl) one_22 rfl rfl)) rfl rfl rfl ?_
      refine TL.op (yq (y_len (ev_t rfl) Try.underlying22 (fun w hw => ((fun w hw => ((rii_tab 2 rfl) w hw).1) w hw).ln))) rfl rfl rfl ?_
      refine TL.op (yq (y_move ev_c)) rfl rfl rfl ?_
      refine TL.nil ?_
      refine TN.seq ?_
      refine TC.block ?_
      obtain ⟨c27, hc28⟩ : ∃ c, F_impl_SupportOf_L2 m k wk k30_1 ((((F_impl_worksFor m k wk).2.1.length) - 0) + 1) (true, 0) = c := ⟨_, rfl⟩
      rw [hc28] at hL1
      refine TC.loop (ι := Nat × Bool × Nat) (fun (fu2, k13_2, k40_2) => [(2, vwk), (8, (.pointer (some ⟨r1_3.1, 0, none⟩))), (10, vk10_1), (11, (.int .i64 (k30_1 : Int))), (12, (r1_3.2.2.2.1.getD k30_1 undef)), (13, (.bool k13_2)), (28, r1_3.2.2.1), (29, (.int .i64 ((F_impl_worksFor m k wk).2.1.length : Int))), (30, (.int .i64 (k30_1 : Int))), (39, (.int .i64 ((F_impl_worksFor m k wk).2.1.length : Int))), (40, (.int .i64 (k40_2 : Int)))]) (fun (fu2, k13_2, k40_2) => Hp w [tabI 25 3 vk10_1 uk10_1 k10_1, .blk r1_3.1 70 [r1_3.2.1, r1_3.2.2.1, r1_3.2.2.2.2.1], tabI 25 3 r1_3.2.2.1 r1_3.2.2.2.1 ((F_impl_worksFor m k wk).2.1), tabI 25 3 r1_3.2.2.2.2.1 r1_3.2.2.2.2.2 ((F_impl_worksFor m k wk).2.2.1)]) (fun (fu2, k13_2, k40_2) => (k40_2 ≤ ((F_impl_worksFor m k wk).2.1.length)) ∧ ((F_impl_worksFor m k wk).2.1.length) - k40_2 < fu2 ∧ F_impl_SupportOf_L2 m k wk k30_1 fu2 (k13_2, k40_2) = c27) (fun (fu2, k13_2, k40_2) => fu2) ((((F_impl_worksFor m k wk).2.1.length) - 0) + 1, true, 0) ⟨(by first | omega | (simp [-List.getD_eq_getElem?_getD] <;> omega)), (by omega), hc28⟩ ⟨rfl, rfl, rfl, rfl, rfl, rfl, rfl, rfl, rfl, rfl, rfl, trivial⟩ (fun w hw => hw) ?_
      rintro ⟨fu2, k13_2, k40_2⟩ hJ2
      obtain ⟨hi2_0, hmu2, hL2⟩ : (k40_2 ≤ ((F_impl_worksFor m k wk).2.1.length)) ∧ ((F_impl_worksFor m k wk).2.1.length) - k40_2 < fu2 ∧ F_impl_SupportOf_L2 m k wk k30_1 fu2 (k13_2, k40_2) = c27 := hJ2
      change TC _ _ _ _ (Hp w [tabI 25 3 vk10_1 uk10_1 k10_1, .blk r1_3.1 70 [r1_3.2.1, r1_3.2.2.1, r1_3.2.2.2.2.1], tabI 25 3 r1_3.2.2.1 r1_3.2.2.2.1 ((F_impl_worksFor m k wk).2.1), tabI 25 3 r1_3.2.2.2.2.1 r1_3.2.2.2.2.2 ((F_impl_worksFor m k wk).2.2.1)]) [(2, vwk), (8, (.pointer (some ⟨r1_3.1, 0, none⟩))), (10, vk10_1), (11, (.int .i64 (k30_1 : Int))), (12, (r1_3.2.2.2.1.getD k30_1 undef)), (13, (.bool k13_2)), (28, r1_3.2.2.1), (29, (.int .i64 ((F_impl_worksFor m k wk).2.1.length : Int))), (30, (.int .i64 (k30_1 : Int))), (39, (.int .i64 ((F_impl_worksFor m k wk).2.1.length : Int))), (40, (.int .i64 (k40_2 : Int)))]
      obtain ⟨mf2, rfl⟩ : ∃ m, fu2 = m + 1 := ⟨fu2 - 1, by omega⟩
      rw [F_impl_SupportOf_L2_s] at hL2
      have hwj := hwe k40_2
      have hke := hWd.el k40_2 k30_1
      have hrj := hWd.row k40_2
      refine TC.seq ?_
      refine TC.region ?_
      refine TL.op (yq (y_lss (ev_t rfl) (ev_t rfl))) rfl rfl rfl ?_
      refine TL.nil ?_
      refine TN.seq ?_
      refine TC.seq ?_
      refine TC.cond (b := decide ((k40_2 : Int) < ((F_impl_worksFor m k wk).2.1.length : Int))) (ev_t rfl) (fun h29 => ?_) (fun h29 => ?_)
      · rw [bif_pos h29] at hL2
        have q30 := (of_decide_eq_true h29)
        refine TC.skip ?_
        refine TN.seq ?_
        refine TC.seq ?_
        refine TC.block ?_
        refine TC.seq ?_
        refine TC.region ?_
        refine TL.op (yq (y_move (ev_t rfl))) rfl rfl rfl ?_
        refine TL.op (yq (y_assign (ev_t rfl))) rfl rfl rfl ?_
        refine TL.nil ?_
        refine TN.seq ?_
        refine TC.regionQ (by kernel_rfl) (by kernel_rfl) dr_hp ?_
        refine TQ.op (yq (y_move (ev_t rfl))) rfl rfl rfl ?_
        refine TQ.op (yq (y_move (ev_t rfl))) rfl rfl rfl ?_
        refine TQ.opw (w_t rfl rfl rfl) (fun hg => yq (y_move (ev_t rfl))) rfl rfl ?_
        refine TQ.opw (w_t rfl rfl rfl) (fun hg => yq (y_move (ev_t rfl))) rfl rfl ?_
        refine TQ.opw (w_t rfl rfl rfl) (fun hg => yq (y_eql (ev_g rfl hg) (ev_g rfl hg))) rfl rfl ?_
        refine TQ.opw (w_t rfl rfl rfl) (fun hg => yq (y_move (ev_g rfl hg))) rfl rfl ?_
        refine TQ.opw (w_gf rfl rfl rfl) (fun hg => yq (y_move (ev_t rfl))) rfl rfl ?_
        refine TQ.opw (w_gf rfl rfl rfl) (fun hg => yq (y_move (ev_t rfl))) rfl rfl ?_
        refine TQ.opw (w_gf rfl rfl rfl) (fun hg => yq (y_idx (k := k30_1) (ev_g rfl hg) (ev_g rfl hg) (by first | omega | simp) slT_25 (ri_arg hwk) (show k30_1 < wk.length by have hgf := (and_imp (and_t hg) (fun h => h) (fun h => (of_decide_eq_false (not_t h)))); omega))) rfl rfl ?_
        refine TQ.opw (w_gf rfl rfl rfl) (fun hg => yq (y_ldi (ev_g rfl hg) one_3 (ri_arg hwk) (show k30_1 < wk.length by have hgf := (and_imp (and_t hg) (fun h => h) (fun h => (of_decide_eq_false (not_t h)))); omega))) rfl rfl ?_
        refine TQ.opw (w_gf rfl rfl rfl) (fun hg => yq (y_move (ev_t rfl))) rfl rfl ?_
        refine TQ.opw (w_gf rfl rfl rfl) (fun hg => yq (y_move (ev_t rfl))) rfl rfl ?_
        refine TQ.opw (w_gf rfl rfl rfl) (fun hg => yq (y_idx (k := k40_2) (ev_g rfl hg) (ev_g rfl hg) (by first | omega | simp) slT_25 (ri_arg hwk) (show k40_2 < wk.length by have hgf := (and_imp (and_t hg) (fun h => h) (fun h => (of_decide_eq_false (not_t h)))); omega))) rfl rfl ?_
        refine TQ.opw (w_gf rfl rfl rfl) (fun hg => yq (y_ldi (ev_g rfl hg) one_3 (ri_arg hwk) (show k40_2 < wk.length by have hgf := (and_imp (and_t hg) (fun h => h) (fun h => (of_decide_eq_false (not_t h)))); omega))) rfl rfl ?_
        refine TQ.opw (w_gf rfl rfl rfl) (fun hg => yq (y_move (ev_t rfl))) rfl rfl ?_
        refine TQ.opw (w_gf rfl rfl rfl) (fun hg => yq (y_nilp (ev_g rfl hg))) rfl rfl ?_
        refine TQ.opw (w_gf rfl rfl rfl) (fun hg => yq (y_fa (fa_70_2 r1_3.1) (ev_g rfl hg))) rfl rfl ?_
        refine TQ.opw (w_gf rfl rfl rfl) (fun hg => yq (y_ldb 1 (ev_g rfl hg) one_22 rfl rfl)) rfl rfl ?_
        refine TQ.opw (w_gf rfl rfl rfl) (fun hg => yq (y_move (ev_t rfl))) rfl rfl ?_
        refine TQ.opw (w_gf rfl rfl rfl) (fun hg => yq (y_idx (k := k40_2) (ev_g rfl hg) (ev_g rfl hg) (by first | omega | simp) slT_22 (fun w hw => ((rii_tab 3 rfl) w hw).1) (show k40_2 < (F_impl_worksFor m k wk).2.2.1.length by have hgf := (and_imp (and_t hg) (fun h => h) (fun h => (of_decide_eq_false (not_t h)))); omega))) rfl rfl ?_
        refine TQ.opw (w_gf rfl rfl rfl) (fun hg => yq (y_ldT 3 (ev_g rfl hg) one_25 rfl (show k40_2 < (F_impl_worksFor m k wk).2.2.1.length by have hgf := (and_imp (and_t hg) (fun h => h) (fun h => (of_decide_eq_false (not_t h)))); omega))) rfl rfl ?_
        refine TQ.opw (w_gf rfl rfl rfl) (fun hg => yq (y_move (ev_t rfl))) rfl rfl ?_
        refine TQ.opw (w_gf rfl rfl rfl) (fun hg => yq (y_idx (k := k30_1) (ev_g rfl hg) (ev_g rfl hg) (by first | omega | simp) slT_25 (ri_tab 3 k40_2 rfl (show k40_2 < (F_impl_worksFor m k wk).2.2.1.length by have hgf := (and_imp (and_t hg) (fun h => h) (fun h => (of_decide_eq_false (not_t h)))); omega)) (show k30_1 < ((F_impl_worksFor m k wk).2.2.1.getD k40_2 []).length by have hgf := (and_imp (and_t hg) (fun h => h) (fun h => (of_decide_eq_false (not_t h)))); omega))) rfl rfl ?_
        refine TQ.opw (w_gf rfl rfl rfl) (fun hg => yq (y_ldi (ev_g rfl hg) one_3 (ri_tab 3 k40_2 rfl (show k40_2 < (F_impl_worksFor m k wk).2.2.1.length by have hgf := (and_imp (and_t hg) (fun h => h) (fun h => (of_decide_eq_false (not_t h)))); omega)) (show k30_1 < ((F_impl_worksFor m k wk).2.2.1.getD k40_2 []).length by have hgf := (and_imp (and_t hg) (fun h => h) (fun h => (of_decide_eq_false (not_t h)))); omega))) rfl rfl ?_
        refine TQ.opw (w_gf rfl rfl rfl) (fun hg => yq (y_add (ev_g rfl hg) (ev_g rfl hg) (by unfold In64; omega))) rfl rfl ?_
        refine TQ.opw (w_gf rfl rfl rfl) (fun hg => yq (y_lss (ev_g rfl hg) (ev_g rfl hg))) rfl rfl ?_
        refine TQ.opw (w_t rfl rfl rfl) (fun hg => yq (y_or (ev_g rfl hg) (fun hq => (ev_g rfl (gand hg hq))))) rfl rfl ?_
        refine TQ.op (yq (y_and (ev_t rfl) (fun hq => (ev_g rfl hq)))) rfl rfl rfl ?_
        refine TQ.op (yq (y_assign (ev_t rfl))) rfl rfl rfl ?_
        refine TQ.nil ?_
        refine TN.blockN ?_
        refine TN.seq ?_
        refine TC.region ?_
        refine TL.op (yq (y_add (ev_t rfl) ev_c (by unfold In64; omega))) rfl rfl rfl ?_
        refine TL.op (yq (y_move (ev_t rfl))) rfl rfl rfl ?_
        refine TL.nil ?_
        exact TN.hand (mf2, (k13_2 && ((decide ((k30_1 : Int) = (k40_2 : Int))) || (decide ((wk.getD k30_1 0) < (wk.getD k40_2 0) + (((F_impl_worksFor m k wk).2.2.1.getD k40_2 []).getD k30_1 0))))), (k40_2 + 1)) ⟨(by first | omega | (simp [-List.getD_eq_getElem?_getD] <;> omega)), (by omega), hL2⟩ (Nat.lt_succ_self _) ⟨rfl, rfl, rfl, rfl, rfl, rfl, rfl, rfl, rfl, rfl, rfl, trivial⟩ (fun w hw => hw)
      · rw [bif_neg h29] at hL2
        have q30 := (of_decide_eq_false h29)
        refine TC.exit ?_
        refine TN.thenE ?_
        refine TN.thenE ?_
        rw [← hL2, elim_next] at hL1
        try dsimp only at hL1
        refine TN.blockH ?_
        refine TN.seq ?_
        refine TC.seq ?_
        refine TC.region ?_
        refine TL.op (yq (y_move (ev_t rfl))) rfl rfl rfl ?_
        refine TL.nil ?_
        refine TN.seq ?_
        refine TC.cond (b := k13_2) (ev_t rfl) (fun h31 => ?_) (fun h31 => ?_)
        · rw [bif_pos h31] at hL1
          have q32 := h31
          refine TC.region ?_
          refine TL.op (yq (y_move (ev_t rfl))) rfl rfl rfl ?_
          refine TL.op (yq (y_move (ev_t rfl))) rfl rfl rfl ?_
          refine TL.callr (ι := Value) (vs := [(r1_3.2.2.2.1.getD k30_1 undef)]) (fun i => i) (fun i => [rowI 3 i ((F_impl_worksFor m k wk).2.1.getD k30_1 [])]) en_62 ⟨(ev_t rfl), trivial⟩ rfl (fun w hw => slices_Clone_Sint_int_ok w (r1_3.2.2.2.1.getD k30_1 undef) ((F_impl_worksFor m k wk).2.1.getD k30_1 []) ((ri_tab 2 k30_1 rfl hb26) w hw) (by first | assumption | omega | grind)) (fun r15_2 => ?_)
          refine TL.buildU slT_22 (ev_t rfl) (fun w hw => ((ri_row 0 rfl) w hw).ln) rfl (fun v15_3 => ?_)
          refine TL.appendT 2 1 rfl (ev_t rfl) (ev_t rfl) rfl rfl slT_22 (rd_row 0 rfl) (by first | omega | (simp [-List.getD_eq_getElem?_getD] <;> omega)) rfl (fun v15_4 => ?_)
          refine TL.op (yq (y_assign (ev_t rfl))) rfl rfl rfl ?_
          refine TL.nil ?_
          refine TN.blockN ?_
          refine TN.seq ?_
          refine TC.region ?_
          refine TL.op (yq (y_add (ev_t rfl) ev_c (by unfold In64; omega))) rfl rfl rfl ?_
          refine TL.op (yq (y_move (ev_t rfl))) rfl rfl rfl ?_
          refine TL.nil ?_
          exact TN.hand (mf1, (k10_1 ++ [((F_impl_worksFor m k wk).2.1.getD k30_1 [])]), (k30_1 + 1), v15_4, (uk10_1 ++ [r15_2])) ⟨(by first | omega | (simp [-List.getD_eq_getElem?_getD] <;> omega)), (by first | omega | (simp [-List.getD_eq_getElem?_getD] <;> omega)), (by omega), hL1⟩ (Nat.lt_succ_self _) ⟨rfl, rfl, rfl, rfl, rfl, rfl, trivial⟩ (fun w hw => Hp.sublist hw (.cons _ (.cons _ (.cons_cons _ (.cons_cons _ (.cons_cons _ (.cons_cons _ .slnil)))))))
        · rw [bif_neg h31] at hL1
          have q32 := h31
          refine TC.skip ?_
          refine TN.blockN ?_
          refine TN.seq ?_
          refine TC.region ?_
          refine TL.op (yq (y_add (ev_t rfl) ev_c (by unfold In64; omega))) rfl rfl rfl ?_
          refine TL.op (yq (y_move (ev_t rfl))) rfl rfl rfl ?_
          refine TL.nil ?_
          exact TN.hand (mf1, k10_1, (k30_1 + 1), vk10_1, uk10_1) ⟨(by first | omega | (simp [-List.getD_eq_getElem?_getD] <;> omega)), (by first | omega | (simp [-List.getD_eq_getElem?_getD] <;> omega)), (by omega), hL1⟩ (Nat.lt_succ_self _) ⟨rfl, rfl, rfl, rfl, rfl, rfl, trivial⟩ (fun w hw => hw)
    · rw [bif_neg h24] at hL1
      have q25 := (of_decide_eq_false h24)
      refine TC.exit ?_
      refine TN.thenE ?_
      refine TN.thenE ?_
      rw [← hL1, elim_next] at hF
      try dsimp only at hF
      refine TN.blockH ?_
      refine TN.seq ?_
      refine TC.seq ?_
      refine TC.region ?_
      refine TL.op (yq (y_move (ev_t rfl))) rfl rfl rfl ?_
      refine TL.op (yq (y_assign (ev_t rfl))) rfl rfl rfl ?_
      refine TL.op (yq (y_assign ev_c)) rfl rfl rfl ?_
      refine TL.nil ?_
      refine TN.seq ?_
      refine TC.ret ?_
      subst hF
      exact TN.ret2 rfl (ev_t rfl) (ev_t rfl) (fun w' hw => ⟨(vk10_1, uk10_1), rfl, Hp.sublist hw (.cons_cons _ (.cons _ (.cons _ (.cons _ .slnil))))⟩)

set_option maxRecDepth 4000 in
set_option maxHeartbeats 1000000 in
theorem spec_l7Given_ok (w : World) (vm : Value) (um : List Value) (m : List (List Int)) (hm : RII w vm um m) (k : Int) (vwk : Value) (wk : List Int) (hwk : RI w vwk wk) (r : Int)  :
    Calls Try.prog 58 ([(.agg #[vm]), (.int .i64 k), vwk, (.int .i64 r)] : List Value).toArray w (Ret (.bool (F_spec_l7Given m k wk r)) (Hp w [])) := by
  obtain ⟨rz, hF⟩ : ∃ rz, (F_spec_l7Given m k wk r) = rz := ⟨_, rfl⟩
  rw [hF]
  unfold F_spec_l7Given at hF
  have hlen_m := argT_len hm
  have hlen_wk := arg_len hwk
  refine calls_tc Try.func58 rfl rfl rfl ?_
  change TC _ _ _ _ (Hp w []) [(0, (.agg #[vm])), (1, (.int .i64 k)), (2, vwk), (3, (.int .i64 r))]
  refine TC.seq ?_
  refine TC.region ?_
  refine TL.box (ev_t rfl) rfl (fun g0_0 => ?_)
  refine TL.op (yq (y_assign ev_c)) rfl rfl rfl ?_
  refine TL.nil ?_
  refine TN.seq ?_
  refine TC.seq ?_
  rcases Bool.eq_false_or_eq_true (F_spec_l7Asked m k) with h5 | h5
  · rw [bif_pos h5] at hF
    have q6 := (l7Asked_t h5)
    have hKs := q6
    have hKc := hKs.ksc
    have hn6 := hKs.tab.n6
    have hk3 := hKs.k3
    rcases Bool.eq_false_or_eq_true ((decide (0 ≤ r)) && (decide (r ≤ ((m.length : Int) - 1)))) with h7 | h7
    · rw [bif_pos h7] at hF
      have q8 := (and_imp (and_t h7) (fun h => (of_decide_eq_true h)) (fun h => (of_decide_eq_true h)))
      refine TC.regionH 22 (Hp w [.blk g0_0 29 [vm]]) rfl (by kernel_rfl) dr_hp (fun w hw => hw) ?_
      refine TH.take 0 rfl (by kernel_rfl) (y_ldagg (cs := [vm]) 0 (ev_t rfl) agg_29 rfl) rfl rfl rfl ?_
      refine TH.take 1 rfl (by kernel_rfl) (y_move (ev_t rfl)) rfl rfl rfl ?_
      refine TH.loud 2 rfl (by kernel_rfl) ?_
      refine TL.op (y_call (vs := [(.agg #[vm]), (.int .i64 k)]) (v := (.bool (F_spec_l7Asked m k))) en_52 ⟨(ev_t rfl), (ev_t rfl), trivial⟩ (fun w hw => spec_l7Asked_ok w vm um m ((rii_arg hm) w hw) k)) rfl rfl rfl ?_
      refine TL.nil ?_
      refine TH.back (fun w hw => hw) ?_
      refine TH.take 3 rfl (by kernel_rfl) (y_move (ev_t rfl)) rfl rfl rfl ?_
      refine TH.takew 4 rfl (by kernel_rfl) (fun a hs => (w_t rfl rfl rfl a hs).trans (by rw [h5])) (fun _ => y_move (ev_t rfl)) rfl rfl ?_
      refine TH.takew 5 rfl (by kernel_rfl) (fun a hs => (w_t rfl rfl rfl a hs).trans (by rw [h5])) (fun _ => y_fa (fa_29_0 g0_0) (ev_t rfl)) rfl rfl ?_
      refine TH.takew 6 rfl (by kernel_rfl) (fun a hs => (w_t rfl rfl rfl a hs).trans (by rw [h5])) (fun _ => y_ldb 0 (ev_t rfl) one_22 rfl rfl) rfl rfl ?_
      refine TH.takew 7 rfl (by kernel_rfl) (fun a hs => (w_t rfl rfl rfl a hs).trans (by rw [h5])) (fun _ => y_len (ev_t rfl) Try.underlying22 (fun w hw => ((fun w hw => ((rii_arg hm) w hw).1) w hw).ln)) rfl rfl ?_
      refine TH.takew 8 rfl (by kernel_rfl) (fun a hs => (w_t rfl rfl rfl a hs).trans (by rw [h5])) (fun _ => y_sub (ev_t rfl) ev_c (by unfold In64; omega)) rfl rfl ?_
      refine TH.loud 9 rfl (by kernel_rfl) ?_
      refine TL.ung (fun a hs => (w_t rfl rfl rfl a hs).trans (by rw [h5])) ?_
      refine TL.op (y_call (vs := [(.int .i64 r), (.int .i64 0), (.int .i64 ((m.length : Int) - 1))]) (v := (.bool ((decide (0 ≤ r)) && (decide (r ≤ ((m.length : Int) - 1)))))) en_96 ⟨(ev_t rfl), ev_c, (ev_t rfl), trivial⟩ (fun w hw => spec_l1In_ok w r 0 ((m.length : Int) - 1))) rfl rfl rfl ?_
      refine TL.nil ?_
      refine TH.back (fun w hw => hw) ?_
      refine TH.take 10 rfl (by kernel_rfl) (y_pickKT (ev_t rfl) h5 (ev_t rfl)) rfl rfl rfl ?_
      refine TH.take 11 rfl (by kernel_rfl) (y_move (ev_t rfl)) rfl rfl rfl ?_
      refine TH.takew 12 rfl (by kernel_rfl) (fun a hs => (w_t rfl rfl rfl a hs).trans (by rw [h7])) (fun _ => y_ldagg (cs := [vm]) 0 (ev_t rfl) agg_29 rfl) rfl rfl ?_
      refine TH.takew 13 rfl (by kernel_rfl) (fun a hs => (w_t rfl rfl rfl a hs).trans (by rw [h7])) (fun _ => y_fa (fa_29_0 g0_0) (ev_t rfl)) rfl rfl ?_
      refine TH.takew 14 rfl (by kernel_rfl) (fun a hs => (w_t rfl rfl rfl a hs).trans (by rw [h7])) (fun _ => y_ldb 0 (ev_t rfl) one_22 rfl rfl) rfl rfl ?_
      refine TH.takew 15 rfl (by kernel_rfl) (fun a hs => (w_t rfl rfl rfl a hs).trans (by rw [h7])) (fun _ => y_len (ev_t rfl) Try.underlying22 (fun w hw => ((fun w hw => ((rii_arg hm) w hw).1) w hw).ln)) rfl rfl ?_
      refine TH.takew 16 rfl (by kernel_rfl) (fun a hs => (w_t rfl rfl rfl a hs).trans (by rw [h7])) (fun _ => y_move (ev_t rfl)) rfl rfl ?_
      refine TH.takew 18 rfl (by kernel_rfl) (fun a hs => (w_t rfl rfl rfl a hs).trans (by rw [h7])) (fun _ => y_move (ev_t rfl)) rfl rfl ?_
      refine TH.loud 17 rfl (by kernel_rfl) ?_
      refine TL.ung (fun a hs => (w_t rfl rfl rfl a hs).trans (by rw [h7])) ?_
      refine TL.callr (ι := Value × List Value) (vs := [(.int .i64 (m.length : Int)), (.int .i64 k)]) (fun i => i.1) (fun i => [tabI 25 3 i.1 i.2 (F_spec_l6Configs (m.length : Int) k)]) en_54 ⟨(ev_t rfl), (ev_t rfl), trivial⟩ rfl (fun w hw => spec_l6Configs_ok w (m.length : Int) k (by first | assumption | omega | grind) (by first | assumption | omega | grind)) (fun r1_17 => ?_)
      refine TL.nil ?_
      refine TH.back (fun w hw => Hp.sublist hw (.cons _ (.cons_cons _ .slnil))) ?_
      refine TH.loud 19 rfl (by kernel_rfl) ?_
      refine TL.ung (fun a hs => (w_t rfl rfl rfl a hs).trans (by rw [h7])) ?_
      refine TL.op (y_call (vs := [(.agg #[vm]), r1_17.1, vwk]) (v := (.bool (F_spec_l7Work m (F_spec_l6Configs (m.length : Int) k) wk))) en_53 ⟨(ev_t rfl), (ev_t rfl), (ev_t rfl), trivial⟩ (fun w hw => spec_l7Work_ok w vm um m ((rii_arg hm) w hw) r1_17.1 r1_17.2 (F_spec_l6Configs (m.length : Int) k) ((rii_tab 0 rfl) w hw) vwk wk ((ri_arg hwk) w hw) (by first | assumption | omega | grind))) rfl rfl rfl ?_
      refine TL.nil ?_
      refine TH.back (fun w hw => Hp.sublist hw (.cons _ (.cons_cons _ .slnil))) ?_
      refine TH.take 20 rfl (by kernel_rfl) (y_pickKT (ev_t rfl) h7 (ev_t rfl)) rfl rfl rfl ?_
      refine TH.take 21 rfl (by kernel_rfl) (y_assign (ev_t rfl)) rfl rfl rfl ?_
      refine TH.done (by kernel_rfl) ?_
      refine TN.seq ?_
      refine TC.ret ?_
      subst hF
      exact TN.ret1 rfl (ev_t rfl) (fun w' hw => ⟨rfl, Hp.sublist hw (List.nil_sublist _)⟩)
    · rw [bif_neg h7] at hF
      have q8 := ((and_f h7).imp (fun h => (of_decide_eq_false h)) (fun h => (of_decide_eq_false h)))
      refine TC.regionH 22 (Hp w [.blk g0_0 29 [vm]]) rfl (by kernel_rfl) dr_hp (fun w hw => hw) ?_
      refine TH.take 0 rfl (by kernel_rfl) (y_ldagg (cs := [vm]) 0 (ev_t rfl) agg_29 rfl) rfl rfl rfl ?_
      refine TH.take 1 rfl (by kernel_rfl) (y_move (ev_t rfl)) rfl rfl rfl ?_
      refine TH.loud 2 rfl (by kernel_rfl) ?_
      refine TL.op (y_call (vs := [(.agg #[vm]), (.int .i64 k)]) (v := (.bool (F_spec_l7Asked m k))) en_52 ⟨(ev_t rfl), (ev_t rfl), trivial⟩ (fun w hw => spec_l7Asked_ok w vm um m ((rii_arg hm) w hw) k)) rfl rfl rfl ?_
      refine TL.nil ?_
      refine TH.back (fun w hw => hw) ?_
      refine TH.take 3 rfl (by kernel_rfl) (y_move (ev_t rfl)) rfl rfl rfl ?_
      refine TH.takew 4 rfl (by kernel_rfl) (fun a hs => (w_t rfl rfl rfl a hs).trans (by rw [h5])) (fun _ => y_move (ev_t rfl)) rfl rfl ?_
      refine TH.takew 5 rfl (by kernel_rfl) (fun a hs => (w_t rfl rfl rfl a hs).trans (by rw [h5])) (fun _ => y_fa (fa_29_0 g0_0) (ev_t rfl)) rfl rfl ?_
      refine TH.takew 6 rfl (by kernel_rfl) (fun a hs => (w_t rfl rfl rfl a hs).trans (by rw [h5])) (fun _ => y_ldb 0 (ev_t rfl) one_22 rfl rfl) rfl rfl ?_
      refine TH.takew 7 rfl (by kernel_rfl) (fun a hs => (w_t rfl rfl rfl a hs).trans (by rw [h5])) (fun _ => y_len (ev_t rfl) Try.underlying22 (fun w hw => ((fun w hw => ((rii_arg hm) w hw).1) w hw).ln)) rfl rfl ?_
      refine TH.takew 8 rfl (by kernel_rfl) (fun a hs => (w_t rfl rfl rfl a hs).trans (by rw [h5])) (fun _ => y_sub (ev_t rfl) ev_c (by unfold In64; omega)) rfl rfl ?_
      refine TH.loud 9 rfl (by kernel_rfl) ?_
      refine TL.ung (fun a hs => (w_t rfl rfl rfl a hs).trans (by rw [h5])) ?_
      refine TL.op (y_call (vs := [(.int .i64 r), (.int .i64 0), (.int .i64 ((m.length : Int) - 1))]) (v := (.bool ((decide (0 ≤ r)) && (decide (r ≤ ((m.length : Int) - 1)))))) en_96 ⟨(ev_t rfl), ev_c, (ev_t rfl), trivial⟩ (fun w hw => spec_l1In_ok w r 0 ((m.length : Int) - 1))) rfl rfl rfl ?_
      refine TL.nil ?_
      refine TH.back (fun w hw => hw) ?_
      refine TH.take 10 rfl (by kernel_rfl) (y_pickKT (ev_t rfl) h5 (ev_t rfl)) rfl rfl rfl ?_
      refine TH.take 11 rfl (by kernel_rfl) (y_move (ev_t rfl)) rfl rfl rfl ?_
      refine TH.takew (v := undef) 12 rfl (by kernel_rfl) (fun a hs => (w_t rfl rfl rfl a hs).trans (by rw [h7])) (fun hg => by cases hg) rfl rfl ?_
      refine TH.takew (v := undef) 13 rfl (by kernel_rfl) (fun a hs => (w_t rfl rfl rfl a hs).trans (by rw [h7])) (fun hg => by cases hg) rfl rfl ?_
      refine TH.takew (v := undef) 14 rfl (by kernel_rfl) (fun a hs => (w_t rfl rfl rfl a hs).trans (by rw [h7])) (fun hg => by cases hg) rfl rfl ?_
      refine TH.takew (v := undef) 15 rfl (by kernel_rfl) (fun a hs => (w_t rfl rfl rfl a hs).trans (by rw [h7])) (fun hg => by cases hg) rfl rfl ?_
      refine TH.takew (v := undef) 16 rfl (by kernel_rfl) (fun a hs => (w_t rfl rfl rfl a hs).trans (by rw [h7])) (fun hg => by cases hg) rfl rfl ?_
      refine TH.takew (v := undef) 17 rfl (by kernel_rfl) (fun a hs => (w_t rfl rfl rfl a hs).trans (by rw [h7])) (fun hg => by cases hg) rfl rfl ?_
      refine TH.takew (v := undef) 18 rfl (by kernel_rfl) (fun a hs => (w_t rfl rfl rfl a hs).trans (by rw [h7])) (fun hg => by cases hg) rfl rfl ?_
      refine TH.takew (v := undef) 19 rfl (by kernel_rfl) (fun a hs => (w_t rfl rfl rfl a hs).trans (by rw [h7])) (fun hg => by cases hg) rfl rfl ?_
      refine TH.take 20 rfl (by kernel_rfl) (y_pickKF (ev_t rfl) h7 ev_c) rfl rfl rfl ?_
      refine TH.take 21 rfl (by kernel_rfl) (y_assign (ev_t rfl)) rfl rfl rfl ?_
      refine TH.done (by kernel_rfl) ?_
      refine TN.seq ?_
      refine TC.ret ?_
      subst hF
      exact TN.ret1 rfl (ev_t rfl) (fun w' hw => ⟨rfl, Hp.sublist hw (List.nil_sublist _)⟩)
  · rw [bif_neg h5] at hF
    have q6 := h5
    refine TC.regionH 22 (Hp w [.blk g0_0 29 [vm]]) rfl (by kernel_rfl) dr_hp (fun w hw => hw) ?_
    refine TH.take 0 rfl (by kernel_rfl) (y_ldagg (cs := [vm]) 0 (ev_t rfl) agg_29 rfl) rfl rfl rfl ?_
    refine TH.take 1 rfl (by kernel_rfl) (y_move (ev_t rfl)) rfl rfl rfl ?_
    refine TH.loud 2 rfl (by kernel_rfl) ?_
    refine TL.op (y_call (vs := [(.agg #[vm]), (.int .i64 k)]) (v := (.bool (F_spec_l7Asked m k))) en_52 ⟨(ev_t rfl), (ev_t rfl), trivial⟩ (fun w hw => spec_l7Asked_ok w vm um m ((rii_arg hm) w hw) k)) rfl rfl rfl ?_
    refine TL.nil ?_
    refine TH.back (fun w hw => hw) ?_
    refine TH.take 3 rfl (by kernel_rfl) (y_move (ev_t rfl)) rfl rfl rfl ?_
    refine TH.takew (v := undef) 4 rfl (by kernel_rfl) (fun a hs => (w_t rfl rfl rfl a hs).trans (by rw [h5])) (fun hg => by cases hg) rfl rfl ?_
    refine TH.takew (v := undef) 5 rfl (by kernel_rfl) (fun a hs => (w_t rfl rfl rfl a hs).trans (by rw [h5])) (fun hg => by cases hg) rfl rfl ?_
    refine TH.takew (v := undef) 6 rfl (by kernel_rfl) (fun a hs => (w_t rfl rfl rfl a hs).trans (by rw [h5])) (fun hg => by cases hg) rfl rfl ?_
    refine TH.takew (v := undef) 7 rfl (by kernel_rfl) (fun a hs => (w_t rfl rfl rfl a hs).trans (by rw [h5])) (fun hg => by cases hg) rfl rfl ?_
    refine TH.takew (v := undef) 8 rfl (by kernel_rfl) (fun a hs => (w_t rfl rfl rfl a hs).trans (by rw [h5])) (fun hg => by cases hg) rfl rfl ?_
    refine TH.takew (v := undef) 9 rfl (by kernel_rfl) (fun a hs => (w_t rfl rfl rfl a hs).trans (by rw [h5])) (fun hg => by cases hg) rfl rfl ?_
    refine TH.take 10 rfl (by kernel_rfl) (y_pickKF (ev_t rfl) h5 ev_c) rfl rfl rfl ?_
    refine TH.take 11 rfl (by kernel_rfl) (y_move (ev_t rfl)) rfl rfl rfl ?_
    refine TH.takew (v := undef) 12 rfl (by kernel_rfl) (fun a hs => (w_t rfl rfl rfl a hs).trans rfl) (fun hg => by cases hg) rfl rfl ?_
    refine TH.takew (v := undef) 13 rfl (by kernel_rfl) (fun a hs => (w_t rfl rfl rfl a hs).trans rfl) (fun hg => by cases hg) rfl rfl ?_
    refine TH.takew (v := undef) 14 rfl (by kernel_rfl) (fun a hs => (w_t rfl rfl rfl a hs).trans rfl) (fun hg => by cases hg) rfl rfl ?_
    refine TH.takew (v := undef) 15 rfl (by kernel_rfl) (fun a hs => (w_t rfl rfl rfl a hs).trans rfl) (fun hg => by cases hg) rfl rfl ?_
    refine TH.takew (v := undef) 16 rfl (by kernel_rfl) (fun a hs => (w_t rfl rfl rfl a hs).trans rfl) (fun hg => by cases hg) rfl rfl ?_
    refine TH.takew (v := undef) 17 rfl (by kernel_rfl) (fun a hs => (w_t rfl rfl rfl a hs).trans rfl) (fun hg => by cases hg) rfl rfl ?_
    refine TH.takew (v := undef) 18 rfl (by kernel_rfl) (fun a hs => (w_t rfl rfl rfl a hs).trans rfl) (fun hg => by cases hg) rfl rfl ?_
    refine TH.takew (v := undef) 19 rfl (by kernel_rfl) (fun a hs => (w_t rfl rfl rfl a hs).trans rfl) (fun hg => by cases hg) rfl rfl ?_
    refine TH.take 20 rfl (by kernel_rfl) (y_pickF (ev_t rfl) ev_c) rfl rfl rfl ?_
    refine TH.take 21 rfl (by kernel_rfl) (y_assign (ev_t rfl)) rfl rfl rfl ?_
    refine TH.done (by kernel_rfl) ?_
    refine TN.seq ?_
    refine TC.ret ?_
    subst hF
    exact TN.ret1 rfl (ev_t rfl) (fun w' hw => ⟨rfl, Hp.sublist hw (List.nil_sublist _)⟩)

set_option maxRecDepth 4000 in
set_option maxHeartbeats 1000000 in
theorem spec_l7Support_ok (w : World) (vm : Value) (um : List Value) (m : List (List Int)) (hm : RII w vm um m) (vconfigs : Value) (uconfigs : List Value) (configs : List (List Int)) (hconfigs : RII w vconfigs uconfigs configs) (vwk : Value) (wk : List Int) (hwk : RI w vwk wk) (hp0 : Ksc m configs) (hp1 : wk.length = configs.length) (hp2 : ∀ i, 0 ≤ wk.getD i 0 ∧ wk.getD i 0 ≤ 1073741824) :
    Calls Try.prog 63 ([(.agg #[vm]), vconfigs, vwk] : List Value).toArray w (fun e w' => ∃ i : Value, e = .returned i ∧ Hp w [rowI 3 i (F_spec_l7Support m configs wk)] w') := by
  obtain ⟨rz, hF⟩ : ∃ rz, (F_spec_l7Support m configs wk) = rz := ⟨_, rfl⟩
  rw [hF]
  unfold F_spec_l7Support at hF
  have hTab := hp0.tab
  have hn56 := hp0.n56
  have hlen_m := argT_len hm
  have hlen_configs := argT_len hconfigs
  have hlen_wk := arg_len hwk
  refine calls_tc Try.func63 rfl rfl rfl ?_
  change TC _ _ _ _ (Hp w []) [(0, (.agg #[vm])), (1, vconfigs), (2, vwk)]
  refine TC.seq ?_
  refine TC.region ?_
  refine TL.box (ev_t rfl) rfl (fun g0_0 => ?_)
  refine TL.op (yq (y_assign ev_c)) rfl rfl rfl ?_
  refine TL.nil ?_
  refine TN.seq ?_
  refine TC.seq ?_
  refine TC.region ?_
  refine TL.buildI (zs := []) (qs := []) slT_25 rfl trivial rfl (by decide) rfl (fun v1_0 => ?_)
  refine TL.op (yq (y_assign (ev_t rfl))) rfl rfl rfl ?_
  refine TL.nil ?_
  refine TN.seq ?_
  refine TC.seq ?_
  refine TC.seq ?_
  refine TC.region ?_
  refine TL.op (yq (y_assign ev_c)) rfl rfl rfl ?_
  refine TL.nil ?_
  refine TN.seq ?_
  refine TC.block ?_
  obtain ⟨c21, hc22⟩ : ∃ c, F_spec_l7Support_L1 m configs wk ((configs.length - 0) + 1) (([] : List Int), 0) = c := ⟨_, rfl⟩
  rw [hc22] at hF
  refine TC.loop (ι := Nat × List Int × Nat × Value) (fun (fu1, out1, i1, vout1) => [(1, vconfigs), (2, vwk), (3, (.pointer (some ⟨g0_0, 0, none⟩))), (7, vout1), (8, (.int .i64 (i1 : Int)))]) (fun (fu1, out1, i1, vout1) => Hp w [rowI 3 vout1 out1, .blk g0_0 29 [vm]]) (fun (fu1, out1, i1, vout1) => (i1 ≤ configs.length) ∧ (out1.length ≤ i1) ∧ configs.length - i1 < fu1 ∧ F_spec_l7Support_L1 m configs wk fu1 (out1, i1) = c21) (fun (fu1, out1, i1, vout1) => fu1) ((configs.length - 0) + 1, ([] : List Int), 0, v1_0) ⟨(by first | omega | (simp [-List.getD_eq_getElem?_getD] <;> omega)), (by first | omega | (simp [-List.getD_eq_getElem?_getD] <;> omega)), (by omega), hc22⟩ ⟨rfl, rfl, rfl, rfl, rfl, trivial⟩ (fun w hw => hw) ?_
  rintro ⟨fu1, out1, i1, vout1⟩ hJ1
  obtain ⟨hi1_0, hi1_1, hmu1, hL1⟩ : (i1 ≤ configs.length) ∧ (out1.length ≤ i1) ∧ configs.length - i1 < fu1 ∧ F_spec_l7Support_L1 m configs wk fu1 (out1, i1) = c21 := hJ1
  change TC _ _ _ _ (Hp w [rowI 3 vout1 out1, .blk g0_0 29 [vm]]) [(1, vconfigs), (2, vwk), (3, (.pointer (some ⟨g0_0, 0, none⟩))), (7, vout1), (8, (.int .i64 (i1 : Int)))]
  obtain ⟨mf1, rfl⟩ : ∃ m, fu1 = m + 1 := ⟨fu1 - 1, by omega⟩
  rw [F_spec_l7Support_L1_s] at hL1
  have hw1 := hp2 i1
  have hca := hp0.cf i1
  refine TC.seq ?_
  refine TC.seq ?_
  refine TC.region ?_
  refine TL.op (yq (y_move (ev_t rfl))) rfl rfl rfl ?_
  refine TL.op (yq (y_move (ev_t rfl))) rfl rfl rfl ?_
  refine TL.op (yq (y_len (ev_t rfl) Try.underlying22 (fun w hw => ((fun w hw => ((rii_arg hconfigs) w hw).1) w hw).ln))) rfl rfl rfl ?_
  refine TL.op (yq (y_lss (ev_t rfl) (ev_t rfl))) rfl rfl rfl ?_
  refine TL.nil ?_
  refine TN.seq ?_
  refine TC.cond (b := decide ((i1 : Int) < (configs.length : Int))) (ev_t rfl) (fun h23 => ?_) (fun h23 => ?_)
  · rw [bif_pos h23] at hL1
    have q24 := (of_decide_eq_true h23)
    refine TC.skip ?_
    refine TN.seq ?_
    refine TC.seq ?_
    refine TC.block ?_
    refine TC.seq ?_
    refine TC.region ?_
    refine TL.op (yq (y_assign ev_c)) rfl rfl rfl ?_
    refine TL.nil ?_
    refine TN.seq ?_
    refine TC.seq ?_
    refine TC.seq ?_
    refine TC.region ?_
    refine TL.op (yq (y_assign ev_c)) rfl rfl rfl ?_
    refine TL.nil ?_
    refine TN.seq ?_
    refine TC.block ?_
    obtain ⟨c25, hc26⟩ : ∃ c, F_spec_l7Support_L2 m configs wk i1 ((configs.length - 0) + 1) (true, 0) = c := ⟨_, rfl⟩
    rw [hc26] at hL1
    refine TC.loop (ι := Nat × Bool × Nat) (fun (fu2, own2, j2) => [(1, vconfigs), (2, vwk), (3, (.pointer (some ⟨g0_0, 0, none⟩))), (7, vout1), (8, (.int .i64 (i1 : Int))), (9, (.bool own2)), (10, (.int .i64 (j2 : Int)))]) (fun (fu2, own2, j2) => Hp w [rowI 3 vout1 out1, .blk g0_0 29 [vm]]) (fun (fu2, own2, j2) => (j2 ≤ configs.length) ∧ configs.length - j2 < fu2 ∧ F_spec_l7Support_L2 m configs wk i1 fu2 (own2, j2) = c25) (fun (fu2, own2, j2) => fu2) ((configs.length - 0) + 1, true, 0) ⟨(by first | omega | (simp [-List.getD_eq_getElem?_getD] <;> omega)), (by omega), hc26⟩ ⟨rfl, rfl, rfl, rfl, rfl, rfl, rfl, trivial⟩ (fun w hw => hw) ?_
    rintro ⟨fu2, own2, j2⟩ hJ2
    obtain ⟨hi2_0, hmu2, hL2⟩ : (j2 ≤ configs.length) ∧ configs.length - j2 < fu2 ∧ F_spec_l7Support_L2 m configs wk i1 fu2 (own2, j2) = c25 := hJ2
    change TC _ _ _ _ (Hp w [rowI 3 vout1 out1, .blk g0_0 29 [vm]]) [(1, vconfigs), (2, vwk), (3, (.pointer (some ⟨g0_0, 0, none⟩))), (7, vout1), (8, (.int .i64 (i1 : Int))), (9, (.bool own2)), (10, (.int .i64 (j2 : Int)))]
    obtain ⟨mf2, rfl⟩ : ∃ m, fu2 = m + 1 := ⟨fu2 - 1, by omega⟩
    rw [F_spec_l7Support_L2_s] at hL2
    have hw2 := hp2 j2
    have hcb := hp0.cf j2
    have hcl := hp0.eq i1 j2
    have hmv := fun h1 h2 => l6Move_le hp0.tp (hca h1) (hcb h2) (hcl h1 h2)
    refine TC.seq ?_
    refine TC.seq ?_
    refine TC.region ?_
    refine TL.op (yq (y_move (ev_t rfl))) rfl rfl rfl ?_
    refine TL.op (yq (y_move (ev_t rfl))) rfl rfl rfl ?_
    refine TL.op (yq (y_len (ev_t rfl) Try.underlying22 (fun w hw => ((fun w hw => ((rii_arg hconfigs) w hw).1) w hw).ln))) rfl rfl rfl ?_
    refine TL.op (yq (y_lss (ev_t rfl) (ev_t rfl))) rfl rfl rfl ?_
    refine TL.nil ?_
    refine TN.seq ?_
    refine TC.cond (b := decide ((j2 : Int) < (configs.length : Int))) (ev_t rfl) (fun h27 => ?_) (fun h27 => ?_)
    · rw [bif_pos h27] at hL2
      have q28 := (of_decide_eq_true h27)
      refine TC.skip ?_
      refine TN.seq ?_
      refine TC.seq ?_
      refine TC.block ?_
      refine TC.seq ?_
      refine TC.regionQ (by kernel_rfl) (by kernel_rfl) dr_hp ?_
      refine TQ.op (yq (y_move (ev_t rfl))) rfl rfl rfl ?_
      refine TQ.op (yq (y_move (ev_t rfl))) rfl rfl rfl ?_
      refine TQ.op (yq (y_neq (ev_t rfl) (ev_t rfl))) rfl rfl rfl ?_
      refine TQ.op (yq (y_move (ev_t rfl))) rfl rfl rfl ?_
      refine TQ.opw (w_t rfl rfl rfl) (fun hg => yq (y_move (ev_t rfl))) rfl rfl ?_
      refine TQ.opw (w_t rfl rfl rfl) (fun hg => yq (y_move (ev_t rfl))) rfl rfl ?_
      refine TQ.opw (w_t rfl rfl rfl) (fun hg => yq (y_idx (k := i1) (ev_g rfl hg) (ev_g rfl hg) (by first | omega | simp) slT_25 (ri_arg hwk) (show i1 < wk.length by have hgf := (of_decide_eq_false (not_t hg)); omega))) rfl rfl ?_
      refine TQ.opw (w_t rfl rfl rfl) (fun hg => yq (y_ldi (ev_g rfl hg) one_3 (ri_arg hwk) (show i1 < wk.length by have hgf := (of_decide_eq_false (not_t hg)); omega))) rfl rfl ?_
      refine TQ.opw (w_t rfl rfl rfl) (fun hg => yq (y_move (ev_t rfl))) rfl rfl ?_
      refine TQ.opw (w_t rfl rfl rfl) (fun hg => yq (y_move (ev_t rfl))) rfl rfl ?_
      refine TQ.opw (w_t rfl rfl rfl) (fun hg => yq (y_idx (k := j2) (ev_g rfl hg) (ev_g rfl hg) (by first | omega | simp) slT_25 (ri_arg hwk) (show j2 < wk.length by have hgf := (of_decide_eq_false (not_t hg)); omega))) rfl rfl ?_
      refine TQ.opw (w_t rfl rfl rfl) (fun hg => yq (y_ldi (ev_g rfl hg) one_3 (ri_arg hwk) (show j2 < wk.length by have hgf := (of_decide_eq_false (not_t hg)); omega))) rfl rfl ?_
      refine TQ.opw (w_t rfl rfl rfl) (fun hg => yq (y_ldagg (cs := [vm]) 1 (ev_t rfl) agg_29 rfl)) rfl rfl ?_
      refine TQ.opw (w_t rfl rfl rfl) (fun hg => yq (y_move (ev_t rfl))) rfl rfl ?_
      refine TQ.opw (w_t rfl rfl rfl) (fun hg => yq (y_move (ev_t rfl))) rfl rfl ?_
      refine TQ.opw (w_t rfl rfl rfl) (fun hg => yq (y_idx (k := i1) (ev_g rfl hg) (ev_g rfl hg) (by first | omega | simp) slT_22 (fun w hw => ((rii_arg hconfigs) w hw).1) (show i1 < configs.length by have hgf := (of_decide_eq_false (not_t hg)); omega))) rfl rfl ?_
      refine TQ.opw (w_t rfl rfl rfl) (fun hg => yq (y_ldA (ev_g rfl hg) one_25 (rii_arg hconfigs) (show i1 < configs.length by have hgf := (of_decide_eq_false (not_t hg)); omega))) rfl rfl ?_
      refine TQ.opw (w_t rfl rfl rfl) (fun hg => yq (y_move (ev_t rfl))) rfl rfl ?_
      refine TQ.opw (w_t rfl rfl rfl) (fun hg => yq (y_move (ev_t rfl))) rfl rfl ?_
      refine TQ.opw (w_t rfl rfl rfl) (fun hg => yq (y_idx (k := j2) (ev_g rfl hg) (ev_g rfl hg) (by first | omega | simp) slT_22 (fun w hw => ((rii_arg hconfigs) w hw).1) (show j2 < configs.length by have hgf := (of_decide_eq_false (not_t hg)); omega))) rfl rfl ?_
      refine TQ.opw (w_t rfl rfl rfl) (fun hg => yq (y_ldA (ev_g rfl hg) one_25 (rii_arg hconfigs) (show j2 < configs.length by have hgf := (of_decide_eq_false (not_t hg)); omega))) rfl rfl ?_
      refine TQ.opw (w_t rfl rfl rfl) (fun hg => y_call (vs := [(.agg #[vm]), (uconfigs.getD i1 undef), (uconfigs.getD j2 undef)]) (v := (.int .i64 (F_spec_l6Move m (configs.getD i1 []) (configs.getD j2 [])))) en_76 ⟨(ev_g rfl hg), (ev_g rfl hg), (ev_g rfl hg), trivial⟩ (fun w hw => spec_l6Move_ok w vm um m ((rii_arg hm) w hw) (uconfigs.getD i1 undef) (configs.getD i1 []) ((ri_arg (hconfigs.row (i := i1) (show i1 < configs.length by have hgf := (of_decide_eq_false (not_t hg)); omega))) w hw) (uconfigs.getD j2 undef) (configs.getD j2 []) ((ri_arg (hconfigs.row (i := j2) (show j2 < configs.length by have hgf := (of_decide_eq_false (not_t hg)); omega))) w hw) (by have hgf := (of_decide_eq_false (not_t hg)); first | assumption | omega | (have hq := hgf.n6; omega) | (have hq := hgf.1.n6; omega) | grind) (by have hgf := (of_decide_eq_false (not_t hg)); first | assumption | omega | (have hq := hgf.n6; omega) | (have hq := hgf.1.n6; omega) | grind) (by have hgf := (of_decide_eq_false (not_t hg)); first | assumption | omega | (have hq := hgf.n6; omega) | (have hq := hgf.1.n6; omega) | grind) (by have hgf := (of_decide_eq_false (not_t hg)); first | assumption | omega | (have hq := hgf.n6; omega) | (have hq := hgf.1.n6; omega) | grind))) rfl rfl ?_
      refine TQ.opw (w_t rfl rfl rfl) (fun hg => yq (y_add (ev_g rfl hg) (ev_g rfl hg) (by unfold In64; omega))) rfl rfl ?_
      refine TQ.opw (w_t rfl rfl rfl) (fun hg => yq (y_eql (ev_g rfl hg) (ev_g rfl hg))) rfl rfl ?_
      refine TQ.op (yq (y_and (ev_t rfl) (fun hq => (ev_g rfl hq)))) rfl rfl rfl ?_
      refine TQ.nil ?_
      refine TN.seq ?_
      refine TC.cond (b := ((!decide ((i1 : Int) = (j2 : Int))) && (decide ((wk.getD i1 0) = (wk.getD j2 0) + (F_spec_l6Move m (configs.getD i1 []) (configs.getD j2 [])))))) (ev_t rfl) (fun h29 => ?_) (fun h29 => ?_)
      · rw [bif_pos h29] at hL2
        have q30 := (and_imp (and_t h29) (fun h => (of_decide_eq_false (not_t h))) (fun h => (of_decide_eq_true h)))
        refine TC.region ?_
        refine TL.op (yq (y_assign ev_c)) rfl rfl rfl ?_
        refine TL.nil ?_
        refine TN.blockN ?_
        refine TN.seq ?_
        refine TC.region ?_
        refine TL.op (yq (y_move (ev_t rfl))) rfl rfl rfl ?_
        refine TL.op (yq (y_add (ev_t rfl) ev_c (by unfold In64; omega))) rfl rfl rfl ?_
        refine TL.op (yq (y_assign (ev_t rfl))) rfl rfl rfl ?_
        refine TL.nil ?_
        exact TN.hand (mf2, false, (j2 + 1)) ⟨(by first | omega | (simp [-List.getD_eq_getElem?_getD] <;> omega)), (by omega), hL2⟩ (Nat.lt_succ_self _) ⟨rfl, rfl, rfl, rfl, rfl, rfl, rfl, trivial⟩ (fun w hw => hw)
      · rw [bif_neg h29] at hL2
        have q30 := ((and_f h29).imp (fun h => (of_decide_eq_true (not_f h))) (fun h => (of_decide_eq_false h)))
        refine TC.skip ?_
        refine TN.blockN ?_
        refine TN.seq ?_
        refine TC.region ?_
        refine TL.op (yq (y_move (ev_t rfl))) rfl rfl rfl ?_
        refine TL.op (yq (y_add (ev_t rfl) ev_c (by unfold In64; omega))) rfl rfl rfl ?_
        refine TL.op (yq (y_assign (ev_t rfl))) rfl rfl rfl ?_
        refine TL.nil ?_
        exact TN.hand (mf2, own2, (j2 + 1)) ⟨(by first | omega | (simp [-List.getD_eq_getElem?_getD] <;> omega)), (by omega), hL2⟩ (Nat.lt_succ_self _) ⟨rfl, rfl, rfl, rfl, rfl, rfl, rfl, trivial⟩ (fun w hw => hw)
    · rw [bif_neg h27] at hL2
      have q28 := (of_decide_eq_false h27)
      refine TC.exit ?_
      refine TN.thenE ?_
      refine TN.thenE ?_
      rw [← hL2, elim_next] at hL1
      try dsimp only at hL1
      refine TN.blockH ?_
      refine TN.seq ?_
      refine TC.seq ?_
      refine TC.region ?_
      refine TL.op (yq (y_move (ev_t rfl))) rfl rfl rfl ?_
      refine TL.nil ?_
      refine TN.seq ?_
      refine TC.cond (b := own2) (ev_t rfl) (fun h31 => ?_) (fun h31 => ?_)
      · rw [bif_pos h31] at hL1
        have q32 := h31
        refine TC.region ?_
        refine TL.op (yq (y_move (ev_t rfl))) rfl rfl rfl ?_
        refine TL.op (yq (y_move (ev_t rfl))) rfl rfl rfl ?_
        refine TL.buildI (zs := [.tmp 51]) (qs := [(i1 : Int)]) slT_25 rfl ⟨(ev_t rfl), trivial⟩ rfl (by decide) rfl (fun v12_2 => ?_)
        refine TL.appendI 1 (ev_t rfl) (ev_t rfl) rfl slT_25 (ri_row 0 rfl) (by first | omega | (simp [-List.getD_eq_getElem?_getD] <;> omega)) rfl (fun v12_3 => ?_)
        refine TL.op (yq (y_assign (ev_t rfl))) rfl rfl rfl ?_
        refine TL.nil ?_
        refine TN.blockN ?_
        refine TN.seq ?_
        refine TC.region ?_
        refine TL.op (yq (y_move (ev_t rfl))) rfl rfl rfl ?_
        refine TL.op (yq (y_add (ev_t rfl) ev_c (by unfold In64; omega))) rfl rfl rfl ?_
        refine TL.op (yq (y_assign (ev_t rfl))) rfl rfl rfl ?_
        refine TL.nil ?_
        exact TN.hand (mf1, (out1 ++ ([(i1 : Int)])), (i1 + 1), v12_3) ⟨(by first | omega | (simp [-List.getD_eq_getElem?_getD] <;> omega)), (by first | omega | (simp [-List.getD_eq_getElem?_getD] <;> omega)), (by omega), hL1⟩ (Nat.lt_succ_self _) ⟨rfl, rfl, rfl, rfl, rfl, trivial⟩ (fun w hw => Hp.sublist hw (.cons _ (.cons_cons _ (.cons_cons _ .slnil))))
      · rw [bif_neg h31] at hL1
        have q32 := h31
        refine TC.skip ?_
        refine TN.blockN ?_
        refine TN.seq ?_
        refine TC.region ?_
        refine TL.op (yq (y_move (ev_t rfl))) rfl rfl rfl ?_
        refine TL.op (yq (y_add (ev_t rfl) ev_c (by unfold In64; omega))) rfl rfl rfl ?_
        refine TL.op (yq (y_assign (ev_t rfl))) rfl rfl rfl ?_
        refine TL.nil ?_
        exact TN.hand (mf1, out1, (i1 + 1), vout1) ⟨(by first | omega | (simp [-List.getD_eq_getElem?_getD] <;> omega)), (by first | omega | (simp [-List.getD_eq_getElem?_getD] <;> omega)), (by omega), hL1⟩ (Nat.lt_succ_self _) ⟨rfl, rfl, rfl, rfl, rfl, trivial⟩ (fun w hw => hw)
  · rw [bif_neg h23] at hL1
    have q24 := (of_decide_eq_false h23)
    refine TC.exit ?_
    refine TN.thenE ?_
    refine TN.thenE ?_
    rw [← hL1, elim_next] at hF
    try dsimp only at hF
    refine TN.blockH ?_
    refine TN.seq ?_
    refine TC.seq ?_
    refine TC.region ?_
    refine TL.op (yq (y_move (ev_t rfl))) rfl rfl rfl ?_
    refine TL.op (yq (y_assign (ev_t rfl))) rfl rfl rfl ?_
    refine TL.nil ?_
    refine TN.seq ?_
    refine TC.ret ?_
    subst hF
    exact TN.ret1 rfl (ev_t rfl) (fun w' hw => ⟨vout1, rfl, Hp.sublist hw (.cons_cons _ (.cons _ .slnil))⟩)

set_option maxRecDepth 4000 in
set_option maxHeartbeats 1000000 in
theorem spec_SupportOf_ok (w : World) (vm : Value) (um : List Value) (m : List (List Int)) (hm : RII w vm um m) (k : Int) (vwk : Value) (wk : List Int) (hwk : RI w vwk wk)  :
    Calls Try.prog 27 ([(.agg #[vm]), (.int .i64 k), vwk] : List Value).toArray w (fun e w' => ∃ i : Value × List Value, e = .returned (.tuple #[i.1, (.bool ((F_spec_SupportOf m k wk).2))]) ∧ Hp w [tabI 25 3 i.1 i.2 ((F_spec_SupportOf m k wk).1)] w') := by
  obtain ⟨rz, hF⟩ : ∃ rz, (F_spec_SupportOf m k wk) = rz := ⟨_, rfl⟩
  rw [hF]
  unfold F_spec_SupportOf at hF
  have hlen_m := argT_len hm
  have hlen_wk := arg_len hwk
  refine calls_tc Try.func27 rfl rfl rfl ?_
  change TC _ _ _ _ (Hp w []) [(0, (.agg #[vm])), (1, (.int .i64 k)), (2, vwk)]
  refine TC.seq ?_
  refine TC.region ?_
  refine TL.box (ev_t rfl) rfl (fun g0_0 => ?_)
  refine TL.op (yq (y_assign ev_c)) rfl rfl rfl ?_
  refine TL.op (yq (y_assign ev_c)) rfl rfl rfl ?_
  refine TL.nil ?_
  refine TN.seq ?_
  refine TC.seq ?_
  refine TC.region ?_
  refine TL.buildSlice (zs := []) (vs := []) slT_22 rfl trivial (by simp) rfl (by decide) rfl (fun v1_0 => ?_)
  refine TL.op (yq (y_assign (ev_t rfl))) rfl rfl rfl ?_
  refine TL.nil ?_
  refine TN.seq ?_
  refine TC.seq ?_
  refine TC.seq ?_
  refine TC.region ?_
  refine TL.op (yq (y_ldagg (cs := [vm]) 1 (ev_t rfl) agg_29 rfl)) rfl rfl rfl ?_
  refine TL.op (yq (y_move (ev_t rfl))) rfl rfl rfl ?_
  refine TL.op (yq (y_move (ev_t rfl))) rfl rfl rfl ?_
  refine TL.op (y_call (vs := [(.agg #[vm]), (.int .i64 k), vwk, (.int .i64 0)]) (v := (.bool (F_spec_l7Given m k wk 0))) en_58 ⟨(ev_t rfl), (ev_t rfl), (ev_t rfl), ev_c, trivial⟩ (fun w hw => spec_l7Given_ok w vm um m ((rii_arg hm) w hw) k vwk wk ((ri_arg hwk) w hw) 0)) rfl rfl rfl ?_
  refine TL.op (yq (y_not (ev_t rfl))) rfl rfl rfl ?_
  refine TL.nil ?_
  refine TN.seq ?_
  refine TC.cond (b := !(F_spec_l7Given m k wk 0)) (ev_t rfl) (fun h11 => ?_) (fun h11 => ?_)
  · rw [bif_pos h11] at hF
    have q12 := (not_t h11)
    refine TC.seq ?_
    refine TC.region ?_
    refine TL.op (yq (y_move (ev_t rfl))) rfl rfl rfl ?_
    refine TL.op (yq (y_assign (ev_t rfl))) rfl rfl rfl ?_
    refine TL.op (yq (y_assign ev_c)) rfl rfl rfl ?_
    refine TL.nil ?_
    refine TN.seq ?_
    refine TC.ret ?_
    refine TN.thenR ?_
    subst hF
    refine TN.cls (fun w hw => Hp.gather0 0 3 rfl hw) ?_
    exact TN.ret2 rfl (ev_t rfl) (ev_t rfl) (fun w' hw => ⟨(v1_0, ([] : List Value)), rfl, hw⟩)
  · rw [bif_neg h11] at hF
    have q12 := (l7Given_t (not_f h11))
    have hGv := q12
    have hWf := hGv.wf
    have hKs := hGv.ks
    have hgl := hGv.len
    have hwb : ∀ i, 0 ≤ wk.getD i 0 ∧ wk.getD i 0 ≤ 1073741824 := fun i => by have := hGv.el i; omega
    have hKc := hKs.ksc
    have hn6 := hKs.tab.n6
    have hk3 := hKs.k3
    have h56 := hKs.s56
    have hsl := support_len hWf
    have hsl1 := hsl.1
    refine TC.skip ?_
    refine TN.seq ?_
    refine TC.seq ?_
    refine TC.region ?_
    refine TL.op (yq (y_fa (fa_29_0 g0_0) (ev_t rfl))) rfl rfl rfl ?_
    refine TL.op (yq (y_ldb 1 (ev_t rfl) one_22 rfl rfl)) rfl rfl rfl ?_
    refine TL.op (yq (y_len (ev_t rfl) Try.underlying22 (fun w hw => ((fun w hw => ((rii_arg hm) w hw).1) w hw).ln))) rfl rfl rfl ?_
    refine TL.op (yq (y_move (ev_t rfl))) rfl rfl rfl ?_
    refine TL.callr (ι := Value × List Value) (vs := [(.int .i64 (m.length : Int)), (.int .i64 k)]) (fun i => i.1) (fun i => [tabI 25 3 i.1 i.2 (F_spec_l6Configs (m.length : Int) k)]) en_54 ⟨(ev_t rfl), (ev_t rfl), trivial⟩ rfl (fun w hw => spec_l6Configs_ok w (m.length : Int) k (by first | assumption | omega | grind) (by first | assumption | omega | grind)) (fun r4_4 => ?_)
    refine TL.op (yq (y_assign (ev_t rfl))) rfl rfl rfl ?_
    refine TL.nil ?_
    refine TN.seq ?_
    refine TC.seq ?_
    refine TC.region ?_
    refine TL.op (yq (y_ldagg (cs := [vm]) 2 (ev_t rfl) agg_29 rfl)) rfl rfl rfl ?_
    refine TL.op (yq (y_move (ev_t rfl))) rfl rfl rfl ?_
    refine TL.op (yq (y_move (ev_t rfl))) rfl rfl rfl ?_
    refine TL.callr (ι := Value) (vs := [(.agg #[vm]), r4_4.1, vwk]) (fun i => i) (fun i => [rowI 3 i (F_spec_l7Support m (F_spec_l6Configs (m.length : Int) k) wk)]) en_63 ⟨(ev_t rfl), (ev_t rfl), (ev_t rfl), trivial⟩ rfl (fun w hw => spec_l7Support_ok w vm um m ((rii_arg hm) w hw) r4_4.1 r4_4.2 (F_spec_l6Configs (m.length : Int) k) ((rii_tab 0 rfl) w hw) vwk wk ((ri_arg hwk) w hw) (by first | assumption | omega | grind) (by first | assumption | omega | grind) (by first | assumption | omega | grind)) (fun r5_3 => ?_)
    refine TL.op (yq (y_assign (ev_t rfl))) rfl rfl rfl ?_
    refine TL.nil ?_
    refine TN.seq ?_
    refine TC.seq ?_
    refine TC.seq ?_
    refine TC.region ?_
    refine TL.op (yq (y_assign ev_c)) rfl rfl rfl ?_
    refine TL.nil ?_
    refine TN.seq ?_
    refine TC.block ?_
    obtain ⟨c13, hc14⟩ : ∃ c, F_spec_SupportOf_L1 m k wk ((((F_spec_l7Support m (F_spec_l6Configs (m.length : Int) k) wk).length) - 0) + 1) (([] : List (List Int)), 0) = c := ⟨_, rfl⟩
    rw [hc14] at hF
    refine TC.loop (ι := Nat × List (List Int) × Nat × Value × List Value) (fun (fu1, out1, i1, vout1, uout1) => [(8, vout1), (9, r4_4.1), (10, r5_3), (11, (.int .i64 (i1 : Int)))]) (fun (fu1, out1, i1, vout1, uout1) => Hp w [rowI 3 r5_3 (F_spec_l7Support m (F_spec_l6Configs (m.length : Int) k) wk), tabI 25 3 r4_4.1 r4_4.2 (F_spec_l6Configs (m.length : Int) k), .row vout1 25 1 uout1.length uout1]) (fun (fu1, out1, i1, vout1, uout1) => (i1 ≤ ((F_spec_l7Support m (F_spec_l6Configs (m.length : Int) k) wk).length)) ∧ (out1.length = i1) ∧ (uout1 = ((F_spec_l7Support m (F_spec_l6Configs (m.length : Int) k) wk).take i1).map (fun z => r4_4.2.getD z.toNat undef)) ∧ (out1 = ((F_spec_l7Support m (F_spec_l6Configs (m.length : Int) k) wk).take i1).map (fun z => (F_spec_l6Configs (m.length : Int) k).getD z.toNat [])) ∧ (uout1.length = i1) ∧ ((F_spec_l7Support m (F_spec_l6Configs (m.length : Int) k) wk).length) - i1 < fu1 ∧ F_spec_SupportOf_L1 m k wk fu1 (out1, i1) = c13) (fun (fu1, out1, i1, vout1, uout1) => fu1) ((((F_spec_l7Support m (F_spec_l6Configs (m.length : Int) k) wk).length) - 0) + 1, ([] : List (List Int)), 0, v1_0, ([] : List Value)) ⟨(by first | omega | (simp [-List.getD_eq_getElem?_getD] <;> omega)), (by first | omega | (simp [-List.getD_eq_getElem?_getD] <;> omega)), rfl, rfl, (by first | omega | (simp [-List.getD_eq_getElem?_getD] <;> omega)), (by omega), hc14⟩ ⟨rfl, rfl, rfl, rfl, trivial⟩ (fun w hw => Hp.sublist hw (.cons_cons _ (.cons_cons _ (.cons_cons _ (.cons _ .slnil))))) ?_
    rintro ⟨fu1, out1, i1, vout1, uout1⟩ hJ1
    obtain ⟨hi1_0, hi1_1, hi1_2, hi1_3, hi1_4, hmu1, hL1⟩ : (i1 ≤ ((F_spec_l7Support m (F_spec_l6Configs (m.length : Int) k) wk).length)) ∧ (out1.length = i1) ∧ (uout1 = ((F_spec_l7Support m (F_spec_l6Configs (m.length : Int) k) wk).take i1).map (fun z => r4_4.2.getD z.toNat undef)) ∧ (out1 = ((F_spec_l7Support m (F_spec_l6Configs (m.length : Int) k) wk).take i1).map (fun z => (F_spec_l6Configs (m.length : Int) k).getD z.toNat [])) ∧ (uout1.length = i1) ∧ ((F_spec_l7Support m (F_spec_l6Configs (m.length : Int) k) wk).length) - i1 < fu1 ∧ F_spec_SupportOf_L1 m k wk fu1 (out1, i1) = c13 := hJ1
    change TC _ _ _ _ (Hp w [rowI 3 r5_3 (F_spec_l7Support m (F_spec_l6Configs (m.length : Int) k) wk), tabI 25 3 r4_4.1 r4_4.2 (F_spec_l6Configs (m.length : Int) k), .row vout1 25 1 uout1.length uout1]) [(8, vout1), (9, r4_4.1), (10, r5_3), (11, (.int .i64 (i1 : Int)))]
    obtain ⟨mf1, rfl⟩ : ∃ m, fu1 = m + 1 := ⟨fu1 - 1, by omega⟩
    rw [F_spec_SupportOf_L1_s] at hL1
    have hse := hsl.2 i1
    refine TC.seq ?_
    refine TC.seq ?_
    refine TC.region ?_
    refine TL.op (yq (y_move (ev_t rfl))) rfl rfl rfl ?_
    refine TL.op (yq (y_move (ev_t rfl))) rfl rfl rfl ?_
    refine TL.op (yq (y_len (ev_t rfl) Try.underlying25 (fun w hw => ((ri_row 0 rfl) w hw).ln))) rfl rfl rfl ?_
    refine TL.op (yq (y_lss (ev_t rfl) (ev_t rfl))) rfl rfl rfl ?_
    refine TL.nil ?_
    refine TN.seq ?_
    refine TC.cond (b := decide ((i1 : Int) < ((F_spec_l7Support m (F_spec_l6Configs (m.length : Int) k) wk).length : Int))) (ev_t rfl) (fun h15 => ?_) (fun h15 => ?_)
    · rw [bif_pos h15] at hL1
      have q16 := (of_decide_eq_true h15)
      refine TC.skip ?_
      refine TN.seq ?_
      refine TC.seq ?_
      refine TC.block ?_
      refine TC.region ?_
      refine TL.op (yq (y_move (ev_t rfl))) rfl rfl rfl ?_
      refine TL.op (yq (y_move (ev_t rfl))) rfl rfl rfl ?_
      refine TL.op (yq (y_move (ev_t rfl))) rfl rfl rfl ?_
      refine TL.op (yq (y_move (ev_t rfl))) rfl rfl rfl ?_
      have hb17 : i1 < (F_spec_l7Support m (F_spec_l6Configs (m.length : Int) k) wk).length := (by first | omega | (simp only [List.length_set, List.length_append, List.length_cons, List.length_nil, List.length_replicate]; omega) | (rw [sortI_length]; simp only [List.length_cons, List.length_nil]; omega))
      refine TL.op (yq (y_idx (k := i1) (ev_t rfl) (ev_t rfl) (by first | omega | simp) slT_25 (ri_row 0 rfl) hb17)) rfl rfl rfl ?_
      refine TL.op (yq (y_ldi (ev_t rfl) one_3 (ri_row 0 rfl) hb17)) rfl rfl rfl ?_
      have hb18 : (((F_spec_l7Support m (F_spec_l6Configs (m.length : Int) k) wk).getD i1 0)).toNat < (F_spec_l6Configs (m.length : Int) k).length := (by first | omega | (simp only [List.length_set, List.length_append, List.length_cons, List.length_nil, List.length_replicate]; omega) | (rw [sortI_length]; simp only [List.length_cons, List.length_nil]; omega))
      refine TL.op (yq (y_idx (k := (((F_spec_l7Support m (F_spec_l6Configs (m.length : Int) k) wk).getD i1 0)).toNat) (ev_t rfl) (ev_t rfl) (by first | omega | simp) slT_22 (fun w hw => ((rii_tab 1 rfl) w hw).1) hb18)) rfl rfl rfl ?_
      refine TL.op (yq (y_ldT 1 (ev_t rfl) one_25 rfl hb18)) rfl rfl rfl ?_
      refine TL.buildU slT_22 (ev_t rfl) (fun w hw => ((ri_tab 1 ((((F_spec_l7Support m (F_spec_l6Configs (m.length : Int) k) wk).getD i1 0)).toNat) rfl hb18) w hw).ln) rfl (fun v9_8 => ?_)
      refine TL.appendG 3 0 (ev_t rfl) (ev_t rfl) rfl rfl slT_22 (ri_tab 2 ((((F_spec_l7Support m (F_spec_l6Configs (m.length : Int) k) wk).getD i1 0)).toNat) rfl hb18) (by first | omega | (simp [-List.getD_eq_getElem?_getD] <;> omega)) rfl (fun v9_9 => ?_)
      refine TL.op (yq (y_assign (ev_t rfl))) rfl rfl rfl ?_
      refine TL.nil ?_
      refine TN.blockN ?_
      refine TN.seq ?_
      refine TC.region ?_
      refine TL.op (yq (y_move (ev_t rfl))) rfl rfl rfl ?_
      refine TL.op (yq (y_add (ev_t rfl) ev_c (by unfold In64; omega))) rfl rfl rfl ?_
      refine TL.op (yq (y_assign (ev_t rfl))) rfl rfl rfl ?_
      refine TL.nil ?_
      exact TN.hand (mf1, (out1 ++ [((F_spec_l6Configs (m.length : Int) k).getD ((((F_spec_l7Support m (F_spec_l6Configs (m.length : Int) k) wk).getD i1 0)).toNat) [])]), (i1 + 1), v9_9, (uout1 ++ [(r4_4.2.getD ((((F_spec_l7Support m (F_spec_l6Configs (m.length : Int) k) wk).getD i1 0)).toNat) undef)])) ⟨(by first | omega | (simp [-List.getD_eq_getElem?_getD] <;> omega)), (by first | omega | (simp [-List.getD_eq_getElem?_getD] <;> omega)), (gat_push undef (fun q => r4_4.2.getD q undef) hi1_2 (by omega)), (gat_push [] (fun q => (F_spec_l6Configs (m.length : Int) k).getD q []) hi1_3 (by omega)), (by first | omega | (simp [-List.getD_eq_getElem?_getD] <;> omega)), (by omega), hL1⟩ (Nat.lt_succ_self _) ⟨rfl, rfl, rfl, rfl, trivial⟩ (fun w hw => Hp.sublist hw (.cons _ (.cons_cons _ (.cons_cons _ (.cons_cons _ .slnil)))))
    · rw [bif_neg h15] at hL1
      have q16 := (of_decide_eq_false h15)
      refine TC.exit ?_
      refine TN.thenE ?_
      refine TN.thenE ?_
      rw [← hL1, elim_next] at hF
      try dsimp only at hF
      refine TN.blockH ?_
      refine TN.seq ?_
      refine TC.seq ?_
      refine TC.region ?_
      refine TL.op (yq (y_move (ev_t rfl))) rfl rfl rfl ?_
      refine TL.op (yq (y_assign (ev_t rfl))) rfl rfl rfl ?_
      refine TL.op (yq (y_assign ev_c)) rfl rfl rfl ?_
      refine TL.nil ?_
      refine TN.seq ?_
      refine TC.ret ?_
      subst hF
      refine TN.cls (fun w hw => Hp.gather 2 1 rfl rfl (gather_ok hWf (by omega) hi1_2 hi1_3) hw) ?_
      exact TN.ret2 rfl (ev_t rfl) (ev_t rfl) (fun w' hw => ⟨(vout1, uout1), rfl, hw⟩)

set_option maxRecDepth 4000 in
set_option maxHeartbeats 1000000 in
theorem laws_FnExactSupportOf_ok (w : World) (vm : Value) (um : List Value) (m : List (List Int)) (hm : RII w vm um m) (k : Int) (vwk : Value) (wk : List Int) (hwk : RI w vwk wk)  :
    Calls Try.prog 5 ([(.agg #[vm]), (.int .i64 k), vwk] : List Value).toArray w (Ret (.bool (F_laws_FnExactSupportOf m k wk)) (Hp w [])) := by
  obtain ⟨rz, hF⟩ : ∃ rz, (F_laws_FnExactSupportOf m k wk) = rz := ⟨_, rfl⟩
  rw [hF]
  unfold F_laws_FnExactSupportOf at hF
  have hta := toIntS_eq wk
  have hut := supportOf_total (F_laws_toMetric m) k (F_laws_toIntS wk)
  have hmt := markIntSS_total (F_impl_SupportOf (F_laws_toMetric m) k (F_laws_toIntS wk)).1 1
  have hk1 := markMetric_fst (F_laws_toMetric m) 1
  have hk2 := markIntS_fst (F_laws_toIntS wk) (F_laws_markMetric (F_laws_toMetric m) 1).1
  have hlen_m := argT_len hm
  have hlen_wk := arg_len hwk
  refine calls_tc Try.func5 rfl rfl rfl ?_
  change TC _ _ _ _ (Hp w []) [(0, (.agg #[vm])), (1, (.int .i64 k)), (2, vwk)]
  refine TC.seq ?_
  refine TC.region ?_
  refine TL.box (ev_t rfl) rfl (fun g0_0 => ?_)
  refine TL.op (yq (y_assign ev_c)) rfl rfl rfl ?_
  refine TL.nil ?_
  refine TN.seq ?_
  refine TC.seq ?_
  refine TC.seq ?_
  refine TC.region ?_
  refine TL.op (yq (y_move (ev_t rfl))) rfl rfl rfl ?_
  refine TL.op (yq (y_len (ev_t rfl) Try.underlying25 (fun w hw => ((ri_arg hwk) w hw).ln))) rfl rfl rfl ?_
  refine TL.op (yq (y_gtr (ev_t rfl) ev_c)) rfl rfl rfl ?_
  refine TL.nil ?_
  refine TN.seq ?_
  refine TC.cond (b := decide (1048576 < (wk.length : Int))) (ev_t rfl) (fun h23 => ?_) (fun h23 => ?_)
  · rw [bif_pos h23] at hF
    have q24 := (of_decide_eq_true h23)
    refine TC.seq ?_
    refine TC.region ?_
    refine TL.op (yq (y_assign ev_c)) rfl rfl rfl ?_
    refine TL.nil ?_
    refine TN.seq ?_
    refine TC.ret ?_
    refine TN.thenR ?_
    subst hF
    exact TN.ret1 rfl (ev_t rfl) (fun w' hw => ⟨rfl, Hp.sublist hw (List.nil_sublist _)⟩)
  · rw [bif_neg h23] at hF
    have q24 := (of_decide_eq_false h23)
    refine TC.skip ?_
    refine TN.seq ?_
    refine TC.seq ?_
    refine TC.region ?_
    refine TL.op (yq (y_assign ev_c)) rfl rfl rfl ?_
    refine TL.nil ?_
    refine TN.seq ?_
    refine TC.seq ?_
    refine TC.region ?_
    refine TL.op (yq (y_ldagg (cs := [vm]) 0 (ev_t rfl) agg_24 rfl)) rfl rfl rfl ?_
    refine TL.op (yq (y_move (ev_t rfl))) rfl rfl rfl ?_
    refine TL.op (y_call (vs := [(.agg #[vm]), (.int .i64 1048576)]) (v := (.int .i64 (F_laws_szMetric m 1048576))) en_15 ⟨(ev_t rfl), (ev_t rfl), trivial⟩ (fun w hw => laws_szMetric_ok w vm um m ((rii_arg hm) w hw) 1048576 (by first | assumption | omega | grind) (by first | assumption | omega | grind))) rfl rfl rfl ?_
    refine TL.op (yq (y_assign (ev_t rfl))) rfl rfl rfl ?_
    refine TL.nil ?_
    refine TN.seq ?_
    refine TC.seq ?_
    refine TC.seq ?_
    refine TC.region ?_
    refine TL.op (yq (y_move (ev_t rfl))) rfl rfl rfl ?_
    refine TL.op (yq (y_lss (ev_t rfl) ev_c)) rfl rfl rfl ?_
    refine TL.nil ?_
    refine TN.seq ?_
    refine TC.cond (b := decide ((F_laws_szMetric m 1048576) < 0)) (ev_t rfl) (fun h25 => ?_) (fun h25 => ?_)
    · rw [bif_pos h25] at hF
      have q26 := (of_decide_eq_true h25)
      refine TC.seq ?_
      refine TC.region ?_
      refine TL.op (yq (y_assign ev_c)) rfl rfl rfl ?_
      refine TL.nil ?_
      refine TN.seq ?_
      refine TC.ret ?_
      refine TN.thenR ?_
      subst hF
      exact TN.ret1 rfl (ev_t rfl) (fun w' hw => ⟨rfl, Hp.sublist hw (List.nil_sublist _)⟩)
    · rw [bif_neg h25] at hF
      have q26 := (of_decide_eq_false h25)
      have hsz := szMetric_t (m := m) (left := 1048576) (by omega)
      have hsz1 : ∀ i, (m.getD i []).length ≤ 1048576 := fun i => by have := hsz.2 i; omega
      have hsz2 : m.length + total m ≤ 1048576 := by have := hsz.1; omega
      have htm := toMetric_eq m
      refine TC.skip ?_
      refine TN.seq ?_
      refine TC.seq ?_
      refine TC.region ?_
      refine TL.op (yq (y_ldagg (cs := [vm]) 0 (ev_t rfl) agg_24 rfl)) rfl rfl rfl ?_
      refine TL.callr (ι := Value × List Value) (vs := [(.agg #[vm])]) (fun i => (.agg #[i.1])) (fun i => [tabI 25 3 i.1 i.2 (F_laws_toMetric m)]) en_17 ⟨(ev_t rfl), trivial⟩ rfl (fun w hw => laws_toMetric_ok w vm um m ((rii_arg hm) w hw) (by first | assumption | omega | grind) (by first | assumption | omega | grind)) (fun r7_1 => ?_)
      refine TL.op (yq (y_move (ev_t rfl))) rfl rfl rfl ?_
      refine TL.op (yq (y_move (ev_t rfl))) rfl rfl rfl ?_
      refine TL.callr (ι := Value) (vs := [vwk]) (fun i => i) (fun i => [rowI 3 i (F_laws_toIntS wk)]) en_18 ⟨(ev_t rfl), trivial⟩ rfl (fun w hw => laws_toIntS_ok w vwk wk ((ri_arg hwk) w hw) (by first | assumption | omega | grind)) (fun r7_4 => ?_)
      refine TL.callr (ι := Value × List Value) (vs := [(.agg #[r7_1.1]), (.int .i64 k), r7_4]) (fun i => (.tuple #[i.1, (.bool ((F_spec_SupportOf (F_laws_toMetric m) k (F_laws_toIntS wk)).2))])) (fun i => [tabI 25 3 i.1 i.2 ((F_spec_SupportOf (F_laws_toMetric m) k (F_laws_toIntS wk)).1)]) en_27 ⟨(ev_t rfl), (ev_t rfl), (ev_t rfl), trivial⟩ rfl (fun w hw => spec_SupportOf_ok w r7_1.1 r7_1.2 (F_laws_toMetric m) ((rii_tab 1 rfl) w hw) k r7_4 (F_laws_toIntS wk) ((ri_row 0 rfl) w hw)) (fun r7_5 => ?_)
      refine TL.op (yq (y_move (ev_t rfl))) rfl rfl rfl ?_
      refine TL.op (yq (y_extract (ev_t rfl) rfl)) rfl rfl rfl ?_
      refine TL.op (yq (y_extract (ev_t rfl) rfl)) rfl rfl rfl ?_
      refine TL.op (yq (y_assign (ev_t rfl))) rfl rfl rfl ?_
      refine TL.op (yq (y_assign (ev_t rfl))) rfl rfl rfl ?_
      refine TL.nil ?_
      refine TN.seq ?_
      refine TC.seq ?_
      refine TC.region ?_
      refine TL.op (yq (y_ldagg (cs := [vm]) 3 (ev_t rfl) agg_24 rfl)) rfl rfl rfl ?_
      refine TL.callr (ι := Value × List Value) (vs := [(.agg #[vm])]) (fun i => (.agg #[i.1])) (fun i => [tabI 25 3 i.1 i.2 (F_laws_toMetric m)]) en_17 ⟨(ev_t rfl), trivial⟩ rfl (fun w hw => laws_toMetric_ok w vm um m ((rii_arg hm) w hw) (by first | assumption | omega | grind) (by first | assumption | omega | grind)) (fun r8_1 => ?_)
      refine TL.alloc (u := (.agg #[(.slice none 0 0)])) (by kernel_rfl) rfl (fun g8_2 => ?_)
      refine TL.storeAgg (cs := [(.slice none 0 0)]) (us := [r8_1.1]) 0 (ev_t rfl) (ev_t rfl) agg_29 rfl rfl (fun w hw => (ocs_cons (ln_one ((fun w hw => ((rii_tab 1 rfl) w hw).1) w hw).ln) ocs_nil)) ?_
      refine TL.nil ?_
      refine TN.seq ?_
      refine TC.seq ?_
      refine TC.region ?_
      refine TL.op (yq (y_move (ev_t rfl))) rfl rfl rfl ?_
      refine TL.callr (ι := Value) (vs := [vwk]) (fun i => i) (fun i => [rowI 3 i (F_laws_toIntS wk)]) en_18 ⟨(ev_t rfl), trivial⟩ rfl (fun w hw => laws_toIntS_ok w vwk wk ((ri_arg hwk) w hw) (by first | assumption | omega | grind)) (fun r9_1 => ?_)
      refine TL.op (yq (y_assign (ev_t rfl))) rfl rfl rfl ?_
      refine TL.nil ?_
      refine TN.seq ?_
      refine TC.seq ?_
      refine TC.region ?_
      refine TL.op (yq (y_ldagg (cs := [r8_1.1]) 1 (ev_t rfl) agg_29 rfl)) rfl rfl rfl ?_
      refine TL.op (yq (y_move (ev_t rfl))) rfl rfl rfl ?_
      refine TL.op (yq (y_move (ev_t rfl))) rfl rfl rfl ?_
      refine TL.callr (ι := Value × List Value) (vs := [(.agg #[r8_1.1]), (.int .i64 k), r9_1]) (fun i => (.tuple #[i.1, (.bool ((F_impl_SupportOf (F_laws_toMetric m) k (F_laws_toIntS wk)).2))])) (fun i => [tabI 25 3 i.1 i.2 ((F_impl_SupportOf (F_laws_toMetric m) k (F_laws_toIntS wk)).1)]) en_28 ⟨(ev_t rfl), (ev_t rfl), (ev_t rfl), trivial⟩ rfl (fun w hw => impl_SupportOf_ok w r8_1.1 r8_1.2 (F_laws_toMetric m) ((rii_tab 2 rfl) w hw) k r9_1 (F_laws_toIntS wk) ((ri_row 0 rfl) w hw)) (fun r10_3 => ?_)
      refine TL.op (yq (y_move (ev_t rfl))) rfl rfl rfl ?_
      refine TL.op (yq (y_extract (ev_t rfl) rfl)) rfl rfl rfl ?_
      refine TL.op (yq (y_extract (ev_t rfl) rfl)) rfl rfl rfl ?_
      refine TL.op (yq (y_assign (ev_t rfl))) rfl rfl rfl ?_
      refine TL.op (yq (y_assign (ev_t rfl))) rfl rfl rfl ?_
      refine TL.nil ?_
      refine TN.seq ?_
      refine TC.seq ?_
      refine TC.seq ?_
      refine TC.region ?_
      refine TL.op (yq (y_move (ev_t rfl))) rfl rfl rfl ?_
      refine TL.op (yq (y_move (ev_t rfl))) rfl rfl rfl ?_
      refine TL.op (y_call (vs := [r10_3.1, r7_5.1]) (v := (.bool (F_laws_eqIntSS ((F_impl_SupportOf (F_laws_toMetric m) k (F_laws_toIntS wk)).1) ((F_spec_SupportOf (F_laws_toMetric m) k (F_laws_toIntS wk)).1)))) en_29 ⟨(ev_t rfl), (ev_t rfl), trivial⟩ (fun w hw => laws_eqIntSS_ok w r10_3.1 r10_3.2 ((F_impl_SupportOf (F_laws_toMetric m) k (F_laws_toIntS wk)).1) ((rii_tab 0 rfl) w hw) r7_5.1 r7_5.2 ((F_spec_SupportOf (F_laws_toMetric m) k (F_laws_toIntS wk)).1) ((rii_tab 4 rfl) w hw))) rfl rfl rfl ?_
      refine TL.op (yq (y_not (ev_t rfl))) rfl rfl rfl ?_
      refine TL.op (yq (y_move (ev_t rfl))) rfl rfl rfl ?_
      refine TL.opw (w_f rfl rfl rfl) (fun hg => yq (y_move (ev_t rfl))) rfl rfl ?_
      refine TL.opw (w_f rfl rfl rfl) (fun hg => yq (y_move (ev_t rfl))) rfl rfl ?_
      refine TL.opw (w_f rfl rfl rfl) (fun hg => yq (y_bneq (ev_g rfl hg) (ev_g rfl hg) Try.underlying4)) rfl rfl ?_
      refine TL.op (yq (y_or (ev_t rfl) (fun hq => (ev_g rfl hq)))) rfl rfl rfl ?_
      refine TL.nil ?_
      refine TN.seq ?_
      refine TC.cond (b := ((!(F_laws_eqIntSS ((F_impl_SupportOf (F_laws_toMetric m) k (F_laws_toIntS wk)).1) ((F_spec_SupportOf (F_laws_toMetric m) k (F_laws_toIntS wk)).1))) || (((F_impl_SupportOf (F_laws_toMetric m) k (F_laws_toIntS wk)).2) != ((F_spec_SupportOf (F_laws_toMetric m) k (F_laws_toIntS wk)).2)))) (ev_t rfl) (fun h27 => ?_) (fun h27 => ?_)
      · rw [bif_pos h27] at hF
        have q28 := ((or_t h27).imp (fun h => (not_t h)) (fun h => h))
        refine TC.seq ?_
        refine TC.region ?_
        refine TL.op (yq (y_assign ev_c)) rfl rfl rfl ?_
        refine TL.nil ?_
        refine TN.seq ?_
        refine TC.ret ?_
        refine TN.thenR ?_
        subst hF
        exact TN.ret1 rfl (ev_t rfl) (fun w' hw => ⟨rfl, Hp.sublist hw (List.nil_sublist _)⟩)
      · rw [bif_neg h27] at hF
        have q28 := (and_imp (or_f h27) (fun h => (not_f h)) (fun h => h))
        refine TC.skip ?_
        refine TN.seq ?_
        refine TC.seq ?_
        refine TC.seq ?_
        refine TC.regionH 5 (Hp w [tabI 25 3 r10_3.1 r10_3.2 ((F_impl_SupportOf (F_laws_toMetric m) k (F_laws_toIntS wk)).1), rowI 3 r9_1 (F_laws_toIntS wk), .blk g8_2 29 [r8_1.1], tabI 25 3 r8_1.1 r8_1.2 (F_laws_toMetric m), tabI 25 3 r7_5.1 r7_5.2 ((F_spec_SupportOf (F_laws_toMetric m) k (F_laws_toIntS wk)).1), rowI 3 r7_4 (F_laws_toIntS wk), tabI 25 3 r7_1.1 r7_1.2 (F_laws_toMetric m), .blk g0_0 24 [vm]]) rfl (by kernel_rfl) dr_hp (fun w hw => hw) ?_
        refine TH.take 0 rfl (by kernel_rfl) (y_ldagg (cs := [r8_1.1]) 2 (ev_t rfl) agg_29 rfl) rfl rfl rfl ?_
        refine TH.take 1 rfl (by kernel_rfl) (y_ldagg (cs := [vm]) 7 (ev_t rfl) agg_24 rfl) rfl rfl rfl ?_
        refine TH.loud 2 rfl (by kernel_rfl) ?_
        refine TL.callr (ι := Value × List Value) (vs := [(.agg #[vm])]) (fun i => (.agg #[i.1])) (fun i => [tabI 25 3 i.1 i.2 (F_laws_toMetric m)]) en_17 ⟨(ev_t rfl), trivial⟩ rfl (fun w hw => laws_toMetric_ok w vm um m ((rii_arg hm) w hw) (by first | assumption | omega | grind) (by first | assumption | omega | grind)) (fun r13_2 => ?_)
        refine TL.nil ?_
        refine TH.back (fun w hw => Hp.sublist hw (.cons _ (.cons_cons _ (.cons_cons _ (.cons_cons _ (.cons_cons _ (.cons_cons _ (.cons_cons _ (.cons_cons _ (.cons_cons _ .slnil)))))))))) ?_
        refine TH.loud 3 rfl (by kernel_rfl) ?_
        refine TL.op (y_call (vs := [(.agg #[r8_1.1]), (.agg #[r13_2.1])]) (v := (.bool (F_laws_eqMetric (F_laws_toMetric m) (F_laws_toMetric m)))) en_20 ⟨(ev_t rfl), (ev_t rfl), trivial⟩ (fun w hw => laws_eqMetric_ok w r8_1.1 r8_1.2 (F_laws_toMetric m) ((rii_tab 4 rfl) w hw) r13_2.1 r13_2.2 (F_laws_toMetric m) ((rii_tab 0 rfl) w hw))) rfl rfl rfl ?_
        refine TL.nil ?_
        refine TH.back (fun w hw => Hp.sublist hw (.cons _ (.cons_cons _ (.cons_cons _ (.cons_cons _ (.cons_cons _ (.cons_cons _ (.cons_cons _ (.cons_cons _ (.cons_cons _ .slnil)))))))))) ?_
        refine TH.take 4 rfl (by kernel_rfl) (y_not (ev_t rfl)) rfl rfl rfl ?_
        refine TH.done (by kernel_rfl) ?_
        refine TN.seq ?_
        refine TC.cond (b := !(F_laws_eqMetric (F_laws_toMetric m) (F_laws_toMetric m))) (ev_t rfl) (fun h29 => ?_) (fun h29 => ?_)
        · rw [bif_pos h29] at hF
          have q30 := (not_t h29)
          refine TC.seq ?_
          refine TC.region ?_
          refine TL.op (yq (y_assign ev_c)) rfl rfl rfl ?_
          refine TL.nil ?_
          refine TN.seq ?_
          refine TC.ret ?_
          refine TN.thenR ?_
          subst hF
          exact TN.ret1 rfl (ev_t rfl) (fun w' hw => ⟨rfl, Hp.sublist hw (List.nil_sublist _)⟩)
        · rw [bif_neg h29] at hF
          have q30 := (not_f h29)
          refine TC.skip ?_
          refine TN.seq ?_
          refine TC.seq ?_
          refine TC.seq ?_
          refine TC.region ?_
          refine TL.op (yq (y_move (ev_t rfl))) rfl rfl rfl ?_
          refine TL.op (yq (y_move (ev_t rfl))) rfl rfl rfl ?_
          refine TL.callr (ι := Value) (vs := [vwk]) (fun i => i) (fun i => [rowI 3 i (F_laws_toIntS wk)]) en_18 ⟨(ev_t rfl), trivial⟩ rfl (fun w hw => laws_toIntS_ok w vwk wk ((ri_arg hwk) w hw) (by first | assumption | omega | grind)) (fun r15_2 => ?_)
          refine TL.op (y_call (vs := [r9_1, r15_2]) (v := (.bool (F_laws_eqIntS (F_laws_toIntS wk) (F_laws_toIntS wk)))) en_21 ⟨(ev_t rfl), (ev_t rfl), trivial⟩ (fun w hw => laws_eqIntS_ok w r9_1 (F_laws_toIntS wk) ((ri_row 3 rfl) w hw) r15_2 (F_laws_toIntS wk) ((ri_row 0 rfl) w hw))) rfl rfl rfl ?_
          refine TL.op (yq (y_not (ev_t rfl))) rfl rfl rfl ?_
          refine TL.nil ?_
          refine TN.seq ?_
          refine TC.cond (b := !(F_laws_eqIntS (F_laws_toIntS wk) (F_laws_toIntS wk))) (ev_t rfl) (fun h31 => ?_) (fun h31 => ?_)
          · rw [bif_pos h31] at hF
            have q32 := (not_t h31)
            refine TC.seq ?_
            refine TC.region ?_
            refine TL.op (yq (y_assign ev_c)) rfl rfl rfl ?_
            refine TL.nil ?_
            refine TN.seq ?_
            refine TC.ret ?_
            refine TN.thenR ?_
            subst hF
            exact TN.ret1 rfl (ev_t rfl) (fun w' hw => ⟨rfl, Hp.sublist hw (List.nil_sublist _)⟩)
          · rw [bif_neg h31] at hF
            have q32 := (not_f h31)
            refine TC.skip ?_
            refine TN.seq ?_
            refine TC.seq ?_
            refine TC.region ?_
            refine TL.op (yq (y_assign ev_c)) rfl rfl rfl ?_
            refine TL.nil ?_
            refine TN.seq ?_
            refine TC.seq ?_
            refine TC.region ?_
            refine TL.op (yq (y_ldagg (cs := [r8_1.1]) 4 (ev_t rfl) agg_29 rfl)) rfl rfl rfl ?_
            refine TL.op (yq (y_move (ev_t rfl))) rfl rfl rfl ?_
            refine TL.callm (ι := Unit) 5 (vs := [(.agg #[r8_1.1]), (.int .i64 1)]) (fun _ => (.int .i64 ((F_laws_markMetric (F_laws_toMetric m) 1).1))) (fun _ => tabI 25 3 r8_1.1 r8_1.2 ((F_laws_markMetric (F_laws_toMetric m) 1).2)) en_24 ⟨(ev_t rfl), (ev_t rfl), trivial⟩ rfl rfl (fun w1 fr1 hw => laws_markMetric_ok w w1 fr1 r8_1.1 r8_1.2 (F_laws_toMetric m) hw 1 (by first | assumption | omega | grind) (by first | assumption | omega | grind)) (fun _ => ?_)
            refine TL.op (yq (y_assign (ev_t rfl))) rfl rfl rfl ?_
            refine TL.nil ?_
            refine TN.seq ?_
            refine TC.seq ?_
            refine TC.region ?_
            refine TL.op (yq (y_move (ev_t rfl))) rfl rfl rfl ?_
            refine TL.op (yq (y_move (ev_t rfl))) rfl rfl rfl ?_
            refine TL.callm (ι := Unit) 3 (vs := [r9_1, (.int .i64 ((F_laws_markMetric (F_laws_toMetric m) 1).1))]) (fun _ => (.int .i64 ((F_laws_markIntS (F_laws_toIntS wk) ((F_laws_markMetric (F_laws_toMetric m) 1).1)).1))) (fun _ => rowI 3 r9_1 ((F_laws_markIntS (F_laws_toIntS wk) ((F_laws_markMetric (F_laws_toMetric m) 1).1)).2)) en_25 ⟨(ev_t rfl), (ev_t rfl), trivial⟩ rfl rfl (fun w1 fr1 hw => laws_markIntS_ok w w1 fr1 r9_1 (F_laws_toIntS wk) hw ((F_laws_markMetric (F_laws_toMetric m) 1).1) (by first | assumption | omega | grind) (by first | assumption | omega | grind)) (fun _ => ?_)
            refine TL.op (yq (y_assign (ev_t rfl))) rfl rfl rfl ?_
            refine TL.nil ?_
            refine TN.seq ?_
            refine TC.seq ?_
            refine TC.seq ?_
            refine TC.region ?_
            refine TL.op (yq (y_move (ev_t rfl))) rfl rfl rfl ?_
            refine TL.op (yq (y_lss (ev_t rfl) ev_c)) rfl rfl rfl ?_
            refine TL.op (yq (y_move (ev_t rfl))) rfl rfl rfl ?_
            refine TL.opw (w_f rfl rfl rfl) (fun hg => yq (y_move (ev_t rfl))) rfl rfl ?_
            refine TL.opw (w_f rfl rfl rfl) (fun hg => yq (y_move (ev_t rfl))) rfl rfl ?_
            refine TL.opw (w_f rfl rfl rfl) (fun hg => y_call (vs := [r10_3.1, r7_5.1]) (v := (.bool (F_laws_eqIntSS ((F_impl_SupportOf (F_laws_toMetric m) k (F_laws_toIntS wk)).1) ((F_spec_SupportOf (F_laws_toMetric m) k (F_laws_toIntS wk)).1)))) en_29 ⟨(ev_g rfl hg), (ev_g rfl hg), trivial⟩ (fun w hw => laws_eqIntSS_ok w r10_3.1 r10_3.2 ((F_impl_SupportOf (F_laws_toMetric m) k (F_laws_toIntS wk)).1) ((rii_tab 2 rfl) w hw) r7_5.1 r7_5.2 ((F_spec_SupportOf (F_laws_toMetric m) k (F_laws_toIntS wk)).1) ((rii_tab 6 rfl) w hw))) rfl rfl ?_
            refine TL.opw (w_f rfl rfl rfl) (fun hg => yq (y_not (ev_g rfl hg))) rfl rfl ?_
            refine TL.op (yq (y_or (ev_t rfl) (fun hq => (ev_g rfl hq)))) rfl rfl rfl ?_
            refine TL.op (yq (y_move (ev_t rfl))) rfl rfl rfl ?_
            refine TL.opw (w_f rfl rfl rfl) (fun hg => yq (y_move (ev_t rfl))) rfl rfl ?_
            refine TL.opw (w_f rfl rfl rfl) (fun hg => yq (y_move (ev_t rfl))) rfl rfl ?_
            refine TL.opw (w_f rfl rfl rfl) (fun hg => yq (y_bneq (ev_g rfl hg) (ev_g rfl hg) Try.underlying4)) rfl rfl ?_
            refine TL.op (yq (y_or (ev_t rfl) (fun hq => (ev_g rfl hq)))) rfl rfl rfl ?_
            refine TL.nil ?_
            refine TN.seq ?_
            refine TC.cond (b := (((decide ((F_laws_markIntS (F_laws_toIntS wk) ((F_laws_markMetric (F_laws_toMetric m) 1).1)).1 < 0)) || (!(F_laws_eqIntSS ((F_impl_SupportOf (F_laws_toMetric m) k (F_laws_toIntS wk)).1) ((F_spec_SupportOf (F_laws_toMetric m) k (F_laws_toIntS wk)).1)))) || (((F_impl_SupportOf (F_laws_toMetric m) k (F_laws_toIntS wk)).2) != ((F_spec_SupportOf (F_laws_toMetric m) k (F_laws_toIntS wk)).2)))) (ev_t rfl) (fun h33 => ?_) (fun h33 => ?_)
            · rw [bif_pos h33] at hF
              have q34 := ((or_t h33).imp (fun h => ((or_t h).imp (fun h => (of_decide_eq_true h)) (fun h => (not_t h)))) (fun h => h))
              refine TC.seq ?_
              refine TC.region ?_
              refine TL.op (yq (y_assign ev_c)) rfl rfl rfl ?_
              refine TL.nil ?_
              refine TN.seq ?_
              refine TC.ret ?_
              refine TN.thenR ?_
              subst hF
              exact TN.ret1 rfl (ev_t rfl) (fun w' hw => ⟨rfl, Hp.sublist hw (List.nil_sublist _)⟩)
            · rw [bif_neg h33] at hF
              have q34 := (and_imp (or_f h33) (fun h => (and_imp (or_f h) (fun h => (of_decide_eq_false h)) (fun h => (not_f h)))) (fun h => h))
              refine TC.skip ?_
              refine TN.seq ?_
              refine TC.seq ?_
              refine TC.region ?_
              refine TL.op (yq (y_assign ev_c)) rfl rfl rfl ?_
              refine TL.nil ?_
              refine TN.seq ?_
              refine TC.seq ?_
              refine TC.region ?_
              refine TL.op (yq (y_move (ev_t rfl))) rfl rfl rfl ?_
              refine TL.op (yq (y_move (ev_t rfl))) rfl rfl rfl ?_
              refine TL.callm (ι := Unit) 2 (vs := [r10_3.1, (.int .i64 1)]) (fun _ => (.int .i64 ((F_laws_markIntSS ((F_impl_SupportOf (F_laws_toMetric m) k (F_laws_toIntS wk)).1) 1).1))) (fun _ => tabI 25 3 r10_3.1 r10_3.2 ((F_laws_markIntSS ((F_impl_SupportOf (F_laws_toMetric m) k (F_laws_toIntS wk)).1) 1).2)) en_30 ⟨(ev_t rfl), (ev_t rfl), trivial⟩ rfl rfl (fun w1 fr1 hw => laws_markIntSS_ok w w1 fr1 r10_3.1 r10_3.2 ((F_impl_SupportOf (F_laws_toMetric m) k (F_laws_toIntS wk)).1) hw 1 (by first | assumption | omega | grind) (by first | assumption | omega | grind)) (fun _ => ?_)
              refine TL.op (yq (y_assign (ev_t rfl))) rfl rfl rfl ?_
              refine TL.nil ?_
              refine TN.seq ?_
              refine TC.seq ?_
              refine TC.region ?_
              refine TL.op (yq (y_assign ev_c)) rfl rfl rfl ?_
              refine TL.nil ?_
              refine TN.seq ?_
              refine TC.seq ?_
              refine TC.region ?_
              refine TL.op (yq (y_move (ev_t rfl))) rfl rfl rfl ?_
              refine TL.op (yq (y_move (ev_t rfl))) rfl rfl rfl ?_
              refine TL.op (y_call (vs := [r10_3.1, (.int .i64 1)]) (v := (.int .i64 (F_laws_heldIntSS ((F_laws_markIntSS ((F_impl_SupportOf (F_laws_toMetric m) k (F_laws_toIntS wk)).1) 1).2) 1))) en_31 ⟨(ev_t rfl), (ev_t rfl), trivial⟩ (fun w hw => laws_heldIntSS_ok w r10_3.1 r10_3.2 ((F_laws_markIntSS ((F_impl_SupportOf (F_laws_toMetric m) k (F_laws_toIntS wk)).1) 1).2) ((rii_tab 2 rfl) w hw) 1 (by first | assumption | omega | grind) (by first | assumption | omega | grind))) rfl rfl rfl ?_
              refine TL.op (yq (y_assign (ev_t rfl))) rfl rfl rfl ?_
              refine TL.nil ?_
              refine TN.seq ?_
              refine TC.seq ?_
              refine TC.seq ?_
              refine TC.region ?_
              refine TL.op (yq (y_move (ev_t rfl))) rfl rfl rfl ?_
              refine TL.op (yq (y_lss (ev_t rfl) ev_c)) rfl rfl rfl ?_
              refine TL.nil ?_
              refine TN.seq ?_
              refine TC.cond (b := decide ((F_laws_heldIntSS ((F_laws_markIntSS ((F_impl_SupportOf (F_laws_toMetric m) k (F_laws_toIntS wk)).1) 1).2) 1) < 0)) (ev_t rfl) (fun h35 => ?_) (fun h35 => ?_)
              · rw [bif_pos h35] at hF
                have q36 := (of_decide_eq_true h35)
                refine TC.seq ?_
                refine TC.region ?_
                refine TL.op (yq (y_assign ev_c)) rfl rfl rfl ?_
                refine TL.nil ?_
                refine TN.seq ?_
                refine TC.ret ?_
                refine TN.thenR ?_
                subst hF
                exact TN.ret1 rfl (ev_t rfl) (fun w' hw => ⟨rfl, Hp.sublist hw (List.nil_sublist _)⟩)
              · rw [bif_neg h35] at hF
                have q36 := (of_decide_eq_false h35)
                refine TC.skip ?_
                refine TN.seq ?_
                refine TC.seq ?_
                refine TC.seq ?_
                refine TC.region ?_
                refine TL.op (yq (y_move (ev_t rfl))) rfl rfl rfl ?_
                refine TL.op (yq (y_move (ev_t rfl))) rfl rfl rfl ?_
                refine TL.op (yq (y_neq (ev_t rfl) (ev_t rfl))) rfl rfl rfl ?_
                refine TL.nil ?_
                refine TN.seq ?_
                refine TC.cond (b := !decide ((F_laws_heldIntSS ((F_laws_markIntSS ((F_impl_SupportOf (F_laws_toMetric m) k (F_laws_toIntS wk)).1) 1).2) 1) = (F_laws_markIntSS ((F_impl_SupportOf (F_laws_toMetric m) k (F_laws_toIntS wk)).1) 1).1)) (ev_t rfl) (fun h37 => ?_) (fun h37 => ?_)
                · rw [bif_pos h37] at hF
                  have q38 := (of_decide_eq_false (not_t h37))
                  refine TC.seq ?_
                  refine TC.region ?_
                  refine TL.op (yq (y_assign ev_c)) rfl rfl rfl ?_
                  refine TL.nil ?_
                  refine TN.seq ?_
                  refine TC.ret ?_
                  refine TN.thenR ?_
                  subst hF
                  exact TN.ret1 rfl (ev_t rfl) (fun w' hw => ⟨rfl, Hp.sublist hw (List.nil_sublist _)⟩)
                · rw [bif_neg h37] at hF
                  have q38 := (of_decide_eq_true (not_f h37))
                  refine TC.skip ?_
                  refine TN.seq ?_
                  refine TC.seq ?_
                  refine TC.region ?_
                  refine TL.op (yq (y_ldagg (cs := [vm]) 9 (ev_t rfl) agg_24 rfl)) rfl rfl rfl ?_
                  refine TL.callr (ι := Value × List Value) (vs := [(.agg #[vm])]) (fun i => (.agg #[i.1])) (fun i => [tabI 25 3 i.1 i.2 (F_laws_toMetric m)]) en_17 ⟨(ev_t rfl), trivial⟩ rfl (fun w hw => laws_toMetric_ok w vm um m ((rii_arg hm) w hw) (by first | assumption | omega | grind) (by first | assumption | omega | grind)) (fun r30_1 => ?_)
                  refine TL.op (yq (y_move (ev_t rfl))) rfl rfl rfl ?_
                  refine TL.op (yq (y_move (ev_t rfl))) rfl rfl rfl ?_
                  refine TL.callr (ι := Value) (vs := [vwk]) (fun i => i) (fun i => [rowI 3 i (F_laws_toIntS wk)]) en_18 ⟨(ev_t rfl), trivial⟩ rfl (fun w hw => laws_toIntS_ok w vwk wk ((ri_arg hwk) w hw) (by first | assumption | omega | grind)) (fun r30_4 => ?_)
                  refine TL.callr (ι := Value × List Value) (vs := [(.agg #[r30_1.1]), (.int .i64 k), r30_4]) (fun i => (.tuple #[i.1, (.bool ((F_impl_SupportOf (F_laws_toMetric m) k (F_laws_toIntS wk)).2))])) (fun i => [tabI 25 3 i.1 i.2 ((F_impl_SupportOf (F_laws_toMetric m) k (F_laws_toIntS wk)).1)]) en_28 ⟨(ev_t rfl), (ev_t rfl), (ev_t rfl), trivial⟩ rfl (fun w hw => impl_SupportOf_ok w r30_1.1 r30_1.2 (F_laws_toMetric m) ((rii_tab 1 rfl) w hw) k r30_4 (F_laws_toIntS wk) ((ri_row 0 rfl) w hw)) (fun r30_5 => ?_)
                  refine TL.op (yq (y_move (ev_t rfl))) rfl rfl rfl ?_
                  refine TL.op (yq (y_extract (ev_t rfl) rfl)) rfl rfl rfl ?_
                  refine TL.op (yq (y_extract (ev_t rfl) rfl)) rfl rfl rfl ?_
                  refine TL.op (yq (y_assign (ev_t rfl))) rfl rfl rfl ?_
                  refine TL.op (yq (y_assign (ev_t rfl))) rfl rfl rfl ?_
                  refine TL.nil ?_
                  refine TN.seq ?_
                  refine TC.seq ?_
                  refine TC.seq ?_
                  refine TC.region ?_
                  refine TL.op (yq (y_move (ev_t rfl))) rfl rfl rfl ?_
                  refine TL.op (yq (y_move (ev_t rfl))) rfl rfl rfl ?_
                  refine TL.op (y_call (vs := [r30_5.1, r7_5.1]) (v := (.bool (F_laws_eqIntSS ((F_impl_SupportOf (F_laws_toMetric m) k (F_laws_toIntS wk)).1) ((F_spec_SupportOf (F_laws_toMetric m) k (F_laws_toIntS wk)).1)))) en_29 ⟨(ev_t rfl), (ev_t rfl), trivial⟩ (fun w hw => laws_eqIntSS_ok w r30_5.1 r30_5.2 ((F_impl_SupportOf (F_laws_toMetric m) k (F_laws_toIntS wk)).1) ((rii_tab 0 rfl) w hw) r7_5.1 r7_5.2 ((F_spec_SupportOf (F_laws_toMetric m) k (F_laws_toIntS wk)).1) ((rii_tab 9 rfl) w hw))) rfl rfl rfl ?_
                  refine TL.op (yq (y_not (ev_t rfl))) rfl rfl rfl ?_
                  refine TL.op (yq (y_move (ev_t rfl))) rfl rfl rfl ?_
                  refine TL.opw (w_f rfl rfl rfl) (fun hg => yq (y_move (ev_t rfl))) rfl rfl ?_
                  refine TL.opw (w_f rfl rfl rfl) (fun hg => yq (y_move (ev_t rfl))) rfl rfl ?_
                  refine TL.opw (w_f rfl rfl rfl) (fun hg => yq (y_bneq (ev_g rfl hg) (ev_g rfl hg) Try.underlying4)) rfl rfl ?_
                  refine TL.op (yq (y_or (ev_t rfl) (fun hq => (ev_g rfl hq)))) rfl rfl rfl ?_
                  refine TL.nil ?_
                  refine TN.seq ?_
                  refine TC.condF (ev_t rfl) h27 ?_
                  refine TC.skip ?_
                  refine TN.seq ?_
                  refine TC.seq ?_
                  refine TC.region ?_
                  refine TL.op (yq (y_assign ev_c)) rfl rfl rfl ?_
                  refine TL.nil ?_
                  refine TN.seq ?_
                  refine TC.seq ?_
                  refine TC.region ?_
                  refine TL.op (yq (y_move (ev_t rfl))) rfl rfl rfl ?_
                  refine TL.op (yq (y_move (ev_t rfl))) rfl rfl rfl ?_
                  refine TL.op (y_call (vs := [r10_3.1, (.int .i64 1)]) (v := (.int .i64 (F_laws_heldIntSS ((F_laws_markIntSS ((F_impl_SupportOf (F_laws_toMetric m) k (F_laws_toIntS wk)).1) 1).2) 1))) en_31 ⟨(ev_t rfl), (ev_t rfl), trivial⟩ (fun w hw => laws_heldIntSS_ok w r10_3.1 r10_3.2 ((F_laws_markIntSS ((F_impl_SupportOf (F_laws_toMetric m) k (F_laws_toIntS wk)).1) 1).2) ((rii_tab 5 rfl) w hw) 1 (by first | assumption | omega | grind) (by first | assumption | omega | grind))) rfl rfl rfl ?_
                  refine TL.op (yq (y_assign (ev_t rfl))) rfl rfl rfl ?_
                  refine TL.nil ?_
                  refine TN.seq ?_
                  refine TC.seq ?_
                  refine TC.seq ?_
                  refine TC.region ?_
                  refine TL.op (yq (y_move (ev_t rfl))) rfl rfl rfl ?_
                  refine TL.op (yq (y_lss (ev_t rfl) ev_c)) rfl rfl rfl ?_
                  refine TL.nil ?_
                  refine TN.seq ?_
                  refine TC.condF (ev_t rfl) h35 ?_
                  refine TC.skip ?_
                  refine TN.seq ?_
                  refine TC.seq ?_
                  refine TC.seq ?_
                  refine TC.region ?_
                  refine TL.op (yq (y_move (ev_t rfl))) rfl rfl rfl ?_
                  refine TL.op (yq (y_move (ev_t rfl))) rfl rfl rfl ?_
                  refine TL.op (yq (y_neq (ev_t rfl) (ev_t rfl))) rfl rfl rfl ?_
                  refine TL.nil ?_
                  refine TN.seq ?_
                  refine TC.condF (ev_t rfl) h37 ?_
                  refine TC.skip ?_
                  refine TN.seq ?_
                  refine TC.seq ?_
                  refine TC.region ?_
                  refine TL.op (yq (y_assign ev_c)) rfl rfl rfl ?_
                  refine TL.nil ?_
                  refine TN.seq ?_
                  refine TC.ret ?_
                  subst hF
                  exact TN.ret1 rfl (ev_t rfl) (fun w' hw => ⟨rfl, Hp.sublist hw (List.nil_sublist _)⟩)

end Go.Proofs.Ytilmadapmcnlgaa
