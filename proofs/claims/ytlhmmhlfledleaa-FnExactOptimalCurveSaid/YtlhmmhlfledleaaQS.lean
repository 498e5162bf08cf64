/-
  Walks of functions of the program: each computes its plain function. No condition but the bounds that are typed.
-/
import Derived.Test.YtlhmmhlfledleaaQ4
import Derived.Test.YtlhmmhlfledleaaLawFew
namespace Go.Proofs.Ytlhmmhlfledleaa
open Go Go.RowKit
set_option linter.unusedVariables false
set_option linter.unusedSimpArgs false

set_option maxRecDepth 4000 in
set_option maxHeartbeats 1000000 in
theorem impl_fewestFaults_ok (w : World) (k : Int) (vreqs : Value) (reqs : List Int) (hreqs : RI w vreqs reqs) (hp0 : reqs.length ≤ 1000) (hp1 : 1 ≤ k) :
    Calls Try.prog 53 ([(.int .i64 k), vreqs] : List Value).toArray w (Ret (.int .i64 (F_impl_fewestFaults k reqs)) (Hp w [])) := by
  obtain ⟨rz, hF⟩ : ∃ rz, (F_impl_fewestFaults k reqs) = rz := ⟨_, rfl⟩
  rw [hF]
  unfold F_impl_fewestFaults at hF
  have hfl := farthestPlan_ln hp1 reqs
  have hlen_reqs := arg_len hreqs
  refine calls_tc Try.func53 rfl rfl rfl ?_
  change TC _ _ _ _ (Hp w []) [(0, (.int .i64 k)), (1, vreqs)]
  refine TC.seq ?_
  refine TC.region ?_
  refine TL.op (yq (y_assign ev_c)) rfl rfl rfl ?_
  refine TL.nil ?_
  refine TN.seq ?_
  refine TC.seq ?_
  refine TC.region ?_
  refine TL.op (yq (y_move (ev_t rfl))) rfl rfl rfl ?_
  refine TL.op (yq (y_move (ev_t rfl))) rfl rfl rfl ?_
  refine TL.op (yq (y_move (ev_t rfl))) rfl rfl rfl ?_
  refine TL.op (yq (y_move (ev_t rfl))) rfl rfl rfl ?_
  refine TL.callr (ι := Value) (vs := [(.int .i64 k), vreqs]) (fun i => i) (fun i => [rowI 3 i (F_impl_farthestPlan k reqs)]) en_51 ⟨(ev_t rfl), (ev_t rfl), trivial⟩ rfl (fun w hw => impl_farthestPlan_ok w k vreqs reqs ((ri_arg hreqs) w hw) (by first | assumption | omega | grind)) (fun r1_4 => ?_)
  refine TL.callr (ι := Value × List Value) (vs := [(.int .i64 k), vreqs, r1_4]) (fun i => (.tuple #[i.1, (.int .i64 ((F_impl_played k reqs (F_impl_farthestPlan k reqs)).2.1)), (.bool ((F_impl_played k reqs (F_impl_farthestPlan k reqs)).2.2))])) (fun i => [tabI 22 3 i.1 i.2 ((F_impl_played k reqs (F_impl_farthestPlan k reqs)).1)]) en_48 ⟨(ev_t rfl), (ev_t rfl), (ev_t rfl), trivial⟩ rfl (fun w hw => impl_played_ok w k vreqs reqs ((ri_arg hreqs) w hw) r1_4 (F_impl_farthestPlan k reqs) ((ri_row 0 rfl) w hw) (by first | assumption | omega | grind) (by first | assumption | omega | grind)) (fun r1_5 => ?_)
  refine TL.op (yq (y_move (ev_t rfl))) rfl rfl rfl ?_
  refine TL.op (yq (y_extract (ev_t rfl) rfl)) rfl rfl rfl ?_
  refine TL.op (yq (y_extract (ev_t rfl) rfl)) rfl rfl rfl ?_
  refine TL.op (yq (y_extract (ev_t rfl) rfl)) rfl rfl rfl ?_
  refine TL.op (yq (y_assign (ev_t rfl))) rfl rfl rfl ?_
  refine TL.op (yq (y_assign (ev_t rfl))) rfl rfl rfl ?_
  refine TL.op (yq (y_assign (ev_t rfl))) rfl rfl rfl ?_
  refine TL.nil ?_
  refine TN.seq ?_
  refine TC.seq ?_
  refine TC.region ?_
  refine TL.op (yq (y_move (ev_t rfl))) rfl rfl rfl ?_
  refine TL.op (yq (y_assign (ev_t rfl))) rfl rfl rfl ?_
  refine TL.nil ?_
  refine TN.seq ?_
  refine TC.ret ?_
  subst hF
  exact TN.ret1 rfl (ev_t rfl) (fun w' hw => ⟨rfl, Hp.sublist hw (List.nil_sublist _)⟩)

set_option maxRecDepth 4000 in
set_option maxHeartbeats 1000000 in
theorem impl_FewestFaults_ok (w : World) (k : Int) (n : Int) (vreqs : Value) (reqs : List Int) (hreqs : RI w vreqs reqs)  :
    Calls Try.prog 22 ([(.int .i64 k), (.int .i64 n), vreqs] : List Value).toArray w (Ret (.tuple #[(.int .i64 ((F_impl_FewestFaults k n reqs).1)), (.bool ((F_impl_FewestFaults k n reqs).2))]) (Hp w [])) := by
  obtain ⟨rz, hF⟩ : ∃ rz, (F_impl_FewestFaults k n reqs) = rz := ⟨_, rfl⟩
  rw [hF]
  unfold F_impl_FewestFaults at hF
  have hlen_reqs := arg_len hreqs
  refine calls_tc Try.func22 rfl rfl rfl ?_
  change TC _ _ _ _ (Hp w []) [(0, (.int .i64 k)), (1, (.int .i64 n)), (2, vreqs)]
  refine TC.seq ?_
  refine TC.region ?_
  refine TL.op (yq (y_assign ev_c)) rfl rfl rfl ?_
  refine TL.op (yq (y_assign ev_c)) rfl rfl rfl ?_
  refine TL.nil ?_
  refine TN.seq ?_
  refine TC.seq ?_
  refine TC.seq ?_
  refine TC.region ?_
  refine TL.op (yq (y_move (ev_t rfl))) rfl rfl rfl ?_
  refine TL.op (yq (y_move (ev_t rfl))) rfl rfl rfl ?_
  refine TL.op (yq (y_move (ev_t rfl))) rfl rfl rfl ?_
  refine TL.op (y_call (vs := [(.int .i64 k), (.int .i64 n), vreqs]) (v := (.bool (F_impl_isPaging k n reqs))) en_50 ⟨(ev_t rfl), (ev_t rfl), (ev_t rfl), trivial⟩ (fun w hw => impl_isPaging_ok w k n vreqs reqs ((ri_arg hreqs) w hw))) rfl rfl rfl ?_
  refine TL.op (yq (y_not (ev_t rfl))) rfl rfl rfl ?_
  refine TL.nil ?_
  refine TN.seq ?_
  refine TC.cond (b := !(F_impl_isPaging k n reqs)) (ev_t rfl) (fun h3 => ?_) (fun h3 => ?_)
  · rw [bif_pos h3] at hF
    have q4 := (not_t h3)
    refine TC.seq ?_
    refine TC.region ?_
    refine TL.op (yq (y_assign ev_c)) rfl rfl rfl ?_
    refine TL.op (yq (y_assign ev_c)) rfl rfl rfl ?_
    refine TL.nil ?_
    refine TN.seq ?_
    refine TC.ret ?_
    refine TN.thenR ?_
    subst hF
    exact TN.ret2 rfl (ev_t rfl) (ev_t rfl) (fun w' hw => ⟨rfl, hw⟩)
  · rw [bif_neg h3] at hF
    have q4 := (isPaging_t (not_f h3))
    refine TC.skip ?_
    refine TN.seq ?_
    refine TC.seq ?_
    refine TC.region ?_
    refine TL.op (yq (y_move (ev_t rfl))) rfl rfl rfl ?_
    refine TL.op (yq (y_move (ev_t rfl))) rfl rfl rfl ?_
    refine TL.op (y_call (vs := [(.int .i64 k), vreqs]) (v := (.int .i64 (F_impl_fewestFaults k reqs))) en_53 ⟨(ev_t rfl), (ev_t rfl), trivial⟩ (fun w hw => impl_fewestFaults_ok w k vreqs reqs ((ri_arg hreqs) w hw) (by first | assumption | omega | grind) (by first | assumption | omega | grind))) rfl rfl rfl ?_
    refine TL.op (yq (y_assign (ev_t rfl))) rfl rfl rfl ?_
    refine TL.op (yq (y_assign ev_c)) rfl rfl rfl ?_
    refine TL.nil ?_
    refine TN.seq ?_
    refine TC.ret ?_
    subst hF
    exact TN.ret2 rfl (ev_t rfl) (ev_t rfl) (fun w' hw => ⟨rfl, hw⟩)

set_option maxRecDepth 4000 in
set_option maxHeartbeats 1000000 in
theorem impl_OptimalCurve_ok (w : World) (n : Int) (vreqs : Value) (reqs : List Int) (hreqs : RI w vreqs reqs)  :
    Calls Try.prog 29 ([(.int .i64 n), vreqs] : List Value).toArray w (fun e w' => ∃ i : Value, e = .returned (.tuple #[i, (.bool ((F_impl_OptimalCurve n reqs).2))]) ∧ Hp w [rowI 3 i ((F_impl_OptimalCurve n reqs).1)] w') := by
  obtain ⟨rz, hF⟩ : ∃ rz, (F_impl_OptimalCurve n reqs) = rz := ⟨_, rfl⟩
  rw [hF]
  unfold F_impl_OptimalCurve at hF
  have hlen_reqs := arg_len hreqs
  refine calls_tc Try.func29 rfl rfl rfl ?_
  change TC _ _ _ _ (Hp w []) [(0, (.int .i64 n)), (1, vreqs)]
  refine TC.seq ?_
  refine TC.region ?_
  refine TL.op (yq (y_assign ev_c)) rfl rfl rfl ?_
  refine TL.op (yq (y_assign ev_c)) rfl rfl rfl ?_
  refine TL.nil ?_
  refine TN.seq ?_
  refine TC.seq ?_
  refine TC.seq ?_
  refine TC.region ?_
  refine TL.op (yq (y_move (ev_t rfl))) rfl rfl rfl ?_
  refine TL.op (yq (y_move (ev_t rfl))) rfl rfl rfl ?_
  refine TL.op (y_call (vs := [(.int .i64 n), vreqs]) (v := (.bool (F_impl_IsRequests n reqs))) en_55 ⟨(ev_t rfl), (ev_t rfl), trivial⟩ (fun w hw => impl_IsRequests_ok w n vreqs reqs ((ri_arg hreqs) w hw))) rfl rfl rfl ?_
  refine TL.op (yq (y_not (ev_t rfl))) rfl rfl rfl ?_
  refine TL.nil ?_
  refine TN.seq ?_
  refine TC.cond (b := !(F_impl_IsRequests n reqs)) (ev_t rfl) (fun h7 => ?_) (fun h7 => ?_)
  · rw [bif_pos h7] at hF
    have q8 := (not_t h7)
    refine TC.seq ?_
    refine TC.region ?_
    refine TL.op (yq (y_assign ev_c)) rfl rfl rfl ?_
    refine TL.op (yq (y_assign ev_c)) rfl rfl rfl ?_
    refine TL.nil ?_
    refine TN.seq ?_
    refine TC.ret ?_
    refine TN.thenR ?_
    subst hF
    refine TN.cls (fun w hw => hw.nil 3 1) ?_
    exact TN.ret2 rfl (ev_t rfl) (ev_t rfl) (fun w' hw => ⟨(.slice none 0 0), rfl, hw⟩)
  · rw [bif_neg h7] at hF
    have q8 := (isRequests_t (not_f h7))
    refine TC.skip ?_
    refine TN.seq ?_
    refine TC.seq ?_
    refine TC.region ?_
    refine TL.buildI (zs := []) (qs := []) slT_22 rfl trivial rfl (by decide) rfl (fun v3_0 => ?_)
    refine TL.op (yq (y_assign (ev_t rfl))) rfl rfl rfl ?_
    refine TL.nil ?_
    refine TN.seq ?_
    refine TC.seq ?_
    refine TC.seq ?_
    refine TC.region ?_
    refine TL.op (yq (y_assign ev_c)) rfl rfl rfl ?_
    refine TL.nil ?_
    refine TN.seq ?_
    refine TC.block ?_
    obtain ⟨c10, hc11⟩ : ∃ c, F_impl_OptimalCurve_L1 reqs ((7 - 1) + 1) (([] : List Int), 1) = c := ⟨_, rfl⟩
    rw [hc11] at hF
    refine TC.loop (ι := Nat × List Int × Nat × Value) (fun (fu1, out1, k1, vout1) => [(1, vreqs), (6, vout1), (7, (.int .i64 (k1 : Int)))]) (fun (fu1, out1, k1, vout1) => Hp w [rowI 3 vout1 out1]) (fun (fu1, out1, k1, vout1) => (1 ≤ k1) ∧ (k1 ≤ 7) ∧ (out1.length ≤ k1) ∧ 7 - k1 < fu1 ∧ F_impl_OptimalCurve_L1 reqs fu1 (out1, k1) = c10) (fun (fu1, out1, k1, vout1) => fu1) ((7 - 1) + 1, ([] : List Int), 1, v3_0) ⟨(by first | omega | (simp [-List.getD_eq_getElem?_getD] <;> omega)), (by first | omega | (simp [-List.getD_eq_getElem?_getD] <;> omega)), (by first | omega | (simp [-List.getD_eq_getElem?_getD] <;> omega)), (by omega), hc11⟩ ⟨rfl, rfl, rfl, trivial⟩ (fun w hw => hw) ?_
    rintro ⟨fu1, out1, k1, vout1⟩ hJ1
    obtain ⟨hi1_0, hi1_1, hi1_2, hmu1, hL1⟩ : (1 ≤ k1) ∧ (k1 ≤ 7) ∧ (out1.length ≤ k1) ∧ 7 - k1 < fu1 ∧ F_impl_OptimalCurve_L1 reqs fu1 (out1, k1) = c10 := hJ1
    change TC _ _ _ _ (Hp w [rowI 3 vout1 out1]) [(1, vreqs), (6, vout1), (7, (.int .i64 (k1 : Int)))]
    obtain ⟨mf1, rfl⟩ : ∃ m, fu1 = m + 1 := ⟨fu1 - 1, by omega⟩
    rw [F_impl_OptimalCurve_L1_s] at hL1
    refine TC.seq ?_
    refine TC.seq ?_
    refine TC.region ?_
    refine TL.op (yq (y_move (ev_t rfl))) rfl rfl rfl ?_
    refine TL.op (yq (y_leq (ev_t rfl) ev_c)) rfl rfl rfl ?_
    refine TL.nil ?_
    refine TN.seq ?_
    refine TC.cond (b := decide ((k1 : Int) ≤ 6)) (ev_t rfl) (fun h12 => ?_) (fun h12 => ?_)
    · rw [bif_pos h12] at hL1
      have q13 := (of_decide_eq_true h12)
      refine TC.skip ?_
      refine TN.seq ?_
      refine TC.seq ?_
      refine TC.block ?_
      refine TC.region ?_
      refine TL.op (yq (y_move (ev_t rfl))) rfl rfl rfl ?_
      refine TL.op (yq (y_move (ev_t rfl))) rfl rfl rfl ?_
      refine TL.op (yq (y_move (ev_t rfl))) rfl rfl rfl ?_
      refine TL.op (y_call (vs := [(.int .i64 (k1 : Int)), vreqs]) (v := (.int .i64 (F_impl_fewestFaults (k1 : Int) reqs))) en_53 ⟨(ev_t rfl), (ev_t rfl), trivial⟩ (fun w hw => impl_fewestFaults_ok w (k1 : Int) vreqs reqs ((ri_arg hreqs) w hw) (by first | assumption | omega | grind) (by first | assumption | omega | grind))) rfl rfl rfl ?_
      refine TL.buildI (zs := [.tmp 20]) (qs := [(F_impl_fewestFaults (k1 : Int) reqs)]) slT_22 rfl ⟨(ev_t rfl), trivial⟩ rfl (by decide) rfl (fun v7_4 => ?_)
      refine TL.appendI 1 (ev_t rfl) (ev_t rfl) rfl slT_22 (ri_row 0 rfl) (by first | omega | (simp [-List.getD_eq_getElem?_getD] <;> omega)) rfl (fun v7_5 => ?_)
      refine TL.op (yq (y_assign (ev_t rfl))) rfl rfl rfl ?_
      refine TL.nil ?_
      refine TN.blockN ?_
      refine TN.seq ?_
      refine TC.region ?_
      refine TL.op (yq (y_move (ev_t rfl))) rfl rfl rfl ?_
      refine TL.op (yq (y_add (ev_t rfl) ev_c (by unfold In64; omega))) rfl rfl rfl ?_
      refine TL.op (yq (y_assign (ev_t rfl))) rfl rfl rfl ?_
      refine TL.nil ?_
      exact TN.hand (mf1, (out1 ++ ([(F_impl_fewestFaults (k1 : Int) reqs)])), (k1 + 1), v7_5) ⟨(by first | omega | (simp [-List.getD_eq_getElem?_getD] <;> omega)), (by first | omega | (simp [-List.getD_eq_getElem?_getD] <;> omega)), (by first | omega | (simp [-List.getD_eq_getElem?_getD] <;> omega)), (by omega), hL1⟩ (Nat.lt_succ_self _) ⟨rfl, rfl, rfl, trivial⟩ (fun w hw => Hp.sublist hw (.cons _ (.cons_cons _ .slnil)))
    · rw [bif_neg h12] at hL1
      have q13 := (of_decide_eq_false h12)
      refine TC.exit ?_
      refine TN.thenE ?_
      refine TN.thenE ?_
      rw [← hL1, elim_next] at hF
      try dsimp only at hF
      refine TN.blockH ?_
      refine TN.seq ?_
      refine TC.seq ?_
      refine TC.region ?_
      refine TL.op (yq (y_move (ev_t rfl))) rfl rfl rfl ?_
      refine TL.op (yq (y_assign (ev_t rfl))) rfl rfl rfl ?_
      refine TL.op (yq (y_assign ev_c)) rfl rfl rfl ?_
      refine TL.nil ?_
      refine TN.seq ?_
      refine TC.ret ?_
      subst hF
      exact TN.ret2 rfl (ev_t rfl) (ev_t rfl) (fun w' hw => ⟨vout1, rfl, hw⟩)

set_option maxRecDepth 4000 in
set_option maxHeartbeats 1000000 in
theorem spec_l5In_ok (w : World) (st : Int) (page : Int) (hp0 : 0 ≤ page ∧ page ≤ 8) :
    Calls Try.prog 132 ([(.int .i64 st), (.int .i64 page)] : List Value).toArray w (Ret (.bool (F_spec_l5In st page)) (Hp w [])) := by
  obtain ⟨rz, hF⟩ : ∃ rz, (F_spec_l5In st page) = rz := ⟨_, rfl⟩
  rw [hF]
  unfold F_spec_l5In at hF
  refine calls_tc Try.func132 rfl rfl rfl ?_
  change TC _ _ _ _ (Hp w []) [(0, (.int .i64 st)), (1, (.int .i64 page))]
  refine TC.seq ?_
  refine TC.region ?_
  refine TL.op (yq (y_assign ev_c)) rfl rfl rfl ?_
  refine TL.nil ?_
  refine TN.seq ?_
  refine TC.seq ?_
  refine TC.region ?_
  refine TL.op (yq (y_move (ev_t rfl))) rfl rfl rfl ?_
  refine TL.op (yq (y_move (ev_t rfl))) rfl rfl rfl ?_
  refine TL.op (yq (y_shrI (ev_t rfl) (ev_t rfl) (by omega))) rfl rfl rfl ?_
  refine TL.op (yq (y_and1 (ev_t rfl) ev_c)) rfl rfl rfl ?_
  refine TL.op (yq (y_eql (ev_t rfl) ev_c)) rfl rfl rfl ?_
  refine TL.op (yq (y_assign (ev_t rfl))) rfl rfl rfl ?_
  refine TL.nil ?_
  refine TN.seq ?_
  refine TC.ret ?_
  subst hF
  exact TN.ret1 rfl (ev_t rfl) (fun w' hw => ⟨rfl, hw⟩)

set_option maxRecDepth 4000 in
set_option maxHeartbeats 1000000 in
theorem spec_l5After_ok (w : World) (st : Int) (page : Int) (ot : Int) (hp0 : 0 ≤ st ∧ st ≤ 255) (hp1 : 0 ≤ page ∧ page ≤ 7) (hp2 : -1 ≤ ot ∧ ot ≤ 7) (hp3 : ot < 0 ∨ pw ot ≤ st) :
    Calls Try.prog 131 ([(.int .i64 st), (.int .i64 page), (.int .i64 ot)] : List Value).toArray w (Ret (.int .i64 (F_spec_l5After st page ot)) (Hp w [])) := by
  obtain ⟨rz, hF⟩ : ∃ rz, (F_spec_l5After st page ot) = rz := ⟨_, rfl⟩
  rw [hF]
  unfold F_spec_l5After at hF
  have hpp := pw_bd (n := page) (by omega)
  have hpo := pw_bd (n := ot) (by omega)
  refine calls_tc Try.func131 rfl rfl rfl ?_
  change TC _ _ _ _ (Hp w []) [(0, (.int .i64 st)), (1, (.int .i64 page)), (2, (.int .i64 ot))]
  refine TC.seq ?_
  refine TC.region ?_
  refine TL.op (yq (y_assign ev_c)) rfl rfl rfl ?_
  refine TL.nil ?_
  refine TN.seq ?_
  refine TC.seq ?_
  refine TC.seq ?_
  refine TC.region ?_
  refine TL.op (yq (y_move (ev_t rfl))) rfl rfl rfl ?_
  refine TL.op (yq (y_geq (ev_t rfl) ev_c)) rfl rfl rfl ?_
  refine TL.nil ?_
  refine TN.seq ?_
  refine TC.cond (b := decide (0 ≤ ot)) (ev_t rfl) (fun h3 => ?_) (fun h3 => ?_)
  · rw [bif_pos h3] at hF
    have q4 := (of_decide_eq_true h3)
    refine TC.region ?_
    refine TL.op (yq (y_move (ev_t rfl))) rfl rfl rfl ?_
    refine TL.op (yq (y_move (ev_t rfl))) rfl rfl rfl ?_
    refine TL.op (yq (y_shlI ev_c (ev_t rfl) (by omega))) rfl rfl rfl ?_
    refine TL.op (yq (y_sub (ev_t rfl) (ev_t rfl) (by unfold In64; omega))) rfl rfl rfl ?_
    refine TL.op (yq (y_assign (ev_t rfl))) rfl rfl rfl ?_
    refine TL.nil ?_
    refine TN.seq ?_
    refine TC.seq ?_
    refine TC.region ?_
    refine TL.op (yq (y_move (ev_t rfl))) rfl rfl rfl ?_
    refine TL.op (yq (y_move (ev_t rfl))) rfl rfl rfl ?_
    refine TL.op (yq (y_shlI ev_c (ev_t rfl) (by omega))) rfl rfl rfl ?_
    refine TL.op (yq (y_orI (ev_t rfl) (ev_t rfl) (by first | omega | (simp only [List.length_set, List.length_append, List.length_cons, List.length_nil, List.length_replicate]; omega) | (rw [sortI_length]; simp only [List.length_cons, List.length_nil]; omega)) (by first | omega | (simp only [List.length_set, List.length_append, List.length_cons, List.length_nil, List.length_replicate]; omega) | (rw [sortI_length]; simp only [List.length_cons, List.length_nil]; omega)))) rfl rfl rfl ?_
    refine TL.op (yq (y_assign (ev_t rfl))) rfl rfl rfl ?_
    refine TL.nil ?_
    refine TN.seq ?_
    refine TC.ret ?_
    subst hF
    exact TN.ret1 rfl (ev_t rfl) (fun w' hw => ⟨rfl, hw⟩)
  · rw [bif_neg h3] at hF
    have q4 := (of_decide_eq_false h3)
    refine TC.skip ?_
    refine TN.seq ?_
    refine TC.seq ?_
    refine TC.region ?_
    refine TL.op (yq (y_move (ev_t rfl))) rfl rfl rfl ?_
    refine TL.op (yq (y_move (ev_t rfl))) rfl rfl rfl ?_
    refine TL.op (yq (y_shlI ev_c (ev_t rfl) (by omega))) rfl rfl rfl ?_
    refine TL.op (yq (y_orI (ev_t rfl) (ev_t rfl) (by first | omega | (simp only [List.length_set, List.length_append, List.length_cons, List.length_nil, List.length_replicate]; omega) | (rw [sortI_length]; simp only [List.length_cons, List.length_nil]; omega)) (by first | omega | (simp only [List.length_set, List.length_append, List.length_cons, List.length_nil, List.length_replicate]; omega) | (rw [sortI_length]; simp only [List.length_cons, List.length_nil]; omega)))) rfl rfl rfl ?_
    refine TL.op (yq (y_assign (ev_t rfl))) rfl rfl rfl ?_
    refine TL.nil ?_
    refine TN.seq ?_
    refine TC.ret ?_
    subst hF
    exact TN.ret1 rfl (ev_t rfl) (fun w' hw => ⟨rfl, hw⟩)

set_option maxRecDepth 4000 in
set_option maxHeartbeats 1000000 in
theorem spec_l5Size_ok (w : World) (st : Int) (hp0 : 0 ≤ st ∧ st ≤ 255) :
    Calls Try.prog 130 ([(.int .i64 st)] : List Value).toArray w (Ret (.int .i64 (F_spec_l5Size st)) (Hp w [])) := by
  obtain ⟨rz, hF⟩ : ∃ rz, (F_spec_l5Size st) = rz := ⟨_, rfl⟩
  rw [hF]
  unfold F_spec_l5Size at hF
  refine calls_tc Try.func130 rfl rfl rfl ?_
  change TC _ _ _ _ (Hp w []) [(0, (.int .i64 st))]
  refine TC.seq ?_
  refine TC.region ?_
  refine TL.op (yq (y_assign ev_c)) rfl rfl rfl ?_
  refine TL.nil ?_
  refine TN.seq ?_
  refine TC.seq ?_
  refine TC.region ?_
  refine TL.op (yq (y_assign ev_c)) rfl rfl rfl ?_
  refine TL.nil ?_
  refine TN.seq ?_
  refine TC.seq ?_
  refine TC.block ?_
  obtain ⟨c7, hc8⟩ : ∃ c, F_spec_l5Size_L1  ((st.toNat) + 1) (st, 0) = c := ⟨_, rfl⟩
  rw [hc8] at hF
  refine TC.loop (ι := Nat × Int × Int) (fun (fu1, set1, size1) => [(0, (.int .i64 set1)), (3, (.int .i64 size1))]) (fun (fu1, set1, size1) => Hp w []) (fun (fu1, set1, size1) => (0 ≤ set1) ∧ (0 ≤ size1) ∧ (size1 + set1 ≤ 255) ∧ set1.toNat < fu1 ∧ F_spec_l5Size_L1  fu1 (set1, size1) = c7) (fun (fu1, set1, size1) => fu1) ((st.toNat) + 1, st, 0) ⟨(by first | omega | (simp [-List.getD_eq_getElem?_getD] <;> omega)), (by first | omega | (simp [-List.getD_eq_getElem?_getD] <;> omega)), (by first | omega | (simp [-List.getD_eq_getElem?_getD] <;> omega)), (by omega), hc8⟩ ⟨rfl, rfl, trivial⟩ (fun w hw => hw) ?_
  rintro ⟨fu1, set1, size1⟩ hJ1
  obtain ⟨hi1_0, hi1_1, hi1_2, hmu1, hL1⟩ : (0 ≤ set1) ∧ (0 ≤ size1) ∧ (size1 + set1 ≤ 255) ∧ set1.toNat < fu1 ∧ F_spec_l5Size_L1  fu1 (set1, size1) = c7 := hJ1
  change TC _ _ _ _ (Hp w []) [(0, (.int .i64 set1)), (3, (.int .i64 size1))]
  obtain ⟨mf1, rfl⟩ : ∃ m, fu1 = m + 1 := ⟨fu1 - 1, by omega⟩
  rw [F_spec_l5Size_L1_s] at hL1
  refine TC.seq ?_
  refine TC.seq ?_
  refine TC.region ?_
  refine TL.op (yq (y_move (ev_t rfl))) rfl rfl rfl ?_
  refine TL.op (yq (y_gtr (ev_t rfl) ev_c)) rfl rfl rfl ?_
  refine TL.nil ?_
  refine TN.seq ?_
  refine TC.cond (b := decide (0 < set1)) (ev_t rfl) (fun h9 => ?_) (fun h9 => ?_)
  · rw [bif_pos h9] at hL1
    have q10 := (of_decide_eq_true h9)
    refine TC.skip ?_
    refine TN.seq ?_
    refine TC.block ?_
    refine TC.seq ?_
    refine TC.region ?_
    refine TL.op (yq (y_move (ev_t rfl))) rfl rfl rfl ?_
    refine TL.op (yq (y_move (ev_t rfl))) rfl rfl rfl ?_
    refine TL.op (yq (y_rem (ev_t rfl) ev_c (by first | omega | (simp only [Int.natCast_ediv] at *; omega)) (by first | omega | (simp only [Int.natCast_ediv] at *; omega)))) rfl rfl rfl ?_
    refine TL.op (yq (y_add (ev_t rfl) (ev_t rfl) (by unfold In64; omega))) rfl rfl rfl ?_
    refine TL.op (yq (y_assign (ev_t rfl))) rfl rfl rfl ?_
    refine TL.nil ?_
    refine TN.seq ?_
    refine TC.region ?_
    refine TL.op (yq (y_move (ev_t rfl))) rfl rfl rfl ?_
    refine TL.op (yq (y_quo (ev_t rfl) ev_c (by first | omega | (simp only [Int.natCast_ediv] at *; omega)) (by first | omega | (simp only [Int.natCast_ediv] at *; omega)))) rfl rfl rfl ?_
    refine TL.op (yq (y_assign (ev_t rfl))) rfl rfl rfl ?_
    refine TL.nil ?_
    refine TN.blockN ?_
    exact TN.hand (mf1, set1 / 2, size1 + (set1 % 2)) ⟨(by first | omega | (simp [-List.getD_eq_getElem?_getD] <;> omega)), (by first | omega | (simp [-List.getD_eq_getElem?_getD] <;> omega)), (by first | omega | (simp [-List.getD_eq_getElem?_getD] <;> omega)), (by omega), hL1⟩ (Nat.lt_succ_self _) ⟨rfl, rfl, trivial⟩ (fun w hw => hw)
  · rw [bif_neg h9] at hL1
    have q10 := (of_decide_eq_false h9)
    refine TC.exit ?_
    refine TN.thenE ?_
    refine TN.thenE ?_
    rw [← hL1, elim_next] at hF
    try dsimp only at hF
    refine TN.blockH ?_
    refine TN.seq ?_
    refine TC.seq ?_
    refine TC.region ?_
    refine TL.op (yq (y_move (ev_t rfl))) rfl rfl rfl ?_
    refine TL.op (yq (y_assign (ev_t rfl))) rfl rfl rfl ?_
    refine TL.nil ?_
    refine TN.seq ?_
    refine TC.ret ?_
    subst hF
    exact TN.ret1 rfl (ev_t rfl) (fun w' hw => ⟨rfl, hw⟩)

set_option maxRecDepth 4000 in
set_option maxHeartbeats 1000000 in
theorem spec_l5Choices_ok (w : World) (k : Int) (n : Int) (st : Int) (page : Int) (hp0 : 0 ≤ st ∧ st ≤ 255) (hp1 : 0 ≤ page ∧ page ≤ 7) (hp2 : 1 ≤ n ∧ n ≤ 8) :
    Calls Try.prog 129 ([(.int .i64 k), (.int .i64 n), (.int .i64 st), (.int .i64 page)] : List Value).toArray w (fun e w' => ∃ i : Value, e = .returned i ∧ Hp w [rowI 3 i (F_spec_l5Choices k n st page)] w') := by
  obtain ⟨rz, hF⟩ : ∃ rz, (F_spec_l5Choices k n st page) = rz := ⟨_, rfl⟩
  rw [hF]
  unfold F_spec_l5Choices at hF
  refine calls_tc Try.func129 rfl rfl rfl ?_
  change TC _ _ _ _ (Hp w []) [(0, (.int .i64 k)), (1, (.int .i64 n)), (2, (.int .i64 st)), (3, (.int .i64 page))]
  refine TC.seq ?_
  refine TC.region ?_
  refine TL.op (yq (y_assign ev_c)) rfl rfl rfl ?_
  refine TL.nil ?_
  refine TN.seq ?_
  refine TC.seq ?_
  refine TC.seq ?_
  refine TC.region ?_
  refine TL.op (yq (y_move (ev_t rfl))) rfl rfl rfl ?_
  refine TL.op (yq (y_move (ev_t rfl))) rfl rfl rfl ?_
  refine TL.op (y_call (vs := [(.int .i64 st), (.int .i64 page)]) (v := (.bool (F_spec_l5In st page))) en_132 ⟨(ev_t rfl), (ev_t rfl), trivial⟩ (fun w hw => spec_l5In_ok w st page (by first | assumption | omega | grind))) rfl rfl rfl ?_
  refine TL.nil ?_
  refine TN.seq ?_
  refine TC.cond (b := (F_spec_l5In st page)) (ev_t rfl) (fun h15 => ?_) (fun h15 => ?_)
  · rw [bif_pos h15] at hF
    have q16 := h15
    refine TC.seq ?_
    refine TC.region ?_
    refine TL.buildI (zs := [.const (.int .i64 (-1))]) (qs := [-1]) slT_22 rfl ⟨ev_c, trivial⟩ rfl (by decide) rfl (fun v2_0 => ?_)
    refine TL.op (yq (y_assign (ev_t rfl))) rfl rfl rfl ?_
    refine TL.nil ?_
    refine TN.seq ?_
    refine TC.ret ?_
    refine TN.thenR ?_
    subst hF
    exact TN.ret1 rfl (ev_t rfl) (fun w' hw => ⟨v2_0, rfl, hw⟩)
  · rw [bif_neg h15] at hF
    have q16 := h15
    refine TC.skip ?_
    refine TN.seq ?_
    refine TC.seq ?_
    refine TC.region ?_
    refine TL.buildI (zs := []) (qs := []) slT_22 rfl trivial rfl (by decide) rfl (fun v3_0 => ?_)
    refine TL.op (yq (y_assign (ev_t rfl))) rfl rfl rfl ?_
    refine TL.nil ?_
    refine TN.seq ?_
    obtain ⟨c19, hcj4⟩ : ∃ c, ((bif decide ((F_spec_l5Size st) < k) then (Ctl.next (([] : List Int) ++ ([-1]))) else (Ctl.next ([] : List Int))) : Ctl (List Int) (List Int)) = c := ⟨_, rfl⟩
    rw [hcj4] at hF
    refine TC.cut (fun a' w' => ∃ outj4 : List Int, ∃ voutj4 : Value, Slots 36 [(1, (.int .i64 n)), (2, (.int .i64 st)), (9, voutj4)] a' ∧ Hp w [rowI 3 voutj4 outj4] w' ∧ (Ctl.next outj4 : Ctl (List Int) (List Int)) = c19 ∧ (outj4.length ≤ 1)) ?_ ?_
    · refine TC.seq ?_
      refine TC.region ?_
      refine TL.op (yq (y_move (ev_t rfl))) rfl rfl rfl ?_
      refine TL.op (y_call (vs := [(.int .i64 st)]) (v := (.int .i64 (F_spec_l5Size st))) en_130 ⟨(ev_t rfl), trivial⟩ (fun w hw => spec_l5Size_ok w st (by first | assumption | omega | grind))) rfl rfl rfl ?_
      refine TL.op (yq (y_move (ev_t rfl))) rfl rfl rfl ?_
      refine TL.op (yq (y_lss (ev_t rfl) (ev_t rfl))) rfl rfl rfl ?_
      refine TL.nil ?_
      refine TN.seq ?_
      refine TC.cond (b := decide ((F_spec_l5Size st) < k)) (ev_t rfl) (fun h20 => ?_) (fun h20 => ?_)
      · rw [bif_pos h20] at hcj4
        have q21 := (of_decide_eq_true h20)
        refine TC.region ?_
        refine TL.op (yq (y_move (ev_t rfl))) rfl rfl rfl ?_
        refine TL.buildI (zs := [.const (.int .i64 (-1))]) (qs := [-1]) slT_22 rfl ⟨ev_c, trivial⟩ rfl (by decide) rfl (fun v5_1 => ?_)
        refine TL.appendI 1 (ev_t rfl) (ev_t rfl) rfl slT_22 (ri_row 0 rfl) (by first | omega | (simp [-List.getD_eq_getElem?_getD] <;> omega)) rfl (fun v5_2 => ?_)
        refine TL.op (yq (y_assign (ev_t rfl))) rfl rfl rfl ?_
        refine TL.nil ?_
        exact fun a' w' hs hw => ⟨(([] : List Int) ++ ([-1])), v5_2, hs.sub ⟨rfl, rfl, rfl, trivial⟩, Hp.sublist hw (.cons _ (.cons_cons _ .slnil)), hcj4, (by first | omega | (simp [-List.getD_eq_getElem?_getD] <;> omega))⟩
      · rw [bif_neg h20] at hcj4
        have q21 := (of_decide_eq_false h20)
        refine TC.skip ?_
        exact fun a' w' hs hw => ⟨([] : List Int), v3_0, hs.sub ⟨rfl, rfl, rfl, trivial⟩, hw, hcj4, (by first | omega | (simp [-List.getD_eq_getElem?_getD] <;> omega))⟩
    · rintro a' w' ⟨outj4, voutj4, hs', hw', hdj4, hij4_0⟩
      rw [← hdj4, elim_next] at hF
      try dsimp only at hF
      refine (?_ : TC _ _ _ 36 (Hp w [rowI 3 voutj4 outj4]) [(1, (.int .i64 n)), (2, (.int .i64 st)), (9, voutj4)]) a' w' hs' hw'
      clear hs' hw' hcj4
      refine TC.seq ?_
      refine TC.seq ?_
      refine TC.region ?_
      refine TL.op (yq (y_assign ev_c)) rfl rfl rfl ?_
      refine TL.nil ?_
      refine TN.seq ?_
      refine TC.block ?_
      obtain ⟨c22, hc23⟩ : ∃ c, F_spec_l5Choices_L1 n st ((((n).toNat) - 0) + 1) (outj4, 0) = c := ⟨_, rfl⟩
      rw [hc23] at hF
      refine TC.loop (ι := Nat × List Int × Nat × Value) (fun (fu1, out1, x1, vout1) => [(1, (.int .i64 n)), (2, (.int .i64 st)), (9, vout1), (10, (.int .i64 (x1 : Int)))]) (fun (fu1, out1, x1, vout1) => Hp w [rowI 3 vout1 out1]) (fun (fu1, out1, x1, vout1) => (x1 ≤ ((n).toNat)) ∧ (out1.length ≤ x1 + 1) ∧ ((n).toNat) - x1 < fu1 ∧ F_spec_l5Choices_L1 n st fu1 (out1, x1) = c22) (fun (fu1, out1, x1, vout1) => fu1) ((((n).toNat) - 0) + 1, outj4, 0, voutj4) ⟨(by first | omega | (simp [-List.getD_eq_getElem?_getD] <;> omega)), (by first | omega | (simp [-List.getD_eq_getElem?_getD] <;> omega)), (by omega), hc23⟩ ⟨rfl, rfl, rfl, rfl, trivial⟩ (fun w hw => hw) ?_
      rintro ⟨fu1, out1, x1, vout1⟩ hJ1
      obtain ⟨hi1_0, hi1_1, hmu1, hL1⟩ : (x1 ≤ ((n).toNat)) ∧ (out1.length ≤ x1 + 1) ∧ ((n).toNat) - x1 < fu1 ∧ F_spec_l5Choices_L1 n st fu1 (out1, x1) = c22 := hJ1
      change TC _ _ _ _ (Hp w [rowI 3 vout1 out1]) [(1, (.int .i64 n)), (2, (.int .i64 st)), (9, vout1), (10, (.int .i64 (x1 : Int)))]
      obtain ⟨mf1, rfl⟩ : ∃ m, fu1 = m + 1 := ⟨fu1 - 1, by omega⟩
      rw [F_spec_l5Choices_L1_s] at hL1
      refine TC.seq ?_
      refine TC.seq ?_
      refine TC.region ?_
      refine TL.op (yq (y_move (ev_t rfl))) rfl rfl rfl ?_
      refine TL.op (yq (y_move (ev_t rfl))) rfl rfl rfl ?_
      refine TL.op (yq (y_lss (ev_t rfl) (ev_t rfl))) rfl rfl rfl ?_
      refine TL.nil ?_
      refine TN.seq ?_
      refine TC.cond (b := decide ((x1 : Int) < n)) (ev_t rfl) (fun h24 => ?_) (fun h24 => ?_)
      · rw [bif_pos h24] at hL1
        have q25 := (of_decide_eq_true h24)
        refine TC.skip ?_
        refine TN.seq ?_
        refine TC.seq ?_
        refine TC.block ?_
        refine TC.seq ?_
        refine TC.region ?_
        refine TL.op (yq (y_move (ev_t rfl))) rfl rfl rfl ?_
        refine TL.op (yq (y_move (ev_t rfl))) rfl rfl rfl ?_
        refine TL.op (y_call (vs := [(.int .i64 st), (.int .i64 (x1 : Int))]) (v := (.bool (F_spec_l5In st (x1 : Int)))) en_132 ⟨(ev_t rfl), (ev_t rfl), trivial⟩ (fun w hw => spec_l5In_ok w st (x1 : Int) (by first | assumption | omega | grind))) rfl rfl rfl ?_
        refine TL.nil ?_
        refine TN.seq ?_
        refine TC.cond (b := (F_spec_l5In st (x1 : Int))) (ev_t rfl) (fun h26 => ?_) (fun h26 => ?_)
        · rw [bif_pos h26] at hL1
          have q27 := h26
          refine TC.region ?_
          refine TL.op (yq (y_move (ev_t rfl))) rfl rfl rfl ?_
          refine TL.op (yq (y_move (ev_t rfl))) rfl rfl rfl ?_
          refine TL.buildI (zs := [.tmp 32]) (qs := [(x1 : Int)]) slT_22 rfl ⟨(ev_t rfl), trivial⟩ rfl (by decide) rfl (fun v10_2 => ?_)
          refine TL.appendI 1 (ev_t rfl) (ev_t rfl) rfl slT_22 (ri_row 0 rfl) (by first | omega | (simp [-List.getD_eq_getElem?_getD] <;> omega)) rfl (fun v10_3 => ?_)
          refine TL.op (yq (y_assign (ev_t rfl))) rfl rfl rfl ?_
          refine TL.nil ?_
          refine TN.blockN ?_
          refine TN.seq ?_
          refine TC.region ?_
          refine TL.op (yq (y_move (ev_t rfl))) rfl rfl rfl ?_
          refine TL.op (yq (y_add (ev_t rfl) ev_c (by unfold In64; omega))) rfl rfl rfl ?_
          refine TL.op (yq (y_assign (ev_t rfl))) rfl rfl rfl ?_
          refine TL.nil ?_
          exact TN.hand (mf1, (out1 ++ ([(x1 : Int)])), (x1 + 1), v10_3) ⟨(by first | omega | (simp [-List.getD_eq_getElem?_getD] <;> omega)), (by first | omega | (simp [-List.getD_eq_getElem?_getD] <;> omega)), (by omega), hL1⟩ (Nat.lt_succ_self _) ⟨rfl, rfl, rfl, rfl, trivial⟩ (fun w hw => Hp.sublist hw (.cons _ (.cons_cons _ .slnil)))
        · rw [bif_neg h26] at hL1
          have q27 := h26
          refine TC.skip ?_
          refine TN.blockN ?_
          refine TN.seq ?_
          refine TC.region ?_
          refine TL.op (yq (y_move (ev_t rfl))) rfl rfl rfl ?_
          refine TL.op (yq (y_add (ev_t rfl) ev_c (by unfold In64; omega))) rfl rfl rfl ?_
          refine TL.op (yq (y_assign (ev_t rfl))) rfl rfl rfl ?_
          refine TL.nil ?_
          exact TN.hand (mf1, out1, (x1 + 1), vout1) ⟨(by first | omega | (simp [-List.getD_eq_getElem?_getD] <;> omega)), (by first | omega | (simp [-List.getD_eq_getElem?_getD] <;> omega)), (by omega), hL1⟩ (Nat.lt_succ_self _) ⟨rfl, rfl, rfl, rfl, trivial⟩ (fun w hw => hw)
      · rw [bif_neg h24] at hL1
        have q25 := (of_decide_eq_false h24)
        refine TC.exit ?_
        refine TN.thenE ?_
        refine TN.thenE ?_
        rw [← hL1, elim_next] at hF
        try dsimp only at hF
        refine TN.blockH ?_
        refine TN.seq ?_
        refine TC.seq ?_
        refine TC.region ?_
        refine TL.op (yq (y_move (ev_t rfl))) rfl rfl rfl ?_
        refine TL.op (yq (y_assign (ev_t rfl))) rfl rfl rfl ?_
        refine TL.nil ?_
        refine TN.seq ?_
        refine TC.ret ?_
        subst hF
        exact TN.ret1 rfl (ev_t rfl) (fun w' hw => ⟨vout1, rfl, hw⟩)

set_option maxRecDepth 4000 in
set_option maxHeartbeats 1000000 in
theorem spec_l5Fewest_ok (w : World) (k : Int) (n : Int) (vreqs : Value) (reqs : List Int) (hreqs : RI w vreqs reqs) (hp0 : 1 ≤ n ∧ n ≤ 8) (hp1 : reqs.length ≤ 60) (hp2 : ∀ i, i < reqs.length → 0 ≤ reqs.getD i 0 ∧ reqs.getD i 0 < n) :
    Calls Try.prog 96 ([(.int .i64 k), (.int .i64 n), vreqs] : List Value).toArray w (fun e w' => ∃ i : Value × List Value, e = .returned i.1 ∧ Hp w [tabI 22 3 i.1 i.2 (F_spec_l5Fewest k n reqs)] w') := by
  obtain ⟨rz, hF⟩ : ∃ rz, (F_spec_l5Fewest k n reqs) = rz := ⟨_, rfl⟩
  rw [hF]
  unfold F_spec_l5Fewest at hF
  have hpn := pw_bd (n := n) (by omega)
  have hlc := fun s p => choices_len k n s p
  have hlen_reqs := arg_len hreqs
  refine calls_tc Try.func96 rfl rfl rfl ?_
  change TC _ _ _ _ (Hp w []) [(0, (.int .i64 k)), (1, (.int .i64 n)), (2, vreqs)]
  refine TC.seq ?_
  refine TC.region ?_
  refine TL.op (yq (y_assign ev_c)) rfl rfl rfl ?_
  refine TL.nil ?_
  refine TN.seq ?_
  refine TC.seq ?_
  refine TC.region ?_
  refine TL.op (yq (y_move (ev_t rfl))) rfl rfl rfl ?_
  refine TL.op (yq (y_len (ev_t rfl) Try.underlying22 (fun w hw => ((ri_arg hreqs) w hw).ln))) rfl rfl rfl ?_
  refine TL.op (yq (y_add (ev_t rfl) ev_c (by unfold In64; omega))) rfl rfl rfl ?_
  refine TL.makeSlice (n := (reqs.length + 1)) (ev_t rfl) (ev_t rfl) (by omega) slT_33 rfl (by omega) (by unfold maxLen; omega) rfl (fun v1_3 => ?_)
  refine TL.cls (fun w hw => hw.madeTab 3) ?_
  refine TL.op (yq (y_assign (ev_t rfl))) rfl rfl rfl ?_
  refine TL.nil ?_
  refine TN.seq ?_
  refine TC.seq ?_
  refine TC.region ?_
  refine TL.op (yq (y_move (ev_t rfl))) rfl rfl rfl ?_
  refine TL.op (yq (y_move (ev_t rfl))) rfl rfl rfl ?_
  refine TL.op (yq (y_len (ev_t rfl) Try.underlying22 (fun w hw => ((ri_arg hreqs) w hw).ln))) rfl rfl rfl ?_
  refine TL.op (yq (y_move (ev_t rfl))) rfl rfl rfl ?_
  refine TL.op (yq (y_shlI ev_c (ev_t rfl) (by omega))) rfl rfl rfl ?_
  refine TL.makeSlice (n := (pw n).toNat) (ev_t rfl) (ev_t rfl) (by omega) slT_22 rfl (by omega) (by unfold maxLen; omega) rfl (fun v2_5 => ?_)
  refine TL.cls (fun w hw => hw.zeros) ?_
  have hb111 : reqs.length < (List.replicate (reqs.length + 1) ([] : List Int)).length := (by first | omega | (simp only [List.length_set, List.length_append, List.length_cons, List.length_nil, List.length_replicate]; omega) | (rw [sortI_length]; simp only [List.length_cons, List.length_nil]; omega))
  refine TL.op (yq (y_idx (k := reqs.length) (ev_t rfl) (ev_t rfl) (by first | omega | simp) slT_33 (fun w hw => ((rii_tab 1 rfl) w hw).1) hb111)) rfl rfl rfl ?_
  refine TL.storeU 1 0 rfl (ev_t rfl) (ev_t rfl) one_22 rfl rfl hb111 ?_
  refine TL.nil ?_
  refine TN.seq ?_
  refine TC.seq ?_
  refine TC.seq ?_
  refine TC.region ?_
  refine TL.op (yq (y_move (ev_t rfl))) rfl rfl rfl ?_
  refine TL.op (yq (y_len (ev_t rfl) Try.underlying22 (fun w hw => ((ri_arg hreqs) w hw).ln))) rfl rfl rfl ?_
  refine TL.op (yq (y_sub (ev_t rfl) ev_c (by unfold In64; omega))) rfl rfl rfl ?_
  refine TL.op (yq (y_assign (ev_t rfl))) rfl rfl rfl ?_
  refine TL.nil ?_
  refine TN.seq ?_
  refine TC.block ?_
  obtain ⟨c112, hc113⟩ : ∃ c, F_spec_l5Fewest_L1 k n reqs (((((reqs.length : Int) - 1) + 1).toNat) + 1) (((reqs.length : Int) - 1), ((List.replicate (reqs.length + 1) ([] : List Int)).set reqs.length (List.replicate ((pw n).toNat) (0 : Int)))) = c := ⟨_, rfl⟩
  rw [hc113] at hF
  refine TC.loop (ι := Nat × Int × List (List Int) × List Value) (fun (fu1, k8_1, m0_1, um0_1) => [(0, (.int .i64 k)), (1, (.int .i64 n)), (2, vreqs), (7, v1_3), (8, (.int .i64 k8_1))]) (fun (fu1, k8_1, m0_1, um0_1) => Hp w [tabI 22 3 v1_3 um0_1 m0_1]) (fun (fu1, k8_1, m0_1, um0_1) => (-1 ≤ k8_1) ∧ (k8_1 < reqs.length) ∧ (Tb reqs.length n k8_1 m0_1) ∧ (k8_1 + 1).toNat < fu1 ∧ F_spec_l5Fewest_L1 k n reqs fu1 (k8_1, m0_1) = c112) (fun (fu1, k8_1, m0_1, um0_1) => fu1) (((((reqs.length : Int) - 1) + 1).toNat) + 1, (reqs.length : Int) - 1, ((List.replicate (reqs.length + 1) ([] : List Int)).set reqs.length (List.replicate ((pw n).toNat) (0 : Int))), ((List.replicate (reqs.length + 1) (.slice none 0 0)).set reqs.length v2_5)) ⟨(by first | omega | (simp [-List.getD_eq_getElem?_getD] <;> omega)), (by first | omega | (simp [-List.getD_eq_getElem?_getD] <;> omega)), (Tb.init reqs.length n), (by omega), hc113⟩ ⟨rfl, rfl, rfl, rfl, rfl, trivial⟩ (fun w hw => Hp.sublist hw (.cons _ (.cons_cons _ .slnil))) ?_
  rintro ⟨fu1, k8_1, m0_1, um0_1⟩ hJ1
  obtain ⟨hi1_0, hi1_1, hi1_2, hmu1, hL1⟩ : (-1 ≤ k8_1) ∧ (k8_1 < reqs.length) ∧ (Tb reqs.length n k8_1 m0_1) ∧ (k8_1 + 1).toNat < fu1 ∧ F_spec_l5Fewest_L1 k n reqs fu1 (k8_1, m0_1) = c112 := hJ1
  change TC _ _ _ _ (Hp w [tabI 22 3 v1_3 um0_1 m0_1]) [(0, (.int .i64 k)), (1, (.int .i64 n)), (2, vreqs), (7, v1_3), (8, (.int .i64 k8_1))]
  obtain ⟨mf1, rfl⟩ : ∃ m, fu1 = m + 1 := ⟨fu1 - 1, by omega⟩
  rw [F_spec_l5Fewest_L1_s] at hL1
  have hln := hi1_2.ln
  have hrq := hp2 (k8_1).toNat
  refine TC.seq ?_
  refine TC.seq ?_
  refine TC.region ?_
  refine TL.op (yq (y_move (ev_t rfl))) rfl rfl rfl ?_
  refine TL.op (yq (y_geq (ev_t rfl) ev_c)) rfl rfl rfl ?_
  refine TL.nil ?_
  refine TN.seq ?_
  refine TC.cond (b := decide (0 ≤ k8_1)) (ev_t rfl) (fun h114 => ?_) (fun h114 => ?_)
  · rw [bif_pos h114] at hL1
    have q115 := (of_decide_eq_true h114)
    refine TC.skip ?_
    refine TN.seq ?_
    refine TC.seq ?_
    refine TC.block ?_
    refine TC.seq ?_
    refine TC.region ?_
    refine TL.op (yq (y_assign ev_c)) rfl rfl rfl ?_
    refine TL.nil ?_
    refine TN.seq ?_
    refine TC.block ?_
    obtain ⟨c116, hc117⟩ : ∃ c, F_spec_l5Fewest_L2 k n reqs k8_1 (((pw n).toNat - 0) + 1) (0, m0_1) = c := ⟨_, rfl⟩
    rw [hc117] at hL1
    refine TC.loop (ι := Nat × Nat × List (List Int) × List Value) (fun (fu2, k9_2, m0_2, um0_2) => [(0, (.int .i64 k)), (1, (.int .i64 n)), (2, vreqs), (7, v1_3), (8, (.int .i64 k8_1)), (9, (.int .i64 (k9_2 : Int)))]) (fun (fu2, k9_2, m0_2, um0_2) => Hp w [tabI 22 3 v1_3 um0_2 m0_2]) (fun (fu2, k9_2, m0_2, um0_2) => ((k9_2 : Int) ≤ pw n) ∧ (Tc reqs.length n k8_1 k9_2 m0_2) ∧ (pw n).toNat - k9_2 < fu2 ∧ F_spec_l5Fewest_L2 k n reqs k8_1 fu2 (k9_2, m0_2) = c116) (fun (fu2, k9_2, m0_2, um0_2) => fu2) (((pw n).toNat - 0) + 1, 0, m0_1, um0_1) ⟨(by first | omega | (simp [-List.getD_eq_getElem?_getD] <;> omega)), (hi1_2.start (by omega) (by omega)), (by omega), hc117⟩ ⟨rfl, rfl, rfl, rfl, rfl, rfl, trivial⟩ (fun w hw => hw) ?_
    rintro ⟨fu2, k9_2, m0_2, um0_2⟩ hJ2
    obtain ⟨hi2_0, hi2_1, hmu2, hL2⟩ : ((k9_2 : Int) ≤ pw n) ∧ (Tc reqs.length n k8_1 k9_2 m0_2) ∧ (pw n).toNat - k9_2 < fu2 ∧ F_spec_l5Fewest_L2 k n reqs k8_1 fu2 (k9_2, m0_2) = c116 := hJ2
    change TC _ _ _ _ (Hp w [tabI 22 3 v1_3 um0_2 m0_2]) [(0, (.int .i64 k)), (1, (.int .i64 n)), (2, vreqs), (7, v1_3), (8, (.int .i64 k8_1)), (9, (.int .i64 (k9_2 : Int)))]
    obtain ⟨mf2, rfl⟩ : ∃ m, fu2 = m + 1 := ⟨fu2 - 1, by omega⟩
    rw [F_spec_l5Fewest_L2_s] at hL2
    have hln3 := hi2_1.ln
    have hfl := hi2_1.full (k8_1 + 1).toNat (by omega) (by omega)
    have hrw := hi2_1.row
    have hll := hlc (k9_2 : Int) (reqs.getD ((k8_1).toNat) 0)
    refine TC.seq ?_
    refine TC.seq ?_
    refine TC.region ?_
    refine TL.op (yq (y_move (ev_t rfl))) rfl rfl rfl ?_
    refine TL.op (yq (y_move (ev_t rfl))) rfl rfl rfl ?_
    refine TL.op (yq (y_shlI ev_c (ev_t rfl) (by omega))) rfl rfl rfl ?_
    refine TL.op (yq (y_lss (ev_t rfl) (ev_t rfl))) rfl rfl rfl ?_
    refine TL.nil ?_
    refine TN.seq ?_
    refine TC.cond (b := decide ((k9_2 : Int) < pw n)) (ev_t rfl) (fun h118 => ?_) (fun h118 => ?_)
    · rw [bif_pos h118] at hL2
      have q119 := (of_decide_eq_true h118)
      refine TC.skip ?_
      refine TN.seq ?_
      refine TC.seq ?_
      refine TC.block ?_
      refine TC.seq ?_
      refine TC.region ?_
      refine TL.op (yq (y_assign ev_c)) rfl rfl rfl ?_
      refine TL.nil ?_
      refine TN.seq ?_
      refine TC.seq ?_
      refine TC.region ?_
      refine TL.op (yq (y_move (ev_t rfl))) rfl rfl rfl ?_
      refine TL.op (yq (y_move (ev_t rfl))) rfl rfl rfl ?_
      refine TL.op (yq (y_move (ev_t rfl))) rfl rfl rfl ?_
      refine TL.op (yq (y_move (ev_t rfl))) rfl rfl rfl ?_
      refine TL.op (yq (y_move (ev_t rfl))) rfl rfl rfl ?_
      have hb120 : (k8_1).toNat < reqs.length := (by first | omega | (simp only [List.length_set, List.length_append, List.length_cons, List.length_nil, List.length_replicate]; omega) | (rw [sortI_length]; simp only [List.length_cons, List.length_nil]; omega))
      refine TL.op (yq (y_idx (k := (k8_1).toNat) (ev_t rfl) (ev_t rfl) (by first | omega | simp) slT_22 (ri_arg hreqs) hb120)) rfl rfl rfl ?_
      refine TL.op (yq (y_ldi (ev_t rfl) one_3 (ri_arg hreqs) hb120)) rfl rfl rfl ?_
      refine TL.callr (ι := Value) (vs := [(.int .i64 k), (.int .i64 n), (.int .i64 (k9_2 : Int)), (.int .i64 (reqs.getD ((k8_1).toNat) 0))]) (fun i => i) (fun i => [rowI 3 i (F_spec_l5Choices k n (k9_2 : Int) (reqs.getD ((k8_1).toNat) 0))]) en_129 ⟨(ev_t rfl), (ev_t rfl), (ev_t rfl), (ev_t rfl), trivial⟩ rfl (fun w hw => spec_l5Choices_ok w k n (k9_2 : Int) (reqs.getD ((k8_1).toNat) 0) (by first | assumption | omega | grind) (by first | assumption | omega | grind) (by first | assumption | omega | grind)) (fun r10_7 => ?_)
      refine TL.op (yq (y_assign (ev_t rfl))) rfl rfl rfl ?_
      refine TL.nil ?_
      refine TN.seq ?_
      refine TC.seq ?_
      refine TC.seq ?_
      refine TC.region ?_
      refine TL.op (yq (y_assign ev_c)) rfl rfl rfl ?_
      refine TL.nil ?_
      refine TN.seq ?_
      refine TC.block ?_
      obtain ⟨c121, hc122⟩ : ∃ c, F_spec_l5Fewest_L3 k n reqs k8_1 k9_2 m0_2 (((F_spec_l5Choices k n (k9_2 : Int) (reqs.getD ((k8_1).toNat) 0)).length - 0) + 1) ((-1), 0) = c := ⟨_, rfl⟩
      rw [hc122] at hL2
      refine TC.loop (ι := Nat × Int × Nat) (fun (fu3, k10_3, k12_3) => [(0, (.int .i64 k)), (1, (.int .i64 n)), (2, vreqs), (7, v1_3), (8, (.int .i64 k8_1)), (9, (.int .i64 (k9_2 : Int))), (10, (.int .i64 k10_3)), (11, r10_7), (12, (.int .i64 (k12_3 : Int)))]) (fun (fu3, k10_3, k12_3) => Hp w [rowI 3 r10_7 (F_spec_l5Choices k n (k9_2 : Int) (reqs.getD ((k8_1).toNat) 0)), tabI 22 3 v1_3 um0_2 m0_2]) (fun (fu3, k10_3, k12_3) => (k12_3 ≤ (F_spec_l5Choices k n (k9_2 : Int) (reqs.getD ((k8_1).toNat) 0)).length) ∧ (-1 ≤ k10_3) ∧ (k10_3 ≤ (reqs.length : Int) - k8_1) ∧ (F_spec_l5Choices k n (k9_2 : Int) (reqs.getD ((k8_1).toNat) 0)).length - k12_3 < fu3 ∧ F_spec_l5Fewest_L3 k n reqs k8_1 k9_2 m0_2 fu3 (k10_3, k12_3) = c121) (fun (fu3, k10_3, k12_3) => fu3) (((F_spec_l5Choices k n (k9_2 : Int) (reqs.getD ((k8_1).toNat) 0)).length - 0) + 1, -1, 0) ⟨(by first | omega | (simp [-List.getD_eq_getElem?_getD] <;> omega)), (by first | omega | (simp [-List.getD_eq_getElem?_getD] <;> omega)), (by first | omega | (simp [-List.getD_eq_getElem?_getD] <;> omega)), (by omega), hc122⟩ ⟨rfl, rfl, rfl, rfl, rfl, rfl, rfl, rfl, rfl, trivial⟩ (fun w hw => hw) ?_
      rintro ⟨fu3, k10_3, k12_3⟩ hJ3
      obtain ⟨hi3_0, hi3_1, hi3_2, hmu3, hL3⟩ : (k12_3 ≤ (F_spec_l5Choices k n (k9_2 : Int) (reqs.getD ((k8_1).toNat) 0)).length) ∧ (-1 ≤ k10_3) ∧ (k10_3 ≤ (reqs.length : Int) - k8_1) ∧ (F_spec_l5Choices k n (k9_2 : Int) (reqs.getD ((k8_1).toNat) 0)).length - k12_3 < fu3 ∧ F_spec_l5Fewest_L3 k n reqs k8_1 k9_2 m0_2 fu3 (k10_3, k12_3) = c121 := hJ3
      change TC _ _ _ _ (Hp w [rowI 3 r10_7 (F_spec_l5Choices k n (k9_2 : Int) (reqs.getD ((k8_1).toNat) 0)), tabI 22 3 v1_3 um0_2 m0_2]) [(0, (.int .i64 k)), (1, (.int .i64 n)), (2, vreqs), (7, v1_3), (8, (.int .i64 k8_1)), (9, (.int .i64 (k9_2 : Int))), (10, (.int .i64 k10_3)), (11, r10_7), (12, (.int .i64 (k12_3 : Int)))]
      obtain ⟨mf3, rfl⟩ : ∃ m, fu3 = m + 1 := ⟨fu3 - 1, by omega⟩
      rw [F_spec_l5Fewest_L3_s] at hL3
      refine TC.seq ?_
      refine TC.seq ?_
      refine TC.region ?_
      refine TL.op (yq (y_move (ev_t rfl))) rfl rfl rfl ?_
      refine TL.op (yq (y_move (ev_t rfl))) rfl rfl rfl ?_
      refine TL.op (yq (y_len (ev_t rfl) Try.underlying22 (fun w hw => ((ri_row 0 rfl) w hw).ln))) rfl rfl rfl ?_
      refine TL.op (yq (y_lss (ev_t rfl) (ev_t rfl))) rfl rfl rfl ?_
      refine TL.op (yq (y_move (ev_t rfl))) rfl rfl rfl ?_
      refine TL.opw (w_t rfl rfl rfl) (fun hg => yq (y_move (ev_t rfl))) rfl rfl ?_
      refine TL.opw (w_t rfl rfl rfl) (fun hg => y_call (vs := [(.int .i64 (k9_2 : Int))]) (v := (.int .i64 (F_spec_l5Size (k9_2 : Int)))) en_130 ⟨(ev_g rfl hg), trivial⟩ (fun w hw => spec_l5Size_ok w (k9_2 : Int) (by have hgf := (of_decide_eq_true hg); first | assumption | omega | (have hq := hgf.n6; omega) | (have hq := hgf.1.n6; omega) | grind))) rfl rfl ?_
      refine TL.opw (w_t rfl rfl rfl) (fun hg => yq (y_move (ev_t rfl))) rfl rfl ?_
      refine TL.opw (w_t rfl rfl rfl) (fun hg => yq (y_leq (ev_g rfl hg) (ev_g rfl hg))) rfl rfl ?_
      refine TL.op (yq (y_and (ev_t rfl) (fun hq => (ev_g rfl hq)))) rfl rfl rfl ?_
      refine TL.nil ?_
      refine TN.seq ?_
      refine TC.cond (b := ((decide ((k12_3 : Int) < ((F_spec_l5Choices k n (k9_2 : Int) (reqs.getD ((k8_1).toNat) 0)).length : Int))) && (decide ((F_spec_l5Size (k9_2 : Int)) ≤ k)))) (ev_t rfl) (fun h123 => ?_) (fun h123 => ?_)
      · rw [bif_pos h123] at hL3
        have q124 := (and_imp (and_t h123) (fun h => (of_decide_eq_true h)) (fun h => (of_decide_eq_true h)))
        have hcb := choices_bd k (n := n) k9_2 (reqs.getD ((k8_1).toNat) 0) (j := k12_3) (by omega)
        have hab := after_bd (s := k9_2) (n := n) (page := reqs.getD ((k8_1).toNat) 0) (ot := (F_spec_l5Choices k n (k9_2 : Int) (reqs.getD ((k8_1).toNat) 0)).getD k12_3 0) (by omega) (by omega) (by omega) hcb.2
        have hel := hfl.2 (F_spec_l5After (k9_2 : Int) (reqs.getD ((k8_1).toNat) 0) ((F_spec_l5Choices k n (k9_2 : Int) (reqs.getD ((k8_1).toNat) 0)).getD k12_3 0)).toNat
        refine TC.skip ?_
        refine TN.seq ?_
        refine TC.seq ?_
        refine TC.block ?_
        refine TC.seq ?_
        refine TC.regionQ (by kernel_rfl) (by kernel_rfl) dr_hp ?_
        refine TQ.op (yq (y_move (ev_t rfl))) rfl rfl rfl ?_
        refine TQ.op (yq (y_move (ev_t rfl))) rfl rfl rfl ?_
        refine TQ.op (yq (y_add (ev_t rfl) ev_c (by unfold In64; omega))) rfl rfl rfl ?_
        have hb125 : (k8_1 + 1).toNat < m0_2.length := (by first | omega | (simp only [List.length_set, List.length_append, List.length_cons, List.length_nil, List.length_replicate]; omega) | (rw [sortI_length]; simp only [List.length_cons, List.length_nil]; omega))
        refine TQ.op (yq (y_idx (k := (k8_1 + 1).toNat) (ev_t rfl) (ev_t rfl) (by first | omega | simp) slT_33 (fun w hw => ((rii_tab 1 rfl) w hw).1) hb125)) rfl rfl rfl ?_
        refine TQ.op (yq (y_ldT 1 (ev_t rfl) one_22 rfl hb125)) rfl rfl rfl ?_
        refine TQ.op (yq (y_move (ev_t rfl))) rfl rfl rfl ?_
        refine TQ.op (yq (y_move (ev_t rfl))) rfl rfl rfl ?_
        refine TQ.op (yq (y_move (ev_t rfl))) rfl rfl rfl ?_
        have hb126 : (k8_1).toNat < reqs.length := (by first | omega | (simp only [List.length_set, List.length_append, List.length_cons, List.length_nil, List.length_replicate]; omega) | (rw [sortI_length]; simp only [List.length_cons, List.length_nil]; omega))
        refine TQ.op (yq (y_idx (k := (k8_1).toNat) (ev_t rfl) (ev_t rfl) (by first | omega | simp) slT_22 (ri_arg hreqs) hb126)) rfl rfl rfl ?_
        refine TQ.op (yq (y_ldi (ev_t rfl) one_3 (ri_arg hreqs) hb126)) rfl rfl rfl ?_
        refine TQ.op (yq (y_move (ev_t rfl))) rfl rfl rfl ?_
        refine TQ.op (yq (y_move (ev_t rfl))) rfl rfl rfl ?_
        have hb127 : k12_3 < (F_spec_l5Choices k n (k9_2 : Int) (reqs.getD ((k8_1).toNat) 0)).length := (by first | omega | (simp only [List.length_set, List.length_append, List.length_cons, List.length_nil, List.length_replicate]; omega) | (rw [sortI_length]; simp only [List.length_cons, List.length_nil]; omega))
        refine TQ.op (yq (y_idx (k := k12_3) (ev_t rfl) (ev_t rfl) (by first | omega | simp) slT_22 (ri_row 0 rfl) hb127)) rfl rfl rfl ?_
        refine TQ.op (yq (y_ldi (ev_t rfl) one_3 (ri_row 0 rfl) hb127)) rfl rfl rfl ?_
        refine TQ.op (y_call (vs := [(.int .i64 (k9_2 : Int)), (.int .i64 (reqs.getD ((k8_1).toNat) 0)), (.int .i64 ((F_spec_l5Choices k n (k9_2 : Int) (reqs.getD ((k8_1).toNat) 0)).getD k12_3 0))]) (v := (.int .i64 (F_spec_l5After (k9_2 : Int) (reqs.getD ((k8_1).toNat) 0) ((F_spec_l5Choices k n (k9_2 : Int) (reqs.getD ((k8_1).toNat) 0)).getD k12_3 0)))) en_131 ⟨(ev_t rfl), (ev_t rfl), (ev_t rfl), trivial⟩ (fun w hw => spec_l5After_ok w (k9_2 : Int) (reqs.getD ((k8_1).toNat) 0) ((F_spec_l5Choices k n (k9_2 : Int) (reqs.getD ((k8_1).toNat) 0)).getD k12_3 0) (by first | assumption | omega | grind) (by first | assumption | omega | grind) (by first | assumption | omega | grind) (by first | assumption | omega | grind))) rfl rfl rfl ?_
        have hb128 : ((F_spec_l5After (k9_2 : Int) (reqs.getD ((k8_1).toNat) 0) ((F_spec_l5Choices k n (k9_2 : Int) (reqs.getD ((k8_1).toNat) 0)).getD k12_3 0))).toNat < (m0_2.getD ((k8_1 + 1).toNat) []).length := (by first | omega | (simp only [List.length_set, List.length_append, List.length_cons, List.length_nil, List.length_replicate]; omega) | (rw [sortI_length]; simp only [List.length_cons, List.length_nil]; omega))
        refine TQ.op (yq (y_idx (k := ((F_spec_l5After (k9_2 : Int) (reqs.getD ((k8_1).toNat) 0) ((F_spec_l5Choices k n (k9_2 : Int) (reqs.getD ((k8_1).toNat) 0)).getD k12_3 0))).toNat) (ev_t rfl) (ev_t rfl) (by first | omega | simp) slT_22 (ri_tab 1 ((k8_1 + 1).toNat) rfl hb125) hb128)) rfl rfl rfl ?_
        refine TQ.op (yq (y_ldi (ev_t rfl) one_3 (ri_tab 1 ((k8_1 + 1).toNat) rfl hb125) hb128)) rfl rfl rfl ?_
        refine TQ.op (yq (y_assign (ev_t rfl))) rfl rfl rfl ?_
        refine TQ.nil ?_
        refine TN.seq ?_
        refine TC.seq ?_
        refine TC.seq ?_
        refine TC.region ?_
        refine TL.op (yq (y_move (ev_t rfl))) rfl rfl rfl ?_
        refine TL.op (yq (y_move (ev_t rfl))) rfl rfl rfl ?_
        refine TL.op (yq (y_move (ev_t rfl))) rfl rfl rfl ?_
        have hb129 : (k8_1).toNat < reqs.length := (by first | omega | (simp only [List.length_set, List.length_append, List.length_cons, List.length_nil, List.length_replicate]; omega) | (rw [sortI_length]; simp only [List.length_cons, List.length_nil]; omega))
        refine TL.op (yq (y_idx (k := (k8_1).toNat) (ev_t rfl) (ev_t rfl) (by first | omega | simp) slT_22 (ri_arg hreqs) hb129)) rfl rfl rfl ?_
        refine TL.op (yq (y_ldi (ev_t rfl) one_3 (ri_arg hreqs) hb129)) rfl rfl rfl ?_
        refine TL.op (y_call (vs := [(.int .i64 (k9_2 : Int)), (.int .i64 (reqs.getD ((k8_1).toNat) 0))]) (v := (.bool (F_spec_l5In (k9_2 : Int) (reqs.getD ((k8_1).toNat) 0)))) en_132 ⟨(ev_t rfl), (ev_t rfl), trivial⟩ (fun w hw => spec_l5In_ok w (k9_2 : Int) (reqs.getD ((k8_1).toNat) 0) (by first | assumption | omega | grind))) rfl rfl rfl ?_
        refine TL.op (yq (y_not (ev_t rfl))) rfl rfl rfl ?_
        refine TL.nil ?_
        refine TN.seq ?_
        refine TC.cond (b := !(F_spec_l5In (k9_2 : Int) (reqs.getD ((k8_1).toNat) 0))) (ev_t rfl) (fun h130 => ?_) (fun h130 => ?_)
        · rw [bif_pos h130] at hL3
          have q131 := (not_t h130)
          refine TC.region ?_
          refine TL.op (yq (y_move (ev_t rfl))) rfl rfl rfl ?_
          refine TL.op (yq (y_add (ev_t rfl) ev_c (by unfold In64; omega))) rfl rfl rfl ?_
          refine TL.op (yq (y_assign (ev_t rfl))) rfl rfl rfl ?_
          refine TL.nil ?_
          refine TN.seq ?_
          refine TC.seq ?_
          refine TC.region ?_
          refine TL.op (yq (y_move (ev_t rfl))) rfl rfl rfl ?_
          refine TL.op (yq (y_lss (ev_t rfl) ev_c)) rfl rfl rfl ?_
          refine TL.op (yq (y_move (ev_t rfl))) rfl rfl rfl ?_
          refine TL.opw (w_f rfl rfl rfl) (fun hg => yq (y_move (ev_t rfl))) rfl rfl ?_
          refine TL.opw (w_f rfl rfl rfl) (fun hg => yq (y_move (ev_t rfl))) rfl rfl ?_
          refine TL.opw (w_f rfl rfl rfl) (fun hg => yq (y_lss (ev_g rfl hg) (ev_g rfl hg))) rfl rfl ?_
          refine TL.op (yq (y_or (ev_t rfl) (fun hq => (ev_g rfl hq)))) rfl rfl rfl ?_
          refine TL.nil ?_
          refine TN.seq ?_
          refine TC.cond (b := ((decide (k10_3 < 0)) || (decide (((m0_2.getD ((k8_1 + 1).toNat) []).getD (((F_spec_l5After (k9_2 : Int) (reqs.getD ((k8_1).toNat) 0) ((F_spec_l5Choices k n (k9_2 : Int) (reqs.getD ((k8_1).toNat) 0)).getD k12_3 0))).toNat) 0) + 1 < k10_3)))) (ev_t rfl) (fun h132 => ?_) (fun h132 => ?_)
          · rw [bif_pos h132] at hL3
            have q133 := ((or_t h132).imp (fun h => (of_decide_eq_true h)) (fun h => (of_decide_eq_true h)))
            refine TC.region ?_
            refine TL.op (yq (y_move (ev_t rfl))) rfl rfl rfl ?_
            refine TL.op (yq (y_assign (ev_t rfl))) rfl rfl rfl ?_
            refine TL.nil ?_
            refine TN.blockN ?_
            refine TN.seq ?_
            refine TC.region ?_
            refine TL.op (yq (y_move (ev_t rfl))) rfl rfl rfl ?_
            refine TL.op (yq (y_add (ev_t rfl) ev_c (by unfold In64; omega))) rfl rfl rfl ?_
            refine TL.op (yq (y_assign (ev_t rfl))) rfl rfl rfl ?_
            refine TL.nil ?_
            exact TN.hand (mf3, ((m0_2.getD ((k8_1 + 1).toNat) []).getD (((F_spec_l5After (k9_2 : Int) (reqs.getD ((k8_1).toNat) 0) ((F_spec_l5Choices k n (k9_2 : Int) (reqs.getD ((k8_1).toNat) 0)).getD k12_3 0))).toNat) 0) + 1, (k12_3 + 1)) ⟨(by first | omega | (simp [-List.getD_eq_getElem?_getD] <;> omega)), (by first | omega | (simp [-List.getD_eq_getElem?_getD] <;> omega)), (by first | omega | (simp [-List.getD_eq_getElem?_getD] <;> omega)), (by omega), hL3⟩ (Nat.lt_succ_self _) ⟨rfl, rfl, rfl, rfl, rfl, rfl, rfl, rfl, rfl, trivial⟩ (fun w hw => hw)
          · rw [bif_neg h132] at hL3
            have q133 := (and_imp (or_f h132) (fun h => (of_decide_eq_false h)) (fun h => (of_decide_eq_false h)))
            refine TC.skip ?_
            refine TN.blockN ?_
            refine TN.seq ?_
            refine TC.region ?_
            refine TL.op (yq (y_move (ev_t rfl))) rfl rfl rfl ?_
            refine TL.op (yq (y_add (ev_t rfl) ev_c (by unfold In64; omega))) rfl rfl rfl ?_
            refine TL.op (yq (y_assign (ev_t rfl))) rfl rfl rfl ?_
            refine TL.nil ?_
            exact TN.hand (mf3, k10_3, (k12_3 + 1)) ⟨(by first | omega | (simp [-List.getD_eq_getElem?_getD] <;> omega)), (by first | omega | (simp [-List.getD_eq_getElem?_getD] <;> omega)), (by first | omega | (simp [-List.getD_eq_getElem?_getD] <;> omega)), (by omega), hL3⟩ (Nat.lt_succ_self _) ⟨rfl, rfl, rfl, rfl, rfl, rfl, rfl, rfl, rfl, trivial⟩ (fun w hw => hw)
        · rw [bif_neg h130] at hL3
          have q131 := (not_f h130)
          refine TC.skip ?_
          refine TN.seq ?_
          refine TC.seq ?_
          refine TC.region ?_
          refine TL.op (yq (y_move (ev_t rfl))) rfl rfl rfl ?_
          refine TL.op (yq (y_lss (ev_t rfl) ev_c)) rfl rfl rfl ?_
          refine TL.op (yq (y_move (ev_t rfl))) rfl rfl rfl ?_
          refine TL.opw (w_f rfl rfl rfl) (fun hg => yq (y_move (ev_t rfl))) rfl rfl ?_
          refine TL.opw (w_f rfl rfl rfl) (fun hg => yq (y_move (ev_t rfl))) rfl rfl ?_
          refine TL.opw (w_f rfl rfl rfl) (fun hg => yq (y_lss (ev_g rfl hg) (ev_g rfl hg))) rfl rfl ?_
          refine TL.op (yq (y_or (ev_t rfl) (fun hq => (ev_g rfl hq)))) rfl rfl rfl ?_
          refine TL.nil ?_
          refine TN.seq ?_
          refine TC.cond (b := ((decide (k10_3 < 0)) || (decide (((m0_2.getD ((k8_1 + 1).toNat) []).getD (((F_spec_l5After (k9_2 : Int) (reqs.getD ((k8_1).toNat) 0) ((F_spec_l5Choices k n (k9_2 : Int) (reqs.getD ((k8_1).toNat) 0)).getD k12_3 0))).toNat) 0) < k10_3)))) (ev_t rfl) (fun h134 => ?_) (fun h134 => ?_)
          · rw [bif_pos h134] at hL3
            have q135 := ((or_t h134).imp (fun h => (of_decide_eq_true h)) (fun h => (of_decide_eq_true h)))
            refine TC.region ?_
            refine TL.op (yq (y_move (ev_t rfl))) rfl rfl rfl ?_
            refine TL.op (yq (y_assign (ev_t rfl))) rfl rfl rfl ?_
            refine TL.nil ?_
            refine TN.blockN ?_
            refine TN.seq ?_
            refine TC.region ?_
            refine TL.op (yq (y_move (ev_t rfl))) rfl rfl rfl ?_
            refine TL.op (yq (y_add (ev_t rfl) ev_c (by unfold In64; omega))) rfl rfl rfl ?_
            refine TL.op (yq (y_assign (ev_t rfl))) rfl rfl rfl ?_
            refine TL.nil ?_
            exact TN.hand (mf3, ((m0_2.getD ((k8_1 + 1).toNat) []).getD (((F_spec_l5After (k9_2 : Int) (reqs.getD ((k8_1).toNat) 0) ((F_spec_l5Choices k n (k9_2 : Int) (reqs.getD ((k8_1).toNat) 0)).getD k12_3 0))).toNat) 0), (k12_3 + 1)) ⟨(by first | omega | (simp [-List.getD_eq_getElem?_getD] <;> omega)), (by first | omega | (simp [-List.getD_eq_getElem?_getD] <;> omega)), (by first | omega | (simp [-List.getD_eq_getElem?_getD] <;> omega)), (by omega), hL3⟩ (Nat.lt_succ_self _) ⟨rfl, rfl, rfl, rfl, rfl, rfl, rfl, rfl, rfl, trivial⟩ (fun w hw => hw)
          · rw [bif_neg h134] at hL3
            have q135 := (and_imp (or_f h134) (fun h => (of_decide_eq_false h)) (fun h => (of_decide_eq_false h)))
            refine TC.skip ?_
            refine TN.blockN ?_
            refine TN.seq ?_
            refine TC.region ?_
            refine TL.op (yq (y_move (ev_t rfl))) rfl rfl rfl ?_
            refine TL.op (yq (y_add (ev_t rfl) ev_c (by unfold In64; omega))) rfl rfl rfl ?_
            refine TL.op (yq (y_assign (ev_t rfl))) rfl rfl rfl ?_
            refine TL.nil ?_
            exact TN.hand (mf3, k10_3, (k12_3 + 1)) ⟨(by first | omega | (simp [-List.getD_eq_getElem?_getD] <;> omega)), (by first | omega | (simp [-List.getD_eq_getElem?_getD] <;> omega)), (by first | omega | (simp [-List.getD_eq_getElem?_getD] <;> omega)), (by omega), hL3⟩ (Nat.lt_succ_self _) ⟨rfl, rfl, rfl, rfl, rfl, rfl, rfl, rfl, rfl, trivial⟩ (fun w hw => hw)
      · rw [bif_neg h123] at hL3
        have q124 := ((and_f h123).imp (fun h => (of_decide_eq_false h)) (fun h => (of_decide_eq_false h)))
        refine TC.exit ?_
        refine TN.thenE ?_
        refine TN.thenE ?_
        rw [← hL3, elim_next] at hL2
        try dsimp only at hL2
        refine TN.blockH ?_
        refine TN.seq ?_
        refine TC.region ?_
        refine TL.op (yq (y_move (ev_t rfl))) rfl rfl rfl ?_
        refine TL.op (yq (y_move (ev_t rfl))) rfl rfl rfl ?_
        refine TL.op (yq (y_move (ev_t rfl))) rfl rfl rfl ?_
        refine TL.op (yq (y_move (ev_t rfl))) rfl rfl rfl ?_
        have hb136 : (k8_1).toNat < m0_2.length := (by first | omega | (simp only [List.length_set, List.length_append, List.length_cons, List.length_nil, List.length_replicate]; omega) | (rw [sortI_length]; simp only [List.length_cons, List.length_nil]; omega))
        refine TL.op (yq (y_idx (k := (k8_1).toNat) (ev_t rfl) (ev_t rfl) (by first | omega | simp) slT_33 (fun w hw => ((rii_tab 1 rfl) w hw).1) hb136)) rfl rfl rfl ?_
        refine TL.op (yq (y_ldT 1 (ev_t rfl) one_22 rfl hb136)) rfl rfl rfl ?_
        refine TL.op (yq (y_move (ev_t rfl))) rfl rfl rfl ?_
        refine TL.buildI (zs := [.tmp 98]) (qs := [k10_3]) slT_22 rfl ⟨(ev_t rfl), trivial⟩ rfl (by decide) rfl (fun v19_7 => ?_)
        refine TL.cls (fun w hw => Hp.focus 2 ((k8_1).toNat) hw rfl hb136) ?_
        refine TL.appendI 0 (ev_t rfl) (ev_t rfl) rfl slT_22 (ri_row 1 rfl) (by first | omega | (simp [-List.getD_eq_getElem?_getD] <;> omega)) rfl (fun v19_8 => ?_)
        have hb137 : (k8_1).toNat < m0_2.length := (by first | omega | (simp only [List.length_set, List.length_append, List.length_cons, List.length_nil, List.length_replicate]; omega) | (rw [sortI_length]; simp only [List.length_cons, List.length_nil]; omega))
        refine TL.op (yq (y_idx (k := (k8_1).toNat) (ev_t rfl) (ev_t rfl) (by first | omega | simp) slT_33 (rd_tabh 3 rfl) hb137)) rfl rfl rfl ?_
        refine TL.storeH 3 0 rfl (ev_t rfl) (ev_t rfl) one_22 rfl rfl hb137 ?_
        refine TL.nil ?_
        refine TN.blockN ?_
        refine TN.seq ?_
        refine TC.region ?_
        refine TL.op (yq (y_move (ev_t rfl))) rfl rfl rfl ?_
        refine TL.op (yq (y_add (ev_t rfl) ev_c (by unfold In64; omega))) rfl rfl rfl ?_
        refine TL.op (yq (y_assign (ev_t rfl))) rfl rfl rfl ?_
        refine TL.nil ?_
        exact TN.hand (mf2, (k9_2 + 1), (m0_2.set ((k8_1).toNat) ((m0_2.getD ((k8_1).toNat) []) ++ ([k10_3]))), (um0_2.set ((k8_1).toNat) v19_8)) ⟨(by first | omega | (simp [-List.getD_eq_getElem?_getD] <;> omega)), (hi2_1.push (by omega) (by omega) (by omega) (by omega)), (by omega), hL2⟩ (Nat.lt_succ_self _) ⟨rfl, rfl, rfl, rfl, rfl, rfl, trivial⟩ (fun w hw => Hp.sublist hw (.cons _ (.cons _ (.cons _ (.cons_cons _ .slnil)))))
    · rw [bif_neg h118] at hL2
      have q119 := (of_decide_eq_false h118)
      refine TC.exit ?_
      refine TN.thenE ?_
      refine TN.thenE ?_
      rw [← hL2, elim_next] at hL1
      try dsimp only at hL1
      have hln4 := hi2_1.ln
      refine TN.blockH ?_
      refine TN.blockN ?_
      refine TN.seq ?_
      refine TC.region ?_
      refine TL.op (yq (y_move (ev_t rfl))) rfl rfl rfl ?_
      refine TL.op (yq (y_sub (ev_t rfl) ev_c (by unfold In64; omega))) rfl rfl rfl ?_
      refine TL.op (yq (y_assign (ev_t rfl))) rfl rfl rfl ?_
      refine TL.nil ?_
      exact TN.hand (mf1, k8_1 - 1, m0_2, um0_2) ⟨(by first | omega | (simp [-List.getD_eq_getElem?_getD] <;> omega)), (by first | omega | (simp [-List.getD_eq_getElem?_getD] <;> omega)), (hi2_1.done (by omega) (by omega)), (by omega), hL1⟩ (Nat.lt_succ_self _) ⟨rfl, rfl, rfl, rfl, rfl, trivial⟩ (fun w hw => hw)
  · rw [bif_neg h114] at hL1
    have q115 := (of_decide_eq_false h114)
    refine TC.exit ?_
    refine TN.thenE ?_
    refine TN.thenE ?_
    rw [← hL1, elim_next] at hF
    try dsimp only at hF
    have hln2 := hi1_2.ln
    refine TN.blockH ?_
    refine TN.seq ?_
    refine TC.seq ?_
    refine TC.region ?_
    refine TL.op (yq (y_move (ev_t rfl))) rfl rfl rfl ?_
    refine TL.op (yq (y_assign (ev_t rfl))) rfl rfl rfl ?_
    refine TL.nil ?_
    refine TN.seq ?_
    refine TC.ret ?_
    subst hF
    exact TN.ret1 rfl (ev_t rfl) (fun w' hw => ⟨(v1_3, um0_1), rfl, hw⟩)

set_option maxRecDepth 4000 in
set_option maxHeartbeats 1000000 in
theorem spec_l5Opt_ok (w : World) (k : Int) (n : Int) (vreqs : Value) (reqs : List Int) (hreqs : RI w vreqs reqs) (hp0 : 1 ≤ n ∧ n ≤ 8) (hp1 : reqs.length ≤ 60) (hp2 : ∀ i, i < reqs.length → 0 ≤ reqs.getD i 0 ∧ reqs.getD i 0 < n) (hp3 : 0 ≤ k) :
    Calls Try.prog 52 ([(.int .i64 k), (.int .i64 n), vreqs] : List Value).toArray w (Ret (.int .i64 (F_spec_l5Opt k n reqs)) (Hp w [])) := by
  obtain ⟨rz, hF⟩ : ∃ rz, (F_spec_l5Opt k n reqs) = rz := ⟨_, rfl⟩
  rw [hF]
  unfold F_spec_l5Opt at hF
  have hfw := fewest_len k hp0 hp1 hp2 hp3
  have hfw1 := hfw.1
  have hfw2 := hfw.2
  have hlen_reqs := arg_len hreqs
  refine calls_tc Try.func52 rfl rfl rfl ?_
  change TC _ _ _ _ (Hp w []) [(0, (.int .i64 k)), (1, (.int .i64 n)), (2, vreqs)]
  refine TC.seq ?_
  refine TC.region ?_
  refine TL.op (yq (y_assign ev_c)) rfl rfl rfl ?_
  refine TL.nil ?_
  refine TN.seq ?_
  refine TC.seq ?_
  refine TC.region ?_
  refine TL.op (yq (y_move (ev_t rfl))) rfl rfl rfl ?_
  refine TL.op (yq (y_move (ev_t rfl))) rfl rfl rfl ?_
  refine TL.op (yq (y_move (ev_t rfl))) rfl rfl rfl ?_
  refine TL.callr (ι := Value × List Value) (vs := [(.int .i64 k), (.int .i64 n), vreqs]) (fun i => i.1) (fun i => [tabI 22 3 i.1 i.2 (F_spec_l5Fewest k n reqs)]) en_96 ⟨(ev_t rfl), (ev_t rfl), (ev_t rfl), trivial⟩ rfl (fun w hw => spec_l5Fewest_ok w k n vreqs reqs ((ri_arg hreqs) w hw) (by first | assumption | omega | grind) (by first | assumption | omega | grind) (by first | assumption | omega | grind)) (fun r1_3 => ?_)
  have hb3 : 0 < (F_spec_l5Fewest k n reqs).length := (by first | omega | (simp only [List.length_set, List.length_append, List.length_cons, List.length_nil, List.length_replicate]; omega) | (rw [sortI_length]; simp only [List.length_cons, List.length_nil]; omega))
  refine TL.op (yq (y_idx (k := 0) (ev_t rfl) ev_c (by first | omega | simp) slT_33 (fun w hw => ((rii_tab 0 rfl) w hw).1) hb3)) rfl rfl rfl ?_
  refine TL.op (yq (y_ldT 0 (ev_t rfl) one_22 rfl hb3)) rfl rfl rfl ?_
  have hb4 : 0 < ((F_spec_l5Fewest k n reqs).getD 0 []).length := (by first | omega | (simp only [List.length_set, List.length_append, List.length_cons, List.length_nil, List.length_replicate]; omega) | (rw [sortI_length]; simp only [List.length_cons, List.length_nil]; omega))
  refine TL.op (yq (y_idx (k := 0) (ev_t rfl) ev_c (by first | omega | simp) slT_22 (ri_tab 0 0 rfl hb3) hb4)) rfl rfl rfl ?_
  refine TL.op (yq (y_ldi (ev_t rfl) one_3 (ri_tab 0 0 rfl hb3) hb4)) rfl rfl rfl ?_
  refine TL.op (yq (y_assign (ev_t rfl))) rfl rfl rfl ?_
  refine TL.nil ?_
  refine TN.seq ?_
  refine TC.ret ?_
  subst hF
  exact TN.ret1 rfl (ev_t rfl) (fun w' hw => ⟨rfl, Hp.sublist hw (List.nil_sublist _)⟩)

set_option maxRecDepth 4000 in
set_option maxHeartbeats 1000000 in
theorem spec_FewestFaults_ok (w : World) (k : Int) (n : Int) (vreqs : Value) (reqs : List Int) (hreqs : RI w vreqs reqs)  :
    Calls Try.prog 21 ([(.int .i64 k), (.int .i64 n), vreqs] : List Value).toArray w (Ret (.tuple #[(.int .i64 ((F_spec_FewestFaults k n reqs).1)), (.bool ((F_spec_FewestFaults k n reqs).2))]) (Hp w [])) := by
  obtain ⟨rz, hF⟩ : ∃ rz, (F_spec_FewestFaults k n reqs) = rz := ⟨_, rfl⟩
  rw [hF]
  unfold F_spec_FewestFaults at hF
  have hlen_reqs := arg_len hreqs
  refine calls_tc Try.func21 rfl rfl rfl ?_
  change TC _ _ _ _ (Hp w []) [(0, (.int .i64 k)), (1, (.int .i64 n)), (2, vreqs)]
  refine TC.seq ?_
  refine TC.region ?_
  refine TL.op (yq (y_assign ev_c)) rfl rfl rfl ?_
  refine TL.op (yq (y_assign ev_c)) rfl rfl rfl ?_
  refine TL.nil ?_
  refine TN.seq ?_
  refine TC.seq ?_
  refine TC.seq ?_
  refine TC.region ?_
  refine TL.op (yq (y_move (ev_t rfl))) rfl rfl rfl ?_
  refine TL.op (yq (y_move (ev_t rfl))) rfl rfl rfl ?_
  refine TL.op (yq (y_move (ev_t rfl))) rfl rfl rfl ?_
  refine TL.op (y_call (vs := [(.int .i64 k), (.int .i64 n), vreqs]) (v := (.bool (F_spec_l5Takes k n reqs))) en_44 ⟨(ev_t rfl), (ev_t rfl), (ev_t rfl), trivial⟩ (fun w hw => spec_l5Takes_ok w k n vreqs reqs ((ri_arg hreqs) w hw))) rfl rfl rfl ?_
  refine TL.op (yq (y_not (ev_t rfl))) rfl rfl rfl ?_
  refine TL.nil ?_
  refine TN.seq ?_
  refine TC.cond (b := !(F_spec_l5Takes k n reqs)) (ev_t rfl) (fun h3 => ?_) (fun h3 => ?_)
  · rw [bif_pos h3] at hF
    have q4 := (not_t h3)
    refine TC.seq ?_
    refine TC.region ?_
    refine TL.op (yq (y_assign ev_c)) rfl rfl rfl ?_
    refine TL.op (yq (y_assign ev_c)) rfl rfl rfl ?_
    refine TL.nil ?_
    refine TN.seq ?_
    refine TC.ret ?_
    refine TN.thenR ?_
    subst hF
    exact TN.ret2 rfl (ev_t rfl) (ev_t rfl) (fun w' hw => ⟨rfl, hw⟩)
  · rw [bif_neg h3] at hF
    have q4 := (l5Takes_t (not_f h3))
    have hq := q4
    have hq1 := hq.2.2.2
    refine TC.skip ?_
    refine TN.seq ?_
    refine TC.seq ?_
    refine TC.region ?_
    refine TL.op (yq (y_move (ev_t rfl))) rfl rfl rfl ?_
    refine TL.op (yq (y_move (ev_t rfl))) rfl rfl rfl ?_
    refine TL.op (yq (y_move (ev_t rfl))) rfl rfl rfl ?_
    refine TL.op (y_call (vs := [(.int .i64 k), (.int .i64 n), vreqs]) (v := (.int .i64 (F_spec_l5Opt k n reqs))) en_52 ⟨(ev_t rfl), (ev_t rfl), (ev_t rfl), trivial⟩ (fun w hw => spec_l5Opt_ok w k n vreqs reqs ((ri_arg hreqs) w hw) (by first | assumption | omega | grind) (by first | assumption | omega | grind) (by first | assumption | omega | grind) (by first | assumption | omega | grind))) rfl rfl rfl ?_
    refine TL.op (yq (y_assign (ev_t rfl))) rfl rfl rfl ?_
    refine TL.op (yq (y_assign ev_c)) rfl rfl rfl ?_
    refine TL.nil ?_
    refine TN.seq ?_
    refine TC.ret ?_
    subst hF
    exact TN.ret2 rfl (ev_t rfl) (ev_t rfl) (fun w' hw => ⟨rfl, hw⟩)

set_option maxRecDepth 4000 in
set_option maxHeartbeats 1000000 in
theorem spec_OptimalCurve_ok (w : World) (n : Int) (vreqs : Value) (reqs : List Int) (hreqs : RI w vreqs reqs)  :
    Calls Try.prog 28 ([(.int .i64 n), vreqs] : List Value).toArray w (fun e w' => ∃ i : Value, e = .returned (.tuple #[i, (.bool ((F_spec_OptimalCurve n reqs).2))]) ∧ Hp w [rowI 3 i ((F_spec_OptimalCurve n reqs).1)] w') := by
  obtain ⟨rz, hF⟩ : ∃ rz, (F_spec_OptimalCurve n reqs) = rz := ⟨_, rfl⟩
  rw [hF]
  unfold F_spec_OptimalCurve at hF
  have hlen_reqs := arg_len hreqs
  refine calls_tc Try.func28 rfl rfl rfl ?_
  change TC _ _ _ _ (Hp w []) [(0, (.int .i64 n)), (1, vreqs)]
  refine TC.seq ?_
  refine TC.region ?_
  refine TL.op (yq (y_assign ev_c)) rfl rfl rfl ?_
  refine TL.op (yq (y_assign ev_c)) rfl rfl rfl ?_
  refine TL.nil ?_
  refine TN.seq ?_
  refine TC.seq ?_
  refine TC.region ?_
  refine TL.buildI (zs := []) (qs := []) slT_22 rfl trivial rfl (by decide) rfl (fun v1_0 => ?_)
  refine TL.op (yq (y_assign (ev_t rfl))) rfl rfl rfl ?_
  refine TL.nil ?_
  refine TN.seq ?_
  refine TC.seq ?_
  refine TC.seq ?_
  refine TC.region ?_
  refine TL.op (yq (y_move (ev_t rfl))) rfl rfl rfl ?_
  refine TL.op (yq (y_move (ev_t rfl))) rfl rfl rfl ?_
  refine TL.op (y_call (vs := [(.int .i64 n), vreqs]) (v := (.bool (F_spec_l3Good n reqs))) en_54 ⟨(ev_t rfl), (ev_t rfl), trivial⟩ (fun w hw => spec_l3Good_ok w n vreqs reqs ((ri_arg hreqs) w hw))) rfl rfl rfl ?_
  refine TL.op (yq (y_not (ev_t rfl))) rfl rfl rfl ?_
  refine TL.nil ?_
  refine TN.seq ?_
  refine TC.cond (b := !(F_spec_l3Good n reqs)) (ev_t rfl) (fun h7 => ?_) (fun h7 => ?_)
  · rw [bif_pos h7] at hF
    have q8 := (not_t h7)
    refine TC.seq ?_
    refine TC.region ?_
    refine TL.op (yq (y_move (ev_t rfl))) rfl rfl rfl ?_
    refine TL.op (yq (y_assign (ev_t rfl))) rfl rfl rfl ?_
    refine TL.op (yq (y_assign ev_c)) rfl rfl rfl ?_
    refine TL.nil ?_
    refine TN.seq ?_
    refine TC.ret ?_
    refine TN.thenR ?_
    subst hF
    exact TN.ret2 rfl (ev_t rfl) (ev_t rfl) (fun w' hw => ⟨v1_0, rfl, hw⟩)
  · rw [bif_neg h7] at hF
    have q8 := (l3Good_t (not_f h7))
    have hq := q8
    have hq1 := hq.2.2
    refine TC.skip ?_
    refine TN.seq ?_
    refine TC.seq ?_
    refine TC.seq ?_
    refine TC.region ?_
    refine TL.op (yq (y_assign ev_c)) rfl rfl rfl ?_
    refine TL.nil ?_
    refine TN.seq ?_
    refine TC.block ?_
    obtain ⟨c9, hc10⟩ : ∃ c, F_spec_OptimalCurve_L1 n reqs ((7 - 1) + 1) (([] : List Int), 1) = c := ⟨_, rfl⟩
    rw [hc10] at hF
    refine TC.loop (ι := Nat × List Int × Nat × Value) (fun (fu1, out1, k1, vout1) => [(0, (.int .i64 n)), (1, vreqs), (6, vout1), (7, (.int .i64 (k1 : Int)))]) (fun (fu1, out1, k1, vout1) => Hp w [rowI 3 vout1 out1]) (fun (fu1, out1, k1, vout1) => (1 ≤ k1) ∧ (k1 ≤ 7) ∧ (out1.length ≤ k1) ∧ 7 - k1 < fu1 ∧ F_spec_OptimalCurve_L1 n reqs fu1 (out1, k1) = c9) (fun (fu1, out1, k1, vout1) => fu1) ((7 - 1) + 1, ([] : List Int), 1, v1_0) ⟨(by first | omega | (simp [-List.getD_eq_getElem?_getD] <;> omega)), (by first | omega | (simp [-List.getD_eq_getElem?_getD] <;> omega)), (by first | omega | (simp [-List.getD_eq_getElem?_getD] <;> omega)), (by omega), hc10⟩ ⟨rfl, rfl, rfl, rfl, trivial⟩ (fun w hw => hw) ?_
    rintro ⟨fu1, out1, k1, vout1⟩ hJ1
    obtain ⟨hi1_0, hi1_1, hi1_2, hmu1, hL1⟩ : (1 ≤ k1) ∧ (k1 ≤ 7) ∧ (out1.length ≤ k1) ∧ 7 - k1 < fu1 ∧ F_spec_OptimalCurve_L1 n reqs fu1 (out1, k1) = c9 := hJ1
    change TC _ _ _ _ (Hp w [rowI 3 vout1 out1]) [(0, (.int .i64 n)), (1, vreqs), (6, vout1), (7, (.int .i64 (k1 : Int)))]
    obtain ⟨mf1, rfl⟩ : ∃ m, fu1 = m + 1 := ⟨fu1 - 1, by omega⟩
    rw [F_spec_OptimalCurve_L1_s] at hL1
    refine TC.seq ?_
    refine TC.seq ?_
    refine TC.region ?_
    refine TL.op (yq (y_move (ev_t rfl))) rfl rfl rfl ?_
    refine TL.op (yq (y_leq (ev_t rfl) ev_c)) rfl rfl rfl ?_
    refine TL.nil ?_
    refine TN.seq ?_
    refine TC.cond (b := decide ((k1 : Int) ≤ 6)) (ev_t rfl) (fun h11 => ?_) (fun h11 => ?_)
    · rw [bif_pos h11] at hL1
      have q12 := (of_decide_eq_true h11)
      refine TC.skip ?_
      refine TN.seq ?_
      refine TC.seq ?_
      refine TC.block ?_
      refine TC.region ?_
      refine TL.op (yq (y_move (ev_t rfl))) rfl rfl rfl ?_
      refine TL.op (yq (y_move (ev_t rfl))) rfl rfl rfl ?_
      refine TL.op (yq (y_move (ev_t rfl))) rfl rfl rfl ?_
      refine TL.op (yq (y_move (ev_t rfl))) rfl rfl rfl ?_
      refine TL.op (y_call (vs := [(.int .i64 (k1 : Int)), (.int .i64 n), vreqs]) (v := (.int .i64 (F_spec_l5Opt (k1 : Int) n reqs))) en_52 ⟨(ev_t rfl), (ev_t rfl), (ev_t rfl), trivial⟩ (fun w hw => spec_l5Opt_ok w (k1 : Int) n vreqs reqs ((ri_arg hreqs) w hw) (by first | assumption | omega | grind) (by first | assumption | omega | grind) (by first | assumption | omega | grind) (by first | assumption | omega | grind))) rfl rfl rfl ?_
      refine TL.buildI (zs := [.tmp 22]) (qs := [(F_spec_l5Opt (k1 : Int) n reqs)]) slT_22 rfl ⟨(ev_t rfl), trivial⟩ rfl (by decide) rfl (fun v7_5 => ?_)
      refine TL.appendI 1 (ev_t rfl) (ev_t rfl) rfl slT_22 (ri_row 0 rfl) (by first | omega | (simp [-List.getD_eq_getElem?_getD] <;> omega)) rfl (fun v7_6 => ?_)
      refine TL.op (yq (y_assign (ev_t rfl))) rfl rfl rfl ?_
      refine TL.nil ?_
      refine TN.blockN ?_
      refine TN.seq ?_
      refine TC.region ?_
      refine TL.op (yq (y_move (ev_t rfl))) rfl rfl rfl ?_
      refine TL.op (yq (y_add (ev_t rfl) ev_c (by unfold In64; omega))) rfl rfl rfl ?_
      refine TL.op (yq (y_assign (ev_t rfl))) rfl rfl rfl ?_
      refine TL.nil ?_
      exact TN.hand (mf1, (out1 ++ ([(F_spec_l5Opt (k1 : Int) n reqs)])), (k1 + 1), v7_6) ⟨(by first | omega | (simp [-List.getD_eq_getElem?_getD] <;> omega)), (by first | omega | (simp [-List.getD_eq_getElem?_getD] <;> omega)), (by first | omega | (simp [-List.getD_eq_getElem?_getD] <;> omega)), (by omega), hL1⟩ (Nat.lt_succ_self _) ⟨rfl, rfl, rfl, rfl, trivial⟩ (fun w hw => Hp.sublist hw (.cons _ (.cons_cons _ .slnil)))
    · rw [bif_neg h11] at hL1
      have q12 := (of_decide_eq_false h11)
      refine TC.exit ?_
      refine TN.thenE ?_
      refine TN.thenE ?_
      rw [← hL1, elim_next] at hF
      try dsimp only at hF
      refine TN.blockH ?_
      refine TN.seq ?_
      refine TC.seq ?_
      refine TC.region ?_
      refine TL.op (yq (y_move (ev_t rfl))) rfl rfl rfl ?_
      refine TL.op (yq (y_assign (ev_t rfl))) rfl rfl rfl ?_
      refine TL.op (yq (y_assign ev_c)) rfl rfl rfl ?_
      refine TL.nil ?_
      refine TN.seq ?_
      refine TC.ret ?_
      subst hF
      exact TN.ret2 rfl (ev_t rfl) (ev_t rfl) (fun w' hw => ⟨vout1, rfl, hw⟩)


end Go.Proofs.Ytlhmmhlfledleaa
