/-
  Walks of functions of the program: each computes its plain function. No condition but the bounds that are typed.
-/
import Derived.Test.YtcfjjnajeccbhaaFnJ
import Derived.Test.YtcfjjnajeccbhaaLawSort
import Derived.Test.YtcfjjnajeccbhaaLib
import Derived.Test.YtcfjjnajeccbhaaDefK
namespace Go.Proofs.Ytcfjjnajeccbhaa
open Go Go.RowKit

set_option maxRecDepth 4000 in
set_option maxHeartbeats 1000000 in
theorem impl_rising_ok (w : World) (vl : Value) (l : List Int) (hl : RI w vl l) (hp0 : l.length ≤ 100000) :
    Calls Try.prog 116 ([vl] : List Value).toArray w (fun e w' => ∃ i : Value, e = .returned i ∧ Hp w [rowI 3 i (F_impl_rising l)] w') := by
  obtain ⟨rz, hF⟩ : ∃ rz, (F_impl_rising l) = rz := ⟨_, rfl⟩
  rw [hF]
  unfold F_impl_rising at hF
  have hlen_l := arg_len hl
  refine calls_tc Try.func116 rfl rfl rfl ?_
  change TC _ _ _ _ (Hp w []) [(0, vl)]
  refine TC.seq ?_
  refine TC.region ?_
  refine TL.op (yq (y_assign ev_c)) rfl rfl rfl ?_
  refine TL.nil ?_
  refine TN.seq ?_
  refine TC.seq ?_
  refine TC.region ?_
  refine TL.op (yq (y_move (ev_t rfl))) rfl rfl rfl ?_
  refine TL.callr (ι := Value) (vs := [vl]) (fun i => i) (fun i => [rowI 3 i l]) en_74 ⟨(ev_t rfl), trivial⟩ rfl (fun w hw => slices_Clone_Sint_int_ok w vl l ((ri_arg hl) w hw) (by first | assumption | omega | grind)) (fun r1_1 => ?_)
  refine TL.op (yq (y_assign (ev_t rfl))) rfl rfl rfl ?_
  refine TL.nil ?_
  refine TN.seq ?_
  refine TC.seq ?_
  refine TC.region ?_
  refine TL.op (yq (y_move (ev_t rfl))) rfl rfl rfl ?_
  refine TL.callm (ι := Unit) 0 (vs := [r1_1]) (fun _ => (.tuple #[])) (fun _ => rowI 3 r1_1 (sortI l)) en_92 ⟨(ev_t rfl), trivial⟩ rfl rfl (fun w1 fr1 hw => slices_Sort_ok w w1 fr1 r1_1 l hw (by first | assumption | omega | grind)) (fun _ => ?_)
  refine TL.nil ?_
  refine TN.seq ?_
  refine TC.seq ?_
  refine TC.region ?_
  refine TL.op (yq (y_move (ev_t rfl))) rfl rfl rfl ?_
  refine TL.callm (ι := Value) 0 (vs := [r1_1]) (fun i => i) (fun i => rowI 3 i (Lib.compact (sortI l))) en_135 ⟨(ev_t rfl), trivial⟩ rfl rfl (fun w1 fr1 hw => slices_Compact_ok w w1 fr1 r1_1 (sortI l) hw) (fun r3_1 => ?_)
  refine TL.op (yq (y_assign (ev_t rfl))) rfl rfl rfl ?_
  refine TL.nil ?_
  refine TN.seq ?_
  refine TC.ret ?_
  subst hF
  exact TN.ret1 rfl (ev_t rfl) (fun w' hw => ⟨r3_1, rfl, hw⟩)

set_option maxRecDepth 4000 in
set_option maxHeartbeats 1000000 in
theorem impl_isOrder_ok (w : World) (n : Int) (vl : Value) (l : List Int) (hl : RI w vl l) (hp0 : 0 ≤ n) (hp1 : n ≤ 100000) :
    Calls Try.prog 94 ([(.int .i64 n), vl] : List Value).toArray w (Ret (.bool (F_impl_isOrder n l)) (Hp w [])) := by
  obtain ⟨rz, hF⟩ : ∃ rz, (F_impl_isOrder n l) = rz := ⟨_, rfl⟩
  rw [hF]
  unfold F_impl_isOrder at hF
  have hlen_l := arg_len hl
  refine calls_tc Try.func94 rfl rfl rfl ?_
  change TC _ _ _ _ (Hp w []) [(0, (.int .i64 n)), (1, vl)]
  refine TC.seq ?_
  refine TC.region ?_
  refine TL.op (yq (y_assign ev_c)) rfl rfl rfl ?_
  refine TL.nil ?_
  refine TN.seq ?_
  refine TC.seq ?_
  refine TC.region ?_
  refine TL.op (yq (y_move (ev_t rfl))) rfl rfl rfl ?_
  refine TL.op (yq (y_len (ev_t rfl) Try.underlying25 (fun w hw => ((ri_arg hl) w hw).ln))) rfl rfl rfl ?_
  refine TL.op (yq (y_move (ev_t rfl))) rfl rfl rfl ?_
  refine TL.op (yq (y_eql (ev_t rfl) (ev_t rfl))) rfl rfl rfl ?_
  refine TL.op (yq (y_move (ev_t rfl))) rfl rfl rfl ?_
  refine TL.opw (w_t rfl rfl rfl) (fun hg => yq (y_move (ev_t rfl))) rfl rfl ?_
  refine TL.opw (w_t rfl rfl rfl) (fun hg => yq (y_move (ev_t rfl))) rfl rfl ?_
  refine TL.opw (w_t rfl rfl rfl) (fun hg => y_call (vs := [(.int .i64 n), vl]) (v := (.bool (F_impl_areBelow n l))) en_102 ⟨(ev_g rfl hg), (ev_g rfl hg), trivial⟩ (fun w hw => impl_areBelow_ok w n vl l ((ri_arg hl) w hw) (by have hgf := (of_decide_eq_true hg); first | assumption | omega | (have hq := hgf.n6; omega) | (have hq := hgf.1.n6; omega) | grind) (by have hgf := (of_decide_eq_true hg); first | assumption | omega | (have hq := hgf.n6; omega) | (have hq := hgf.1.n6; omega) | grind))) rfl rfl ?_
  refine TL.op (yq (y_and (ev_t rfl) (fun hq => (ev_g rfl hq)))) rfl rfl rfl ?_
  refine TL.op (yq (y_move (ev_t rfl))) rfl rfl rfl ?_
  refine TL.split 14 (b := ((decide ((l.length : Int) = n)) && (F_impl_areBelow n l))) rfl (fun h3 => ?_) (fun h3 => ?_)
  · rw [bif_pos h3] at hF
    have q4 := (and_imp (and_t h3) (fun h => (of_decide_eq_true h)) (fun h => (areBelow_t h)))
    refine TL.opw (w_t rfl rfl rfl) (fun _ => yq (y_move (ev_t rfl))) rfl rfl ?_
    refine TL.ung (w_t rfl rfl rfl) ?_
    refine TL.callr (ι := Value) (vs := [vl]) (fun i => i) (fun i => [rowI 3 i (F_impl_rising l)]) en_116 ⟨(ev_t rfl), trivial⟩ rfl (fun w hw => impl_rising_ok w vl l ((ri_arg hl) w hw) (by first | assumption | omega | grind)) (fun r1_11 => ?_)
    refine TL.opw (w_t rfl rfl rfl) (fun _ => yq (y_len (ev_t rfl) Try.underlying25 (fun w hw => ((ri_row 0 rfl) w hw).ln))) rfl rfl ?_
    refine TL.opw (w_t rfl rfl rfl) (fun _ => yq (y_move (ev_t rfl))) rfl rfl ?_
    refine TL.opw (w_t rfl rfl rfl) (fun _ => yq (y_eql (ev_t rfl) (ev_t rfl))) rfl rfl ?_
    refine TL.op (yq (y_pickT (ev_t rfl) (ev_t rfl))) rfl rfl rfl ?_
    refine TL.op (yq (y_assign (ev_t rfl))) rfl rfl rfl ?_
    refine TL.nil ?_
    refine TN.seq ?_
    refine TC.ret ?_
    subst hF
    exact TN.ret1 rfl (ev_t rfl) (fun w' hw => ⟨rfl, Hp.sublist hw (List.nil_sublist _)⟩)
  · rw [bif_neg h3] at hF
    have q4 := ((and_f h3).imp (fun h => (of_decide_eq_false h)) (fun h => h))
    refine TL.opw (v := undef) (w_t rfl rfl rfl) (fun hg => by cases hg) rfl rfl ?_
    refine TL.opw (v := undef) (w_t rfl rfl rfl) (fun hg => by cases hg) rfl rfl ?_
    refine TL.opw (v := undef) (w_t rfl rfl rfl) (fun hg => by cases hg) rfl rfl ?_
    refine TL.opw (v := undef) (w_t rfl rfl rfl) (fun hg => by cases hg) rfl rfl ?_
    refine TL.opw (v := undef) (w_t rfl rfl rfl) (fun hg => by cases hg) rfl rfl ?_
    refine TL.op (yq (y_pickF (ev_t rfl) ev_c)) rfl rfl rfl ?_
    refine TL.op (yq (y_assign (ev_t rfl))) rfl rfl rfl ?_
    refine TL.nil ?_
    refine TN.seq ?_
    refine TC.ret ?_
    subst hF
    exact TN.ret1 rfl (ev_t rfl) (fun w' hw => ⟨rfl, hw⟩)

set_option maxRecDepth 4000 in
set_option maxHeartbeats 1000000 in
theorem impl_IsIsometry_ok (w : World) (vm : Value) (um : List Value) (m : List (List Int)) (hm : RII w vm um m) (vto : Value) (to : List Int) (hto : RI w vto to)  :
    Calls Try.prog 50 ([(.agg #[vm]), vto] : List Value).toArray w (Ret (.tuple #[(.bool ((F_impl_IsIsometry m to).1)), (.bool ((F_impl_IsIsometry m to).2))]) (Hp w [])) := by
  obtain ⟨rz, hF⟩ : ∃ rz, (F_impl_IsIsometry m to) = rz := ⟨_, rfl⟩
  rw [hF]
  unfold F_impl_IsIsometry at hF
  have hlen_m := argT_len hm
  have hlen_to := arg_len hto
  refine calls_tc Try.func50 rfl rfl rfl ?_
  change TC _ _ _ _ (Hp w []) [(0, (.agg #[vm])), (1, vto)]
  refine TC.seq ?_
  refine TC.region ?_
  refine TL.box (ev_t rfl) rfl (fun g0_0 => ?_)
  refine TL.op (yq (y_assign ev_c)) rfl rfl rfl ?_
  refine TL.op (yq (y_assign ev_c)) rfl rfl rfl ?_
  refine TL.nil ?_
  refine TN.seq ?_
  refine TC.seq ?_
  refine TC.seq ?_
  refine TC.region ?_
  refine TL.op (yq (y_ldagg (cs := [vm]) 0 (ev_t rfl) agg_29 rfl)) rfl rfl rfl ?_
  refine TL.op (y_call (vs := [(.agg #[vm])]) (v := (.bool (F_impl_IsMetric m))) en_55 ⟨(ev_t rfl), trivial⟩ (fun w hw => impl_IsMetric_ok w vm um m ((rii_arg hm) w hw))) rfl rfl rfl ?_
  refine TL.op (yq (y_not (ev_t rfl))) rfl rfl rfl ?_
  refine TL.op (yq (y_move (ev_t rfl))) rfl rfl rfl ?_
  refine TL.opw (w_f rfl rfl rfl) (fun hg => yq (y_fa (fa_29_0 g0_0) (ev_t rfl))) rfl rfl ?_
  refine TL.opw (w_f rfl rfl rfl) (fun hg => yq (y_ldb 0 (ev_g rfl hg) one_22 rfl rfl)) rfl rfl ?_
  refine TL.opw (w_f rfl rfl rfl) (fun hg => yq (y_len (ev_g rfl hg) Try.underlying22 (fun w hw => ((fun w hw => ((rii_arg hm) w hw).1) w hw).ln))) rfl rfl ?_
  refine TL.opw (w_f rfl rfl rfl) (fun hg => yq (y_move (ev_t rfl))) rfl rfl ?_
  refine TL.opw (w_f rfl rfl rfl) (fun hg => y_call (vs := [(.int .i64 (m.length : Int)), vto]) (v := (.bool (F_impl_isOrder (m.length : Int) to))) en_94 ⟨(ev_g rfl hg), (ev_g rfl hg), trivial⟩ (fun w hw => impl_isOrder_ok w (m.length : Int) vto to ((ri_arg hto) w hw) (by have hgf := (isMetric_t (not_f (not_t hg))); first | assumption | omega | (have hq := hgf.n6; omega) | (have hq := hgf.1.n6; omega) | grind) (by have hgf := (isMetric_t (not_f (not_t hg))); first | assumption | omega | (have hq := hgf.n6; omega) | (have hq := hgf.1.n6; omega) | grind))) rfl rfl ?_
  refine TL.opw (w_f rfl rfl rfl) (fun hg => yq (y_not (ev_g rfl hg))) rfl rfl ?_
  refine TL.op (yq (y_or (ev_t rfl) (fun hq => (ev_g rfl hq)))) rfl rfl rfl ?_
  refine TL.nil ?_
  refine TN.seq ?_
  refine TC.cond (b := ((!(F_impl_IsMetric m)) || (!(F_impl_isOrder (m.length : Int) to)))) (ev_t rfl) (fun h41 => ?_) (fun h41 => ?_)
  · rw [bif_pos h41] at hF
    have q42 := ((or_t h41).imp (fun h => (not_t h)) (fun h => (not_t h)))
    refine TC.seq ?_
    refine TC.region ?_
    refine TL.op (yq (y_assign ev_c)) rfl rfl rfl ?_
    refine TL.op (yq (y_assign ev_c)) rfl rfl rfl ?_
    refine TL.nil ?_
    refine TN.seq ?_
    refine TC.ret ?_
    refine TN.thenR ?_
    subst hF
    exact TN.ret2 rfl (ev_t rfl) (ev_t rfl) (fun w' hw => ⟨rfl, Hp.sublist hw (List.nil_sublist _)⟩)
  · rw [bif_neg h41] at hF
    have q42 := (and_imp (or_f h41) (fun h => (isMetric_t (not_f h))) (fun h => (isOrder_t (not_f h))))
    have hT := q42.1
    have hO := q42.2
    have hO1 := hO.1
    refine TC.skip ?_
    refine TN.seq ?_
    refine TC.seq ?_
    refine TC.seq ?_
    refine TC.region ?_
    refine TL.op (yq (y_fa (fa_29_0 g0_0) (ev_t rfl))) rfl rfl rfl ?_
    refine TL.op (yq (y_ldb 0 (ev_t rfl) one_22 rfl rfl)) rfl rfl rfl ?_
    refine TL.op (yq (y_len (ev_t rfl) Try.underlying22 (fun w hw => ((fun w hw => ((rii_arg hm) w hw).1) w hw).ln))) rfl rfl rfl ?_
    refine TL.op (yq (y_move ev_c)) rfl rfl rfl ?_
    refine TL.nil ?_
    refine TN.seq ?_
    refine TC.block ?_
    obtain ⟨c43, hc44⟩ : ∃ c, F_impl_IsIsometry_L1 m to ((m.length - 0) + 1) 0 = c := ⟨_, rfl⟩
    rw [hc44] at hF
    refine TC.loop (ι := Nat × Nat) (fun (fu1, k24_1) => [(1, vto), (2, (.pointer (some ⟨g0_0, 0, none⟩))), (22, vm), (23, (.int .i64 (m.length : Int))), (24, (.int .i64 (k24_1 : Int)))]) (fun (fu1, k24_1) => Hp w [.blk g0_0 29 [vm]]) (fun (fu1, k24_1) => (k24_1 ≤ m.length) ∧ m.length - k24_1 < fu1 ∧ F_impl_IsIsometry_L1 m to fu1 k24_1 = c43) (fun (fu1, k24_1) => fu1) ((m.length - 0) + 1, 0) ⟨(by first | omega | (simp [-List.getD_eq_getElem?_getD] <;> omega)), (by omega), hc44⟩ ⟨rfl, rfl, rfl, rfl, rfl, trivial⟩ (fun w hw => hw) ?_
    rintro ⟨fu1, k24_1⟩ hJ1
    obtain ⟨hi1_0, hmu1, hL1⟩ : (k24_1 ≤ m.length) ∧ m.length - k24_1 < fu1 ∧ F_impl_IsIsometry_L1 m to fu1 k24_1 = c43 := hJ1
    change TC _ _ _ _ (Hp w [.blk g0_0 29 [vm]]) [(1, vto), (2, (.pointer (some ⟨g0_0, 0, none⟩))), (22, vm), (23, (.int .i64 (m.length : Int))), (24, (.int .i64 (k24_1 : Int)))]
    obtain ⟨mf1, rfl⟩ : ∃ m, fu1 = m + 1 := ⟨fu1 - 1, by omega⟩
    rw [F_impl_IsIsometry_L1_s] at hL1
    have hrw := hT.rows k24_1
    have ho1 := hO.2 k24_1
    have hr2 := hT.rows (to.getD k24_1 0).toNat
    refine TC.seq ?_
    refine TC.region ?_
    refine TL.op (yq (y_lss (ev_t rfl) (ev_t rfl))) rfl rfl rfl ?_
    refine TL.nil ?_
    refine TN.seq ?_
    refine TC.seq ?_
    refine TC.cond (b := decide ((k24_1 : Int) < (m.length : Int))) (ev_t rfl) (fun h45 => ?_) (fun h45 => ?_)
    · rw [bif_pos h45] at hL1
      have q46 := (of_decide_eq_true h45)
      refine TC.skip ?_
      refine TN.seq ?_
      refine TC.seq ?_
      refine TC.block ?_
      refine TC.seq ?_
      refine TC.region ?_
      refine TL.op (yq (y_move (ev_t rfl))) rfl rfl rfl ?_
      have hb47 : k24_1 < m.length := (by first | omega | (simp only [List.length_set, List.length_append, List.length_cons, List.length_nil, List.length_replicate]; omega) | (rw [sortI_length]; simp only [List.length_cons, List.length_nil]; omega))
      refine TL.op (yq (y_idx (k := k24_1) (ev_t rfl) (ev_t rfl) (by first | omega | simp) slT_22 (fun w hw => ((rii_arg hm) w hw).1) hb47)) rfl rfl rfl ?_
      have ha48 := hm.row (i := k24_1) hb47
      refine TL.op (yq (y_ldA (ev_t rfl) one_25 (rii_arg hm) hb47)) rfl rfl rfl ?_
      refine TL.op (yq (y_assign (ev_t rfl))) rfl rfl rfl ?_
      refine TL.op (yq (y_assign (ev_t rfl))) rfl rfl rfl ?_
      refine TL.nil ?_
      refine TN.seq ?_
      refine TC.seq ?_
      refine TC.region ?_
      refine TL.op (yq (y_move (ev_t rfl))) rfl rfl rfl ?_
      refine TL.op (yq (y_len (ev_t rfl) Try.underlying25 (fun w hw => ((ri_arg ha48) w hw).ln))) rfl rfl rfl ?_
      refine TL.op (yq (y_move ev_c)) rfl rfl rfl ?_
      refine TL.nil ?_
      refine TN.seq ?_
      refine TC.block ?_
      obtain ⟨c49, hc50⟩ : ∃ c, F_impl_IsIsometry_L2 m to k24_1 ((((m.getD k24_1 []).length) - 0) + 1) 0 = c := ⟨_, rfl⟩
      rw [hc50] at hL1
      refine TC.loop (ι := Nat × Nat) (fun (fu2, k31_2) => [(1, vto), (2, (.pointer (some ⟨g0_0, 0, none⟩))), (6, (.int .i64 (k24_1 : Int))), (22, vm), (23, (.int .i64 (m.length : Int))), (24, (.int .i64 (k24_1 : Int))), (29, (um.getD k24_1 undef)), (30, (.int .i64 ((m.getD k24_1 []).length : Int))), (31, (.int .i64 (k31_2 : Int)))]) (fun (fu2, k31_2) => Hp w [.blk g0_0 29 [vm]]) (fun (fu2, k31_2) => (k31_2 ≤ ((m.getD k24_1 []).length)) ∧ ((m.getD k24_1 []).length) - k31_2 < fu2 ∧ F_impl_IsIsometry_L2 m to k24_1 fu2 k31_2 = c49) (fun (fu2, k31_2) => fu2) ((((m.getD k24_1 []).length) - 0) + 1, 0) ⟨(by first | omega | (simp [-List.getD_eq_getElem?_getD] <;> omega)), (by omega), hc50⟩ ⟨rfl, rfl, rfl, rfl, rfl, rfl, rfl, rfl, rfl, trivial⟩ (fun w hw => hw) ?_
      rintro ⟨fu2, k31_2⟩ hJ2
      obtain ⟨hi2_0, hmu2, hL2⟩ : (k31_2 ≤ ((m.getD k24_1 []).length)) ∧ ((m.getD k24_1 []).length) - k31_2 < fu2 ∧ F_impl_IsIsometry_L2 m to k24_1 fu2 k31_2 = c49 := hJ2
      change TC _ _ _ _ (Hp w [.blk g0_0 29 [vm]]) [(1, vto), (2, (.pointer (some ⟨g0_0, 0, none⟩))), (6, (.int .i64 (k24_1 : Int))), (22, vm), (23, (.int .i64 (m.length : Int))), (24, (.int .i64 (k24_1 : Int))), (29, (um.getD k24_1 undef)), (30, (.int .i64 ((m.getD k24_1 []).length : Int))), (31, (.int .i64 (k31_2 : Int)))]
      obtain ⟨mf2, rfl⟩ : ∃ m, fu2 = m + 1 := ⟨fu2 - 1, by omega⟩
      rw [F_impl_IsIsometry_L2_s] at hL2
      have ho2 := hO.2 k31_2
      refine TC.seq ?_
      refine TC.region ?_
      refine TL.op (yq (y_lss (ev_t rfl) (ev_t rfl))) rfl rfl rfl ?_
      refine TL.nil ?_
      refine TN.seq ?_
      refine TC.seq ?_
      refine TC.cond (b := decide ((k31_2 : Int) < ((m.getD k24_1 []).length : Int))) (ev_t rfl) (fun h51 => ?_) (fun h51 => ?_)
      · rw [bif_pos h51] at hL2
        have q52 := (of_decide_eq_true h51)
        refine TC.skip ?_
        refine TN.seq ?_
        refine TC.seq ?_
        refine TC.block ?_
        refine TC.seq ?_
        refine TC.region ?_
        refine TL.op (yq (y_move (ev_t rfl))) rfl rfl rfl ?_
        have hb53 : k31_2 < (m.getD k24_1 []).length := (by first | omega | (simp only [List.length_set, List.length_append, List.length_cons, List.length_nil, List.length_replicate]; omega) | (rw [sortI_length]; simp only [List.length_cons, List.length_nil]; omega))
        refine TL.op (yq (y_idx (k := k31_2) (ev_t rfl) (ev_t rfl) (by first | omega | simp) slT_25 (ri_arg ha48) hb53)) rfl rfl rfl ?_
        refine TL.op (yq (y_ldi (ev_t rfl) one_3 (ri_arg ha48) hb53)) rfl rfl rfl ?_
        refine TL.op (yq (y_assign (ev_t rfl))) rfl rfl rfl ?_
        refine TL.op (yq (y_assign (ev_t rfl))) rfl rfl rfl ?_
        refine TL.nil ?_
        refine TN.seq ?_
        refine TC.seq ?_
        refine TC.regionQ (by kernel_rfl) (by kernel_rfl) dr_hp ?_
        refine TQ.op (yq (y_fa (fa_29_0 g0_0) (ev_t rfl))) rfl rfl rfl ?_
        refine TQ.op (yq (y_ldb 0 (ev_t rfl) one_22 rfl rfl)) rfl rfl rfl ?_
        refine TQ.op (yq (y_move (ev_t rfl))) rfl rfl rfl ?_
        refine TQ.op (yq (y_move (ev_t rfl))) rfl rfl rfl ?_
        have hb54 : k24_1 < to.length := (by first | omega | (simp only [List.length_set, List.length_append, List.length_cons, List.length_nil, List.length_replicate]; omega) | (rw [sortI_length]; simp only [List.length_cons, List.length_nil]; omega))
        refine TQ.op (yq (y_idx (k := k24_1) (ev_t rfl) (ev_t rfl) (by first | omega | simp) slT_25 (ri_arg hto) hb54)) rfl rfl rfl ?_
        refine TQ.op (yq (y_ldi (ev_t rfl) one_3 (ri_arg hto) hb54)) rfl rfl rfl ?_
        have hb55 : ((to.getD k24_1 0)).toNat < m.length := (by first | omega | (simp only [List.length_set, List.length_append, List.length_cons, List.length_nil, List.length_replicate]; omega) | (rw [sortI_length]; simp only [List.length_cons, List.length_nil]; omega))
        refine TQ.op (yq (y_idx (k := ((to.getD k24_1 0)).toNat) (ev_t rfl) (ev_t rfl) (by first | omega | simp) slT_22 (fun w hw => ((rii_arg hm) w hw).1) hb55)) rfl rfl rfl ?_
        have ha56 := hm.row (i := ((to.getD k24_1 0)).toNat) hb55
        refine TQ.op (yq (y_ldA (ev_t rfl) one_25 (rii_arg hm) hb55)) rfl rfl rfl ?_
        refine TQ.op (yq (y_move (ev_t rfl))) rfl rfl rfl ?_
        refine TQ.op (yq (y_move (ev_t rfl))) rfl rfl rfl ?_
        have hb57 : k31_2 < to.length := (by first | omega | (simp only [List.length_set, List.length_append, List.length_cons, List.length_nil, List.length_replicate]; omega) | (rw [sortI_length]; simp only [List.length_cons, List.length_nil]; omega))
        refine TQ.op (yq (y_idx (k := k31_2) (ev_t rfl) (ev_t rfl) (by first | omega | simp) slT_25 (ri_arg hto) hb57)) rfl rfl rfl ?_
        refine TQ.op (yq (y_ldi (ev_t rfl) one_3 (ri_arg hto) hb57)) rfl rfl rfl ?_
        have hb58 : ((to.getD k31_2 0)).toNat < (m.getD (((to.getD k24_1 0)).toNat) []).length := (by first | omega | (simp only [List.length_set, List.length_append, List.length_cons, List.length_nil, List.length_replicate]; omega) | (rw [sortI_length]; simp only [List.length_cons, List.length_nil]; omega))
        refine TQ.op (yq (y_idx (k := ((to.getD k31_2 0)).toNat) (ev_t rfl) (ev_t rfl) (by first | omega | simp) slT_25 (ri_arg ha56) hb58)) rfl rfl rfl ?_
        refine TQ.op (yq (y_ldi (ev_t rfl) one_3 (ri_arg ha56) hb58)) rfl rfl rfl ?_
        refine TQ.op (yq (y_move (ev_t rfl))) rfl rfl rfl ?_
        refine TQ.op (yq (y_neq (ev_t rfl) (ev_t rfl))) rfl rfl rfl ?_
        refine TQ.nil ?_
        refine TN.seq ?_
        refine TC.cond (b := !decide (((m.getD (((to.getD k24_1 0)).toNat) []).getD (((to.getD k31_2 0)).toNat) 0) = ((m.getD k24_1 []).getD k31_2 0))) (ev_t rfl) (fun h59 => ?_) (fun h59 => ?_)
        · rw [bif_pos h59] at hL2
          have q60 := (of_decide_eq_false (not_t h59))
          refine TC.seq ?_
          refine TC.region ?_
          refine TL.op (yq (y_assign ev_c)) rfl rfl rfl ?_
          refine TL.op (yq (y_assign ev_c)) rfl rfl rfl ?_
          refine TL.nil ?_
          refine TN.seq ?_
          refine TC.ret ?_
          refine TN.blockR ?_
          refine TN.thenR ?_
          refine TN.thenR ?_
          rw [← hL2, elim_ret] at hL1
          refine TN.blockR ?_
          refine TN.blockR ?_
          refine TN.thenR ?_
          refine TN.thenR ?_
          rw [← hL1, elim_ret] at hF
          refine TN.blockR ?_
          refine TN.thenR ?_
          subst hF
          exact TN.ret2 rfl (ev_t rfl) (ev_t rfl) (fun w' hw => ⟨rfl, Hp.sublist hw (List.nil_sublist _)⟩)
        · rw [bif_neg h59] at hL2
          have q60 := (of_decide_eq_true (not_f h59))
          refine TC.skip ?_
          refine TN.blockN ?_
          refine TN.seq ?_
          refine TC.region ?_
          refine TL.op (yq (y_add (ev_t rfl) ev_c (by unfold In64; omega))) rfl rfl rfl ?_
          refine TL.op (yq (y_move (ev_t rfl))) rfl rfl rfl ?_
          refine TL.nil ?_
          exact TN.hand (mf2, (k31_2 + 1)) ⟨(by first | omega | (simp [-List.getD_eq_getElem?_getD] <;> omega)), (by omega), hL2⟩ (Nat.lt_succ_self _) ⟨rfl, rfl, rfl, rfl, rfl, rfl, rfl, rfl, rfl, trivial⟩ (fun w hw => hw)
      · rw [bif_neg h51] at hL2
        have q52 := (of_decide_eq_false h51)
        refine TC.exit ?_
        refine TN.thenE ?_
        refine TN.thenE ?_
        rw [← hL2, elim_next] at hL1
        try dsimp only at hL1
        refine TN.blockH ?_
        refine TN.blockN ?_
        refine TN.seq ?_
        refine TC.region ?_
        refine TL.op (yq (y_add (ev_t rfl) ev_c (by unfold In64; omega))) rfl rfl rfl ?_
        refine TL.op (yq (y_move (ev_t rfl))) rfl rfl rfl ?_
        refine TL.nil ?_
        exact TN.hand (mf1, (k24_1 + 1)) ⟨(by first | omega | (simp [-List.getD_eq_getElem?_getD] <;> omega)), (by omega), hL1⟩ (Nat.lt_succ_self _) ⟨rfl, rfl, rfl, rfl, rfl, trivial⟩ (fun w hw => hw)
    · rw [bif_neg h45] at hL1
      have q46 := (of_decide_eq_false h45)
      refine TC.exit ?_
      refine TN.thenE ?_
      refine TN.thenE ?_
      rw [← hL1, elim_next] at hF
      try dsimp only at hF
      refine TN.blockH ?_
      refine TN.seq ?_
      refine TC.seq ?_
      refine TC.region ?_
      refine TL.op (yq (y_assign ev_c)) rfl rfl rfl ?_
      refine TL.op (yq (y_assign ev_c)) rfl rfl rfl ?_
      refine TL.nil ?_
      refine TN.seq ?_
      refine TC.ret ?_
      subst hF
      exact TN.ret2 rfl (ev_t rfl) (ev_t rfl) (fun w' hw => ⟨rfl, Hp.sublist hw (List.nil_sublist _)⟩)

set_option maxRecDepth 4000 in
set_option maxHeartbeats 1000000 in
theorem spec_l6Perm_ok (w : World) (n : Int) (vto : Value) (to : List Int) (hto : RI w vto to)  :
    Calls Try.prog 93 ([(.int .i64 n), vto] : List Value).toArray w (Ret (.bool (F_spec_l6Perm n to)) (Hp w [])) := by
  obtain ⟨rz, hF⟩ : ∃ rz, (F_spec_l6Perm n to) = rz := ⟨_, rfl⟩
  rw [hF]
  unfold F_spec_l6Perm at hF
  have hlen_to := arg_len hto
  refine calls_tc Try.func93 rfl rfl rfl ?_
  change TC _ _ _ _ (Hp w []) [(0, (.int .i64 n)), (1, vto)]
  refine TC.seq ?_
  refine TC.region ?_
  refine TL.op (yq (y_assign ev_c)) rfl rfl rfl ?_
  refine TL.nil ?_
  refine TN.seq ?_
  refine TC.seq ?_
  refine TC.seq ?_
  refine TC.region ?_
  refine TL.op (yq (y_move (ev_t rfl))) rfl rfl rfl ?_
  refine TL.op (yq (y_len (ev_t rfl) Try.underlying25 (fun w hw => ((ri_arg hto) w hw).ln))) rfl rfl rfl ?_
  refine TL.op (yq (y_move (ev_t rfl))) rfl rfl rfl ?_
  refine TL.op (yq (y_neq (ev_t rfl) (ev_t rfl))) rfl rfl rfl ?_
  refine TL.nil ?_
  refine TN.seq ?_
  refine TC.cond (b := !decide ((to.length : Int) = n)) (ev_t rfl) (fun h11 => ?_) (fun h11 => ?_)
  · rw [bif_pos h11] at hF
    have q12 := (of_decide_eq_false (not_t h11))
    refine TC.seq ?_
    refine TC.region ?_
    refine TL.op (yq (y_assign ev_c)) rfl rfl rfl ?_
    refine TL.nil ?_
    refine TN.seq ?_
    refine TC.ret ?_
    refine TN.thenR ?_
    subst hF
    exact TN.ret1 rfl (ev_t rfl) (fun w' hw => ⟨rfl, hw⟩)
  · rw [bif_neg h11] at hF
    have q12 := (of_decide_eq_true (not_f h11))
    refine TC.skip ?_
    refine TN.seq ?_
    refine TC.seq ?_
    refine TC.seq ?_
    refine TC.region ?_
    refine TL.op (yq (y_assign ev_c)) rfl rfl rfl ?_
    refine TL.nil ?_
    refine TN.seq ?_
    refine TC.block ?_
    obtain ⟨c13, hc14⟩ : ∃ c, F_spec_l6Perm_L1 n to ((((n).toNat) - 0) + 1) 0 = c := ⟨_, rfl⟩
    rw [hc14] at hF
    refine TC.loop (ι := Nat × Nat) (fun (fu1, x1) => [(0, (.int .i64 n)), (1, vto), (5, (.int .i64 (x1 : Int)))]) (fun (fu1, x1) => Hp w []) (fun (fu1, x1) => (x1 ≤ ((n).toNat)) ∧ ((n).toNat) - x1 < fu1 ∧ F_spec_l6Perm_L1 n to fu1 x1 = c13) (fun (fu1, x1) => fu1) ((((n).toNat) - 0) + 1, 0) ⟨(by first | omega | (simp [-List.getD_eq_getElem?_getD] <;> omega)), (by omega), hc14⟩ ⟨rfl, rfl, rfl, trivial⟩ (fun w hw => hw) ?_
    rintro ⟨fu1, x1⟩ hJ1
    obtain ⟨hi1_0, hmu1, hL1⟩ : (x1 ≤ ((n).toNat)) ∧ ((n).toNat) - x1 < fu1 ∧ F_spec_l6Perm_L1 n to fu1 x1 = c13 := hJ1
    change TC _ _ _ _ (Hp w []) [(0, (.int .i64 n)), (1, vto), (5, (.int .i64 (x1 : Int)))]
    obtain ⟨mf1, rfl⟩ : ∃ m, fu1 = m + 1 := ⟨fu1 - 1, by omega⟩
    rw [F_spec_l6Perm_L1_s] at hL1
    refine TC.seq ?_
    refine TC.seq ?_
    refine TC.region ?_
    refine TL.op (yq (y_move (ev_t rfl))) rfl rfl rfl ?_
    refine TL.op (yq (y_move (ev_t rfl))) rfl rfl rfl ?_
    refine TL.op (yq (y_lss (ev_t rfl) (ev_t rfl))) rfl rfl rfl ?_
    refine TL.nil ?_
    refine TN.seq ?_
    refine TC.cond (b := decide ((x1 : Int) < n)) (ev_t rfl) (fun h15 => ?_) (fun h15 => ?_)
    · rw [bif_pos h15] at hL1
      have q16 := (of_decide_eq_true h15)
      refine TC.skip ?_
      refine TN.seq ?_
      refine TC.seq ?_
      refine TC.block ?_
      refine TC.seq ?_
      refine TC.region ?_
      refine TL.op (yq (y_move (ev_t rfl))) rfl rfl rfl ?_
      refine TL.op (yq (y_move (ev_t rfl))) rfl rfl rfl ?_
      refine TL.op (y_call (vs := [vto, (.int .i64 (x1 : Int))]) (v := (.bool (F_spec_l1Has to (x1 : Int)))) en_87 ⟨(ev_t rfl), (ev_t rfl), trivial⟩ (fun w hw => spec_l1Has_ok w vto to ((ri_arg hto) w hw) (x1 : Int))) rfl rfl rfl ?_
      refine TL.op (yq (y_not (ev_t rfl))) rfl rfl rfl ?_
      refine TL.nil ?_
      refine TN.seq ?_
      refine TC.cond (b := !(F_spec_l1Has to (x1 : Int))) (ev_t rfl) (fun h17 => ?_) (fun h17 => ?_)
      · rw [bif_pos h17] at hL1
        have q18 := (l1Has_f (not_t h17))
        refine TC.seq ?_
        refine TC.region ?_
        refine TL.op (yq (y_assign ev_c)) rfl rfl rfl ?_
        refine TL.nil ?_
        refine TN.seq ?_
        refine TC.ret ?_
        refine TN.blockR ?_
        refine TN.thenR ?_
        refine TN.thenR ?_
        rw [← hL1, elim_ret] at hF
        refine TN.blockR ?_
        refine TN.thenR ?_
        subst hF
        exact TN.ret1 rfl (ev_t rfl) (fun w' hw => ⟨rfl, hw⟩)
      · rw [bif_neg h17] at hL1
        have q18 := (not_f h17)
        refine TC.skip ?_
        refine TN.blockN ?_
        refine TN.seq ?_
        refine TC.region ?_
        refine TL.op (yq (y_move (ev_t rfl))) rfl rfl rfl ?_
        refine TL.op (yq (y_add (ev_t rfl) ev_c (by unfold In64; omega))) rfl rfl rfl ?_
        refine TL.op (yq (y_assign (ev_t rfl))) rfl rfl rfl ?_
        refine TL.nil ?_
        exact TN.hand (mf1, (x1 + 1)) ⟨(by first | omega | (simp [-List.getD_eq_getElem?_getD] <;> omega)), (by omega), hL1⟩ (Nat.lt_succ_self _) ⟨rfl, rfl, rfl, trivial⟩ (fun w hw => hw)
    · rw [bif_neg h15] at hL1
      have q16 := (of_decide_eq_false h15)
      refine TC.exit ?_
      refine TN.thenE ?_
      refine TN.thenE ?_
      rw [← hL1, elim_next] at hF
      try dsimp only at hF
      refine TN.blockH ?_
      refine TN.seq ?_
      refine TC.seq ?_
      refine TC.region ?_
      refine TL.op (yq (y_assign ev_c)) rfl rfl rfl ?_
      refine TL.nil ?_
      refine TN.seq ?_
      refine TC.ret ?_
      subst hF
      exact TN.ret1 rfl (ev_t rfl) (fun w' hw => ⟨rfl, hw⟩)

set_option maxRecDepth 4000 in
set_option maxHeartbeats 1000000 in
theorem spec_IsIsometry_ok (w : World) (vm : Value) (um : List Value) (m : List (List Int)) (hm : RII w vm um m) (vto : Value) (to : List Int) (hto : RI w vto to)  :
    Calls Try.prog 49 ([(.agg #[vm]), vto] : List Value).toArray w (Ret (.tuple #[(.bool ((F_spec_IsIsometry m to).1)), (.bool ((F_spec_IsIsometry m to).2))]) (Hp w [])) := by
  obtain ⟨rz, hF⟩ : ∃ rz, (F_spec_IsIsometry m to) = rz := ⟨_, rfl⟩
  rw [hF]
  unfold F_spec_IsIsometry at hF
  have hlen_m := argT_len hm
  have hlen_to := arg_len hto
  refine calls_tc Try.func49 rfl rfl rfl ?_
  change TC _ _ _ _ (Hp w []) [(0, (.agg #[vm])), (1, vto)]
  refine TC.seq ?_
  refine TC.region ?_
  refine TL.box (ev_t rfl) rfl (fun g0_0 => ?_)
  refine TL.op (yq (y_assign ev_c)) rfl rfl rfl ?_
  refine TL.op (yq (y_assign ev_c)) rfl rfl rfl ?_
  refine TL.nil ?_
  refine TN.seq ?_
  refine TC.seq ?_
  refine TC.seq ?_
  refine TC.region ?_
  refine TL.op (yq (y_ldagg (cs := [vm]) 0 (ev_t rfl) agg_29 rfl)) rfl rfl rfl ?_
  refine TL.op (y_call (vs := [(.agg #[vm])]) (v := (.bool (F_spec_l6Good m))) en_53 ⟨(ev_t rfl), trivial⟩ (fun w hw => spec_l6Good_ok w vm um m ((rii_arg hm) w hw))) rfl rfl rfl ?_
  refine TL.op (yq (y_not (ev_t rfl))) rfl rfl rfl ?_
  refine TL.op (yq (y_move (ev_t rfl))) rfl rfl rfl ?_
  refine TL.opw (w_f rfl rfl rfl) (fun hg => yq (y_fa (fa_29_0 g0_0) (ev_t rfl))) rfl rfl ?_
  refine TL.opw (w_f rfl rfl rfl) (fun hg => yq (y_ldb 0 (ev_g rfl hg) one_22 rfl rfl)) rfl rfl ?_
  refine TL.opw (w_f rfl rfl rfl) (fun hg => yq (y_len (ev_g rfl hg) Try.underlying22 (fun w hw => ((fun w hw => ((rii_arg hm) w hw).1) w hw).ln))) rfl rfl ?_
  refine TL.opw (w_f rfl rfl rfl) (fun hg => yq (y_move (ev_t rfl))) rfl rfl ?_
  refine TL.opw (w_f rfl rfl rfl) (fun hg => y_call (vs := [(.int .i64 (m.length : Int)), vto]) (v := (.bool (F_spec_l6Perm (m.length : Int) to))) en_93 ⟨(ev_g rfl hg), (ev_g rfl hg), trivial⟩ (fun w hw => spec_l6Perm_ok w (m.length : Int) vto to ((ri_arg hto) w hw))) rfl rfl ?_
  refine TL.opw (w_f rfl rfl rfl) (fun hg => yq (y_not (ev_g rfl hg))) rfl rfl ?_
  refine TL.op (yq (y_or (ev_t rfl) (fun hq => (ev_g rfl hq)))) rfl rfl rfl ?_
  refine TL.nil ?_
  refine TN.seq ?_
  refine TC.cond (b := ((!(F_spec_l6Good m)) || (!(F_spec_l6Perm (m.length : Int) to)))) (ev_t rfl) (fun h43 => ?_) (fun h43 => ?_)
  · rw [bif_pos h43] at hF
    have q44 := ((or_t h43).imp (fun h => (not_t h)) (fun h => (not_t h)))
    refine TC.seq ?_
    refine TC.region ?_
    refine TL.op (yq (y_assign ev_c)) rfl rfl rfl ?_
    refine TL.op (yq (y_assign ev_c)) rfl rfl rfl ?_
    refine TL.nil ?_
    refine TN.seq ?_
    refine TC.ret ?_
    refine TN.thenR ?_
    subst hF
    exact TN.ret2 rfl (ev_t rfl) (ev_t rfl) (fun w' hw => ⟨rfl, Hp.sublist hw (List.nil_sublist _)⟩)
  · rw [bif_neg h43] at hF
    have q44 := (and_imp (or_f h43) (fun h => (l6Good_t (not_f h))) (fun h => (l6Perm_t (not_f h))))
    have hT := q44.1
    have hO := q44.2
    have hO1 := hO.1
    refine TC.skip ?_
    refine TN.seq ?_
    refine TC.seq ?_
    refine TC.seq ?_
    refine TC.region ?_
    refine TL.op (yq (y_assign ev_c)) rfl rfl rfl ?_
    refine TL.nil ?_
    refine TN.seq ?_
    refine TC.block ?_
    obtain ⟨c45, hc46⟩ : ∃ c, F_spec_IsIsometry_L1 m to ((to.length - 0) + 1) 0 = c := ⟨_, rfl⟩
    rw [hc46] at hF
    refine TC.loop (ι := Nat × Nat) (fun (fu1, x1) => [(1, vto), (2, (.pointer (some ⟨g0_0, 0, none⟩))), (6, (.int .i64 (x1 : Int)))]) (fun (fu1, x1) => Hp w [.blk g0_0 29 [vm]]) (fun (fu1, x1) => (x1 ≤ to.length) ∧ to.length - x1 < fu1 ∧ F_spec_IsIsometry_L1 m to fu1 x1 = c45) (fun (fu1, x1) => fu1) ((to.length - 0) + 1, 0) ⟨(by first | omega | (simp [-List.getD_eq_getElem?_getD] <;> omega)), (by omega), hc46⟩ ⟨rfl, rfl, rfl, trivial⟩ (fun w hw => hw) ?_
    rintro ⟨fu1, x1⟩ hJ1
    obtain ⟨hi1_0, hmu1, hL1⟩ : (x1 ≤ to.length) ∧ to.length - x1 < fu1 ∧ F_spec_IsIsometry_L1 m to fu1 x1 = c45 := hJ1
    change TC _ _ _ _ (Hp w [.blk g0_0 29 [vm]]) [(1, vto), (2, (.pointer (some ⟨g0_0, 0, none⟩))), (6, (.int .i64 (x1 : Int)))]
    obtain ⟨mf1, rfl⟩ : ∃ m, fu1 = m + 1 := ⟨fu1 - 1, by omega⟩
    rw [F_spec_IsIsometry_L1_s] at hL1
    have hrw := hT.rows x1
    have ho1 := hO.2 x1
    have hr2 := hT.rows (to.getD x1 0).toNat
    refine TC.seq ?_
    refine TC.seq ?_
    refine TC.region ?_
    refine TL.op (yq (y_move (ev_t rfl))) rfl rfl rfl ?_
    refine TL.op (yq (y_move (ev_t rfl))) rfl rfl rfl ?_
    refine TL.op (yq (y_len (ev_t rfl) Try.underlying25 (fun w hw => ((ri_arg hto) w hw).ln))) rfl rfl rfl ?_
    refine TL.op (yq (y_lss (ev_t rfl) (ev_t rfl))) rfl rfl rfl ?_
    refine TL.nil ?_
    refine TN.seq ?_
    refine TC.cond (b := decide ((x1 : Int) < (to.length : Int))) (ev_t rfl) (fun h47 => ?_) (fun h47 => ?_)
    · rw [bif_pos h47] at hL1
      have q48 := (of_decide_eq_true h47)
      refine TC.skip ?_
      refine TN.seq ?_
      refine TC.seq ?_
      refine TC.block ?_
      refine TC.seq ?_
      refine TC.region ?_
      refine TL.op (yq (y_assign ev_c)) rfl rfl rfl ?_
      refine TL.nil ?_
      refine TN.seq ?_
      refine TC.block ?_
      obtain ⟨c49, hc50⟩ : ∃ c, F_spec_IsIsometry_L2 m to x1 ((to.length - 0) + 1) 0 = c := ⟨_, rfl⟩
      rw [hc50] at hL1
      refine TC.loop (ι := Nat × Nat) (fun (fu2, y2) => [(1, vto), (2, (.pointer (some ⟨g0_0, 0, none⟩))), (6, (.int .i64 (x1 : Int))), (7, (.int .i64 (y2 : Int)))]) (fun (fu2, y2) => Hp w [.blk g0_0 29 [vm]]) (fun (fu2, y2) => (y2 ≤ to.length) ∧ to.length - y2 < fu2 ∧ F_spec_IsIsometry_L2 m to x1 fu2 y2 = c49) (fun (fu2, y2) => fu2) ((to.length - 0) + 1, 0) ⟨(by first | omega | (simp [-List.getD_eq_getElem?_getD] <;> omega)), (by omega), hc50⟩ ⟨rfl, rfl, rfl, rfl, trivial⟩ (fun w hw => hw) ?_
      rintro ⟨fu2, y2⟩ hJ2
      obtain ⟨hi2_0, hmu2, hL2⟩ : (y2 ≤ to.length) ∧ to.length - y2 < fu2 ∧ F_spec_IsIsometry_L2 m to x1 fu2 y2 = c49 := hJ2
      change TC _ _ _ _ (Hp w [.blk g0_0 29 [vm]]) [(1, vto), (2, (.pointer (some ⟨g0_0, 0, none⟩))), (6, (.int .i64 (x1 : Int))), (7, (.int .i64 (y2 : Int)))]
      obtain ⟨mf2, rfl⟩ : ∃ m, fu2 = m + 1 := ⟨fu2 - 1, by omega⟩
      rw [F_spec_IsIsometry_L2_s] at hL2
      have ho2 := hO.2 y2
      refine TC.seq ?_
      refine TC.seq ?_
      refine TC.region ?_
      refine TL.op (yq (y_move (ev_t rfl))) rfl rfl rfl ?_
      refine TL.op (yq (y_move (ev_t rfl))) rfl rfl rfl ?_
      refine TL.op (yq (y_len (ev_t rfl) Try.underlying25 (fun w hw => ((ri_arg hto) w hw).ln))) rfl rfl rfl ?_
      refine TL.op (yq (y_lss (ev_t rfl) (ev_t rfl))) rfl rfl rfl ?_
      refine TL.nil ?_
      refine TN.seq ?_
      refine TC.cond (b := decide ((y2 : Int) < (to.length : Int))) (ev_t rfl) (fun h51 => ?_) (fun h51 => ?_)
      · rw [bif_pos h51] at hL2
        have q52 := (of_decide_eq_true h51)
        refine TC.skip ?_
        refine TN.seq ?_
        refine TC.seq ?_
        refine TC.block ?_
        refine TC.seq ?_
        refine TC.regionQ (by kernel_rfl) (by kernel_rfl) dr_hp ?_
        refine TQ.op (yq (y_fa (fa_29_0 g0_0) (ev_t rfl))) rfl rfl rfl ?_
        refine TQ.op (yq (y_ldb 0 (ev_t rfl) one_22 rfl rfl)) rfl rfl rfl ?_
        refine TQ.op (yq (y_move (ev_t rfl))) rfl rfl rfl ?_
        have hb53 : x1 < m.length := (by first | omega | (simp only [List.length_set, List.length_append, List.length_cons, List.length_nil, List.length_replicate]; omega) | (rw [sortI_length]; simp only [List.length_cons, List.length_nil]; omega))
        refine TQ.op (yq (y_idx (k := x1) (ev_t rfl) (ev_t rfl) (by first | omega | simp) slT_22 (fun w hw => ((rii_arg hm) w hw).1) hb53)) rfl rfl rfl ?_
        have ha54 := hm.row (i := x1) hb53
        refine TQ.op (yq (y_ldA (ev_t rfl) one_25 (rii_arg hm) hb53)) rfl rfl rfl ?_
        refine TQ.op (yq (y_move (ev_t rfl))) rfl rfl rfl ?_
        have hb55 : y2 < (m.getD x1 []).length := (by first | omega | (simp only [List.length_set, List.length_append, List.length_cons, List.length_nil, List.length_replicate]; omega) | (rw [sortI_length]; simp only [List.length_cons, List.length_nil]; omega))
        refine TQ.op (yq (y_idx (k := y2) (ev_t rfl) (ev_t rfl) (by first | omega | simp) slT_25 (ri_arg ha54) hb55)) rfl rfl rfl ?_
        refine TQ.op (yq (y_ldi (ev_t rfl) one_3 (ri_arg ha54) hb55)) rfl rfl rfl ?_
        refine TQ.op (yq (y_fa (fa_29_0 g0_0) (ev_t rfl))) rfl rfl rfl ?_
        refine TQ.op (yq (y_ldb 0 (ev_t rfl) one_22 rfl rfl)) rfl rfl rfl ?_
        refine TQ.op (yq (y_move (ev_t rfl))) rfl rfl rfl ?_
        refine TQ.op (yq (y_move (ev_t rfl))) rfl rfl rfl ?_
        have hb56 : x1 < to.length := (by first | omega | (simp only [List.length_set, List.length_append, List.length_cons, List.length_nil, List.length_replicate]; omega) | (rw [sortI_length]; simp only [List.length_cons, List.length_nil]; omega))
        refine TQ.op (yq (y_idx (k := x1) (ev_t rfl) (ev_t rfl) (by first | omega | simp) slT_25 (ri_arg hto) hb56)) rfl rfl rfl ?_
        refine TQ.op (yq (y_ldi (ev_t rfl) one_3 (ri_arg hto) hb56)) rfl rfl rfl ?_
        have hb57 : ((to.getD x1 0)).toNat < m.length := (by first | omega | (simp only [List.length_set, List.length_append, List.length_cons, List.length_nil, List.length_replicate]; omega) | (rw [sortI_length]; simp only [List.length_cons, List.length_nil]; omega))
        refine TQ.op (yq (y_idx (k := ((to.getD x1 0)).toNat) (ev_t rfl) (ev_t rfl) (by first | omega | simp) slT_22 (fun w hw => ((rii_arg hm) w hw).1) hb57)) rfl rfl rfl ?_
        have ha58 := hm.row (i := ((to.getD x1 0)).toNat) hb57
        refine TQ.op (yq (y_ldA (ev_t rfl) one_25 (rii_arg hm) hb57)) rfl rfl rfl ?_
        refine TQ.op (yq (y_move (ev_t rfl))) rfl rfl rfl ?_
        refine TQ.op (yq (y_move (ev_t rfl))) rfl rfl rfl ?_
        have hb59 : y2 < to.length := (by first | omega | (simp only [List.length_set, List.length_append, List.length_cons, List.length_nil, List.length_replicate]; omega) | (rw [sortI_length]; simp only [List.length_cons, List.length_nil]; omega))
        refine TQ.op (yq (y_idx (k := y2) (ev_t rfl) (ev_t rfl) (by first | omega | simp) slT_25 (ri_arg hto) hb59)) rfl rfl rfl ?_
        refine TQ.op (yq (y_ldi (ev_t rfl) one_3 (ri_arg hto) hb59)) rfl rfl rfl ?_
        have hb60 : ((to.getD y2 0)).toNat < (m.getD (((to.getD x1 0)).toNat) []).length := (by first | omega | (simp only [List.length_set, List.length_append, List.length_cons, List.length_nil, List.length_replicate]; omega) | (rw [sortI_length]; simp only [List.length_cons, List.length_nil]; omega))
        refine TQ.op (yq (y_idx (k := ((to.getD y2 0)).toNat) (ev_t rfl) (ev_t rfl) (by first | omega | simp) slT_25 (ri_arg ha58) hb60)) rfl rfl rfl ?_
        refine TQ.op (yq (y_ldi (ev_t rfl) one_3 (ri_arg ha58) hb60)) rfl rfl rfl ?_
        refine TQ.op (yq (y_neq (ev_t rfl) (ev_t rfl))) rfl rfl rfl ?_
        refine TQ.nil ?_
        refine TN.seq ?_
        refine TC.cond (b := !decide (((m.getD x1 []).getD y2 0) = ((m.getD (((to.getD x1 0)).toNat) []).getD (((to.getD y2 0)).toNat) 0))) (ev_t rfl) (fun h61 => ?_) (fun h61 => ?_)
        · rw [bif_pos h61] at hL2
          have q62 := (of_decide_eq_false (not_t h61))
          refine TC.seq ?_
          refine TC.region ?_
          refine TL.op (yq (y_assign ev_c)) rfl rfl rfl ?_
          refine TL.op (yq (y_assign ev_c)) rfl rfl rfl ?_
          refine TL.nil ?_
          refine TN.seq ?_
          refine TC.ret ?_
          refine TN.blockR ?_
          refine TN.thenR ?_
          refine TN.thenR ?_
          rw [← hL2, elim_ret] at hL1
          refine TN.blockR ?_
          refine TN.blockR ?_
          refine TN.thenR ?_
          refine TN.thenR ?_
          rw [← hL1, elim_ret] at hF
          refine TN.blockR ?_
          refine TN.thenR ?_
          subst hF
          exact TN.ret2 rfl (ev_t rfl) (ev_t rfl) (fun w' hw => ⟨rfl, Hp.sublist hw (List.nil_sublist _)⟩)
        · rw [bif_neg h61] at hL2
          have q62 := (of_decide_eq_true (not_f h61))
          refine TC.skip ?_
          refine TN.blockN ?_
          refine TN.seq ?_
          refine TC.region ?_
          refine TL.op (yq (y_move (ev_t rfl))) rfl rfl rfl ?_
          refine TL.op (yq (y_add (ev_t rfl) ev_c (by unfold In64; omega))) rfl rfl rfl ?_
          refine TL.op (yq (y_assign (ev_t rfl))) rfl rfl rfl ?_
          refine TL.nil ?_
          exact TN.hand (mf2, (y2 + 1)) ⟨(by first | omega | (simp [-List.getD_eq_getElem?_getD] <;> omega)), (by omega), hL2⟩ (Nat.lt_succ_self _) ⟨rfl, rfl, rfl, rfl, trivial⟩ (fun w hw => hw)
      · rw [bif_neg h51] at hL2
        have q52 := (of_decide_eq_false h51)
        refine TC.exit ?_
        refine TN.thenE ?_
        refine TN.thenE ?_
        rw [← hL2, elim_next] at hL1
        try dsimp only at hL1
        refine TN.blockH ?_
        refine TN.blockN ?_
        refine TN.seq ?_
        refine TC.region ?_
        refine TL.op (yq (y_move (ev_t rfl))) rfl rfl rfl ?_
        refine TL.op (yq (y_add (ev_t rfl) ev_c (by unfold In64; omega))) rfl rfl rfl ?_
        refine TL.op (yq (y_assign (ev_t rfl))) rfl rfl rfl ?_
        refine TL.nil ?_
        exact TN.hand (mf1, (x1 + 1)) ⟨(by first | omega | (simp [-List.getD_eq_getElem?_getD] <;> omega)), (by omega), hL1⟩ (Nat.lt_succ_self _) ⟨rfl, rfl, rfl, trivial⟩ (fun w hw => hw)
    · rw [bif_neg h47] at hL1
      have q48 := (of_decide_eq_false h47)
      refine TC.exit ?_
      refine TN.thenE ?_
      refine TN.thenE ?_
      rw [← hL1, elim_next] at hF
      try dsimp only at hF
      refine TN.blockH ?_
      refine TN.seq ?_
      refine TC.seq ?_
      refine TC.region ?_
      refine TL.op (yq (y_assign ev_c)) rfl rfl rfl ?_
      refine TL.op (yq (y_assign ev_c)) rfl rfl rfl ?_
      refine TL.nil ?_
      refine TN.seq ?_
      refine TC.ret ?_
      subst hF
      exact TN.ret2 rfl (ev_t rfl) (ev_t rfl) (fun w' hw => ⟨rfl, Hp.sublist hw (List.nil_sublist _)⟩)

set_option maxRecDepth 4000 in
set_option maxHeartbeats 1000000 in
theorem laws_FnExactIsIsometry_ok (w : World) (vm : Value) (um : List Value) (m : List (List Int)) (hm : RII w vm um m) (vto : Value) (to : List Int) (hto : RI w vto to)  :
    Calls Try.prog 13 ([(.agg #[vm]), vto] : List Value).toArray w (Ret (.bool (F_laws_FnExactIsIsometry m to)) (Hp w [])) := by
  obtain ⟨rz, hF⟩ : ∃ rz, (F_laws_FnExactIsIsometry m to) = rz := ⟨_, rfl⟩
  rw [hF]
  unfold F_laws_FnExactIsIsometry at hF
  have hta := toIntS_eq to
  have hlen_m := argT_len hm
  have hlen_to := arg_len hto
  refine calls_tc Try.func13 rfl rfl rfl ?_
  change TC _ _ _ _ (Hp w []) [(0, (.agg #[vm])), (1, vto)]
  refine TC.seq ?_
  refine TC.region ?_
  refine TL.box (ev_t rfl) rfl (fun g0_0 => ?_)
  refine TL.op (yq (y_assign ev_c)) rfl rfl rfl ?_
  refine TL.nil ?_
  refine TN.seq ?_
  refine TC.seq ?_
  refine TC.seq ?_
  refine TC.region ?_
  refine TL.op (yq (y_move (ev_t rfl))) rfl rfl rfl ?_
  refine TL.op (yq (y_len (ev_t rfl) Try.underlying25 (fun w hw => ((ri_arg hto) w hw).ln))) rfl rfl rfl ?_
  refine TL.op (yq (y_gtr (ev_t rfl) ev_c)) rfl rfl rfl ?_
  refine TL.nil ?_
  refine TN.seq ?_
  refine TC.cond (b := decide (1048576 < (to.length : Int))) (ev_t rfl) (fun h11 => ?_) (fun h11 => ?_)
  · rw [bif_pos h11] at hF
    have q12 := (of_decide_eq_true h11)
    refine TC.seq ?_
    refine TC.region ?_
    refine TL.op (yq (y_assign ev_c)) rfl rfl rfl ?_
    refine TL.nil ?_
    refine TN.seq ?_
    refine TC.ret ?_
    refine TN.thenR ?_
    subst hF
    exact TN.ret1 rfl (ev_t rfl) (fun w' hw => ⟨rfl, Hp.sublist hw (List.nil_sublist _)⟩)
  · rw [bif_neg h11] at hF
    have q12 := (of_decide_eq_false h11)
    refine TC.skip ?_
    refine TN.seq ?_
    refine TC.seq ?_
    refine TC.region ?_
    refine TL.op (yq (y_assign ev_c)) rfl rfl rfl ?_
    refine TL.nil ?_
    refine TN.seq ?_
    refine TC.seq ?_
    refine TC.region ?_
    refine TL.op (yq (y_ldagg (cs := [vm]) 0 (ev_t rfl) agg_24 rfl)) rfl rfl rfl ?_
    refine TL.op (yq (y_move (ev_t rfl))) rfl rfl rfl ?_
    refine TL.op (y_call (vs := [(.agg #[vm]), (.int .i64 1048576)]) (v := (.int .i64 (F_laws_szMetric m 1048576))) en_15 ⟨(ev_t rfl), (ev_t rfl), trivial⟩ (fun w hw => laws_szMetric_ok w vm um m ((rii_arg hm) w hw) 1048576 (by first | assumption | omega | grind) (by first | assumption | omega | grind))) rfl rfl rfl ?_
    refine TL.op (yq (y_assign (ev_t rfl))) rfl rfl rfl ?_
    refine TL.nil ?_
    refine TN.seq ?_
    refine TC.seq ?_
    refine TC.seq ?_
    refine TC.region ?_
    refine TL.op (yq (y_move (ev_t rfl))) rfl rfl rfl ?_
    refine TL.op (yq (y_lss (ev_t rfl) ev_c)) rfl rfl rfl ?_
    refine TL.nil ?_
    refine TN.seq ?_
    refine TC.cond (b := decide ((F_laws_szMetric m 1048576) < 0)) (ev_t rfl) (fun h13 => ?_) (fun h13 => ?_)
    · rw [bif_pos h13] at hF
      have q14 := (of_decide_eq_true h13)
      refine TC.seq ?_
      refine TC.region ?_
      refine TL.op (yq (y_assign ev_c)) rfl rfl rfl ?_
      refine TL.nil ?_
      refine TN.seq ?_
      refine TC.ret ?_
      refine TN.thenR ?_
      subst hF
      exact TN.ret1 rfl (ev_t rfl) (fun w' hw => ⟨rfl, Hp.sublist hw (List.nil_sublist _)⟩)
    · rw [bif_neg h13] at hF
      have q14 := (of_decide_eq_false h13)
      have hsz := szMetric_t (m := m) (left := 1048576) (by omega)
      have hsz1 : ∀ i, (m.getD i []).length ≤ 1048576 := fun i => by have := hsz.2 i; omega
      have hsz2 : m.length + total m ≤ 1048576 := by have := hsz.1; omega
      have htm := toMetric_eq m
      refine TC.skip ?_
      refine TN.seq ?_
      refine TC.seq ?_
      refine TC.region ?_
      refine TL.op (yq (y_ldagg (cs := [vm]) 0 (ev_t rfl) agg_24 rfl)) rfl rfl rfl ?_
      refine TL.callr (ι := Value × List Value) (vs := [(.agg #[vm])]) (fun i => (.agg #[i.1])) (fun i => [tabI 25 3 i.1 i.2 (F_laws_toMetric m)]) en_17 ⟨(ev_t rfl), trivial⟩ rfl (fun w hw => laws_toMetric_ok w vm um m ((rii_arg hm) w hw) (by first | assumption | omega | grind) (by first | assumption | omega | grind)) (fun r7_1 => ?_)
      refine TL.op (yq (y_move (ev_t rfl))) rfl rfl rfl ?_
      refine TL.callr (ι := Value) (vs := [vto]) (fun i => i) (fun i => [rowI 3 i (F_laws_toIntS to)]) en_18 ⟨(ev_t rfl), trivial⟩ rfl (fun w hw => laws_toIntS_ok w vto to ((ri_arg hto) w hw) (by first | assumption | omega | grind)) (fun r7_3 => ?_)
      refine TL.op (y_call (vs := [(.agg #[r7_1.1]), r7_3]) (v := (.tuple #[(.bool ((F_spec_IsIsometry (F_laws_toMetric m) (F_laws_toIntS to)).1)), (.bool ((F_spec_IsIsometry (F_laws_toMetric m) (F_laws_toIntS to)).2))])) en_49 ⟨(ev_t rfl), (ev_t rfl), trivial⟩ (fun w hw => spec_IsIsometry_ok w r7_1.1 r7_1.2 (F_laws_toMetric m) ((rii_tab 1 rfl) w hw) r7_3 (F_laws_toIntS to) ((ri_row 0 rfl) w hw))) rfl rfl rfl ?_
      refine TL.op (yq (y_move (ev_t rfl))) rfl rfl rfl ?_
      refine TL.op (yq (y_extract (ev_t rfl) rfl)) rfl rfl rfl ?_
      refine TL.op (yq (y_extract (ev_t rfl) rfl)) rfl rfl rfl ?_
      refine TL.op (yq (y_assign (ev_t rfl))) rfl rfl rfl ?_
      refine TL.op (yq (y_assign (ev_t rfl))) rfl rfl rfl ?_
      refine TL.nil ?_
      refine TN.seq ?_
      refine TC.seq ?_
      refine TC.region ?_
      refine TL.op (yq (y_ldagg (cs := [vm]) 2 (ev_t rfl) agg_24 rfl)) rfl rfl rfl ?_
      refine TL.callr (ι := Value × List Value) (vs := [(.agg #[vm])]) (fun i => (.agg #[i.1])) (fun i => [tabI 25 3 i.1 i.2 (F_laws_toMetric m)]) en_17 ⟨(ev_t rfl), trivial⟩ rfl (fun w hw => laws_toMetric_ok w vm um m ((rii_arg hm) w hw) (by first | assumption | omega | grind) (by first | assumption | omega | grind)) (fun r8_1 => ?_)
      refine TL.alloc (u := (.agg #[(.slice none 0 0)])) (by kernel_rfl) rfl (fun g8_2 => ?_)
      refine TL.storeAgg (cs := [(.slice none 0 0)]) (us := [r8_1.1]) 0 (ev_t rfl) (ev_t rfl) agg_29 rfl rfl (fun w hw => (ocs_cons (ln_one ((fun w hw => ((rii_tab 1 rfl) w hw).1) w hw).ln) ocs_nil)) ?_
      refine TL.nil ?_
      refine TN.seq ?_
      refine TC.seq ?_
      refine TC.region ?_
      refine TL.op (yq (y_move (ev_t rfl))) rfl rfl rfl ?_
      refine TL.callr (ι := Value) (vs := [vto]) (fun i => i) (fun i => [rowI 3 i (F_laws_toIntS to)]) en_18 ⟨(ev_t rfl), trivial⟩ rfl (fun w hw => laws_toIntS_ok w vto to ((ri_arg hto) w hw) (by first | assumption | omega | grind)) (fun r9_1 => ?_)
      refine TL.op (yq (y_assign (ev_t rfl))) rfl rfl rfl ?_
      refine TL.nil ?_
      refine TN.seq ?_
      refine TC.seq ?_
      refine TC.region ?_
      refine TL.op (yq (y_ldagg (cs := [r8_1.1]) 1 (ev_t rfl) agg_29 rfl)) rfl rfl rfl ?_
      refine TL.op (yq (y_move (ev_t rfl))) rfl rfl rfl ?_
      refine TL.op (y_call (vs := [(.agg #[r8_1.1]), r9_1]) (v := (.tuple #[(.bool ((F_impl_IsIsometry (F_laws_toMetric m) (F_laws_toIntS to)).1)), (.bool ((F_impl_IsIsometry (F_laws_toMetric m) (F_laws_toIntS to)).2))])) en_50 ⟨(ev_t rfl), (ev_t rfl), trivial⟩ (fun w hw => impl_IsIsometry_ok w r8_1.1 r8_1.2 (F_laws_toMetric m) ((rii_tab 2 rfl) w hw) r9_1 (F_laws_toIntS to) ((ri_row 0 rfl) w hw))) rfl rfl rfl ?_
      refine TL.op (yq (y_move (ev_t rfl))) rfl rfl rfl ?_
      refine TL.op (yq (y_extract (ev_t rfl) rfl)) rfl rfl rfl ?_
      refine TL.op (yq (y_extract (ev_t rfl) rfl)) rfl rfl rfl ?_
      refine TL.op (yq (y_assign (ev_t rfl))) rfl rfl rfl ?_
      refine TL.op (yq (y_assign (ev_t rfl))) rfl rfl rfl ?_
      refine TL.nil ?_
      refine TN.seq ?_
      refine TC.seq ?_
      refine TC.seq ?_
      refine TC.region ?_
      refine TL.op (yq (y_move (ev_t rfl))) rfl rfl rfl ?_
      refine TL.op (yq (y_move (ev_t rfl))) rfl rfl rfl ?_
      refine TL.op (yq (y_bneq (ev_t rfl) (ev_t rfl) Try.underlying4)) rfl rfl rfl ?_
      refine TL.op (yq (y_move (ev_t rfl))) rfl rfl rfl ?_
      refine TL.opw (w_f rfl rfl rfl) (fun hg => yq (y_move (ev_t rfl))) rfl rfl ?_
      refine TL.opw (w_f rfl rfl rfl) (fun hg => yq (y_move (ev_t rfl))) rfl rfl ?_
      refine TL.opw (w_f rfl rfl rfl) (fun hg => yq (y_bneq (ev_g rfl hg) (ev_g rfl hg) Try.underlying4)) rfl rfl ?_
      refine TL.op (yq (y_or (ev_t rfl) (fun hq => (ev_g rfl hq)))) rfl rfl rfl ?_
      refine TL.nil ?_
      refine TN.seq ?_
      refine TC.cond (b := ((((F_impl_IsIsometry (F_laws_toMetric m) (F_laws_toIntS to)).1) != ((F_spec_IsIsometry (F_laws_toMetric m) (F_laws_toIntS to)).1)) || (((F_impl_IsIsometry (F_laws_toMetric m) (F_laws_toIntS to)).2) != ((F_spec_IsIsometry (F_laws_toMetric m) (F_laws_toIntS to)).2)))) (ev_t rfl) (fun h15 => ?_) (fun h15 => ?_)
      · rw [bif_pos h15] at hF
        have q16 := ((or_t h15).imp (fun h => h) (fun h => h))
        refine TC.seq ?_
        refine TC.region ?_
        refine TL.op (yq (y_assign ev_c)) rfl rfl rfl ?_
        refine TL.nil ?_
        refine TN.seq ?_
        refine TC.ret ?_
        refine TN.thenR ?_
        subst hF
        exact TN.ret1 rfl (ev_t rfl) (fun w' hw => ⟨rfl, Hp.sublist hw (List.nil_sublist _)⟩)
      · rw [bif_neg h15] at hF
        have q16 := (and_imp (or_f h15) (fun h => h) (fun h => h))
        refine TC.skip ?_
        refine TN.seq ?_
        refine TC.seq ?_
        refine TC.seq ?_
        refine TC.regionH 5 (Hp w [rowI 3 r9_1 (F_laws_toIntS to), .blk g8_2 29 [r8_1.1], tabI 25 3 r8_1.1 r8_1.2 (F_laws_toMetric m), rowI 3 r7_3 (F_laws_toIntS to), tabI 25 3 r7_1.1 r7_1.2 (F_laws_toMetric m), .blk g0_0 24 [vm]]) rfl (by kernel_rfl) dr_hp (fun w hw => hw) ?_
        refine TH.take 0 rfl (by kernel_rfl) (y_ldagg (cs := [r8_1.1]) 1 (ev_t rfl) agg_29 rfl) rfl rfl rfl ?_
        refine TH.take 1 rfl (by kernel_rfl) (y_ldagg (cs := [vm]) 5 (ev_t rfl) agg_24 rfl) rfl rfl rfl ?_
        refine TH.loud 2 rfl (by kernel_rfl) ?_
        refine TL.callr (ι := Value × List Value) (vs := [(.agg #[vm])]) (fun i => (.agg #[i.1])) (fun i => [tabI 25 3 i.1 i.2 (F_laws_toMetric m)]) en_17 ⟨(ev_t rfl), trivial⟩ rfl (fun w hw => laws_toMetric_ok w vm um m ((rii_arg hm) w hw) (by first | assumption | omega | grind) (by first | assumption | omega | grind)) (fun r13_2 => ?_)
        refine TL.nil ?_
        refine TH.back (fun w hw => Hp.sublist hw (.cons _ (.cons_cons _ (.cons_cons _ (.cons_cons _ (.cons_cons _ (.cons_cons _ (.cons_cons _ .slnil)))))))) ?_
        refine TH.loud 3 rfl (by kernel_rfl) ?_
        refine TL.op (y_call (vs := [(.agg #[r8_1.1]), (.agg #[r13_2.1])]) (v := (.bool (F_laws_eqMetric (F_laws_toMetric m) (F_laws_toMetric m)))) en_20 ⟨(ev_t rfl), (ev_t rfl), trivial⟩ (fun w hw => laws_eqMetric_ok w r8_1.1 r8_1.2 (F_laws_toMetric m) ((rii_tab 3 rfl) w hw) r13_2.1 r13_2.2 (F_laws_toMetric m) ((rii_tab 0 rfl) w hw))) rfl rfl rfl ?_
        refine TL.nil ?_
        refine TH.back (fun w hw => Hp.sublist hw (.cons _ (.cons_cons _ (.cons_cons _ (.cons_cons _ (.cons_cons _ (.cons_cons _ (.cons_cons _ .slnil)))))))) ?_
        refine TH.take 4 rfl (by kernel_rfl) (y_not (ev_t rfl)) rfl rfl rfl ?_
        refine TH.done (by kernel_rfl) ?_
        refine TN.seq ?_
        refine TC.cond (b := !(F_laws_eqMetric (F_laws_toMetric m) (F_laws_toMetric m))) (ev_t rfl) (fun h17 => ?_) (fun h17 => ?_)
        · rw [bif_pos h17] at hF
          have q18 := (not_t h17)
          refine TC.seq ?_
          refine TC.region ?_
          refine TL.op (yq (y_assign ev_c)) rfl rfl rfl ?_
          refine TL.nil ?_
          refine TN.seq ?_
          refine TC.ret ?_
          refine TN.thenR ?_
          subst hF
          exact TN.ret1 rfl (ev_t rfl) (fun w' hw => ⟨rfl, Hp.sublist hw (List.nil_sublist _)⟩)
        · rw [bif_neg h17] at hF
          have q18 := (not_f h17)
          refine TC.skip ?_
          refine TN.seq ?_
          refine TC.seq ?_
          refine TC.seq ?_
          refine TC.region ?_
          refine TL.op (yq (y_move (ev_t rfl))) rfl rfl rfl ?_
          refine TL.op (yq (y_move (ev_t rfl))) rfl rfl rfl ?_
          refine TL.callr (ι := Value) (vs := [vto]) (fun i => i) (fun i => [rowI 3 i (F_laws_toIntS to)]) en_18 ⟨(ev_t rfl), trivial⟩ rfl (fun w hw => laws_toIntS_ok w vto to ((ri_arg hto) w hw) (by first | assumption | omega | grind)) (fun r15_2 => ?_)
          refine TL.op (y_call (vs := [r9_1, r15_2]) (v := (.bool (F_laws_eqIntS (F_laws_toIntS to) (F_laws_toIntS to)))) en_21 ⟨(ev_t rfl), (ev_t rfl), trivial⟩ (fun w hw => laws_eqIntS_ok w r9_1 (F_laws_toIntS to) ((ri_row 2 rfl) w hw) r15_2 (F_laws_toIntS to) ((ri_row 0 rfl) w hw))) rfl rfl rfl ?_
          refine TL.op (yq (y_not (ev_t rfl))) rfl rfl rfl ?_
          refine TL.nil ?_
          refine TN.seq ?_
          refine TC.cond (b := !(F_laws_eqIntS (F_laws_toIntS to) (F_laws_toIntS to))) (ev_t rfl) (fun h19 => ?_) (fun h19 => ?_)
          · rw [bif_pos h19] at hF
            have q20 := (not_t h19)
            refine TC.seq ?_
            refine TC.region ?_
            refine TL.op (yq (y_assign ev_c)) rfl rfl rfl ?_
            refine TL.nil ?_
            refine TN.seq ?_
            refine TC.ret ?_
            refine TN.thenR ?_
            subst hF
            exact TN.ret1 rfl (ev_t rfl) (fun w' hw => ⟨rfl, Hp.sublist hw (List.nil_sublist _)⟩)
          · rw [bif_neg h19] at hF
            have q20 := (not_f h19)
            refine TC.skip ?_
            refine TN.seq ?_
            refine TC.seq ?_
            refine TC.region ?_
            refine TL.op (yq (y_assign ev_c)) rfl rfl rfl ?_
            refine TL.nil ?_
            refine TN.seq ?_
            refine TC.ret ?_
            subst hF
            exact TN.ret1 rfl (ev_t rfl) (fun w' hw => ⟨rfl, Hp.sublist hw (List.nil_sublist _)⟩)

set_option maxRecDepth 4000 in
set_option maxHeartbeats 1000000 in
theorem impl_IsTreeLike_ok (w : World) (vm : Value) (um : List Value) (m : List (List Int)) (hm : RII w vm um m)  :
    Calls Try.prog 48 ([(.agg #[vm])] : List Value).toArray w (Ret (.tuple #[(.bool ((F_impl_IsTreeLike m).1)), (.bool ((F_impl_IsTreeLike m).2))]) (Hp w [])) := by
  obtain ⟨rz, hF⟩ : ∃ rz, (F_impl_IsTreeLike m) = rz := ⟨_, rfl⟩
  rw [hF]
  unfold F_impl_IsTreeLike at hF
  have hlen_m := argT_len hm
  refine calls_tc Try.func48 rfl rfl rfl ?_
  change TC _ _ _ _ (Hp w []) [(0, (.agg #[vm]))]
  refine TC.seq ?_
  refine TC.region ?_
  refine TL.box (ev_t rfl) rfl (fun g0_0 => ?_)
  refine TL.op (yq (y_assign ev_c)) rfl rfl rfl ?_
  refine TL.op (yq (y_assign ev_c)) rfl rfl rfl ?_
  refine TL.nil ?_
  refine TN.seq ?_
  refine TC.seq ?_
  refine TC.seq ?_
  refine TC.region ?_
  refine TL.op (yq (y_ldagg (cs := [vm]) 0 (ev_t rfl) agg_29 rfl)) rfl rfl rfl ?_
  refine TL.op (y_call (vs := [(.agg #[vm])]) (v := (.bool (F_impl_IsMetric m))) en_55 ⟨(ev_t rfl), trivial⟩ (fun w hw => impl_IsMetric_ok w vm um m ((rii_arg hm) w hw))) rfl rfl rfl ?_
  refine TL.op (yq (y_not (ev_t rfl))) rfl rfl rfl ?_
  refine TL.nil ?_
  refine TN.seq ?_
  refine TC.cond (b := !(F_impl_IsMetric m)) (ev_t rfl) (fun h51 => ?_) (fun h51 => ?_)
  · rw [bif_pos h51] at hF
    have q52 := (not_t h51)
    refine TC.seq ?_
    refine TC.region ?_
    refine TL.op (yq (y_assign ev_c)) rfl rfl rfl ?_
    refine TL.op (yq (y_assign ev_c)) rfl rfl rfl ?_
    refine TL.nil ?_
    refine TN.seq ?_
    refine TC.ret ?_
    refine TN.thenR ?_
    subst hF
    exact TN.ret2 rfl (ev_t rfl) (ev_t rfl) (fun w' hw => ⟨rfl, Hp.sublist hw (List.nil_sublist _)⟩)
  · rw [bif_neg h51] at hF
    have q52 := (isMetric_t (not_f h51))
    have hT := q52
    have hn6 := hT.n6
    have hn1 := hT.n1
    have hon := ord_n hT.n6
    have hon1 := hon.1
    have hon2 := hon.2
    have hol := ord_le m.length hT.n6
    refine TC.skip ?_
    refine TN.seq ?_
    refine TC.seq ?_
    refine TC.region ?_
    refine TL.op (yq (y_fa (fa_29_0 g0_0) (ev_t rfl))) rfl rfl rfl ?_
    refine TL.op (yq (y_ldb 0 (ev_t rfl) one_22 rfl rfl)) rfl rfl rfl ?_
    refine TL.op (yq (y_len (ev_t rfl) Try.underlying22 (fun w hw => ((fun w hw => ((rii_arg hm) w hw).1) w hw).ln))) rfl rfl rfl ?_
    refine TL.op (yq (y_assign (ev_t rfl))) rfl rfl rfl ?_
    refine TL.nil ?_
    refine TN.seq ?_
    refine TC.seq ?_
    refine TC.seq ?_
    refine TC.region ?_
    refine TL.op (yq (y_move (ev_t rfl))) rfl rfl rfl ?_
    refine TL.op (yq (y_move (ev_t rfl))) rfl rfl rfl ?_
    refine TL.op (yq (y_mul (ev_t rfl) (ev_t rfl) (by unfold In64; omega))) rfl rfl rfl ?_
    refine TL.op (yq (y_move (ev_t rfl))) rfl rfl rfl ?_
    refine TL.op (yq (y_mul (ev_t rfl) (ev_t rfl) (by unfold In64; omega))) rfl rfl rfl ?_
    refine TL.op (yq (y_move (ev_t rfl))) rfl rfl rfl ?_
    refine TL.op (yq (y_mul (ev_t rfl) (ev_t rfl) (by unfold In64; omega))) rfl rfl rfl ?_
    refine TL.op (yq (y_move ev_c)) rfl rfl rfl ?_
    refine TL.nil ?_
    refine TN.seq ?_
    refine TC.block ?_
    obtain ⟨c53, hc54⟩ : ∃ c, F_impl_IsTreeLike_L1 m (((((((m.length : Int) * (m.length : Int)) * (m.length : Int)) * (m.length : Int)).toNat) - 0) + 1) 0 = c := ⟨_, rfl⟩
    rw [hc54] at hF
    refine TC.loop (ι := Nat × Nat) (fun (fu1, k24_1) => [(1, (.pointer (some ⟨g0_0, 0, none⟩))), (4, (.int .i64 (m.length : Int))), (23, (.int .i64 ((((m.length : Int) * (m.length : Int)) * (m.length : Int)) * (m.length : Int)))), (24, (.int .i64 (k24_1 : Int)))]) (fun (fu1, k24_1) => Hp w [.blk g0_0 29 [vm]]) (fun (fu1, k24_1) => (k24_1 ≤ (((((m.length : Int) * (m.length : Int)) * (m.length : Int)) * (m.length : Int)).toNat)) ∧ (((((m.length : Int) * (m.length : Int)) * (m.length : Int)) * (m.length : Int)).toNat) - k24_1 < fu1 ∧ F_impl_IsTreeLike_L1 m fu1 k24_1 = c53) (fun (fu1, k24_1) => fu1) (((((((m.length : Int) * (m.length : Int)) * (m.length : Int)) * (m.length : Int)).toNat) - 0) + 1, 0) ⟨(by first | omega | (simp [-List.getD_eq_getElem?_getD] <;> omega)), (by omega), hc54⟩ ⟨rfl, rfl, rfl, rfl, trivial⟩ (fun w hw => hw) ?_
    rintro ⟨fu1, k24_1⟩ hJ1
    obtain ⟨hi1_0, hmu1, hL1⟩ : (k24_1 ≤ (((((m.length : Int) * (m.length : Int)) * (m.length : Int)) * (m.length : Int)).toNat)) ∧ (((((m.length : Int) * (m.length : Int)) * (m.length : Int)) * (m.length : Int)).toNat) - k24_1 < fu1 ∧ F_impl_IsTreeLike_L1 m fu1 k24_1 = c53 := hJ1
    change TC _ _ _ _ (Hp w [.blk g0_0 29 [vm]]) [(1, (.pointer (some ⟨g0_0, 0, none⟩))), (4, (.int .i64 (m.length : Int))), (23, (.int .i64 ((((m.length : Int) * (m.length : Int)) * (m.length : Int)) * (m.length : Int)))), (24, (.int .i64 (k24_1 : Int)))]
    obtain ⟨mf1, rfl⟩ : ∃ m, fu1 = m + 1 := ⟨fu1 - 1, by omega⟩
    rw [F_impl_IsTreeLike_L1_s] at hL1
    refine TC.seq ?_
    refine TC.region ?_
    refine TL.op (yq (y_lss (ev_t rfl) (ev_t rfl))) rfl rfl rfl ?_
    refine TL.nil ?_
    refine TN.seq ?_
    refine TC.seq ?_
    refine TC.cond (b := decide ((k24_1 : Int) < (((m.length : Int) * (m.length : Int)) * (m.length : Int)) * (m.length : Int))) (ev_t rfl) (fun h55 => ?_) (fun h55 => ?_)
    · rw [bif_pos h55] at hL1
      have q56 := (of_decide_eq_true h55)
      have hdg := dig_lt (n := m.length) (k := k24_1) (by omega) (by omega)
      have hz1 := divb k24_1 m.length
      have hz2 := divb2 k24_1 m.length
      have hz3 := divb3 k24_1 m.length
      have hq1 := Nat.div_le_self k24_1 m.length
      have hq2 := Nat.div_le_self (k24_1 / m.length) m.length
      have hq3 := Nat.div_le_self (k24_1 / m.length / m.length) m.length
      have hd1 := hdg.1
      have hd2 := hdg.2.1
      have hd3 := hdg.2.2.1
      have hd4 := hdg.2.2.2
      have hr1 := hT.rows (k24_1 % m.length) hd1
      have hr2 := hT.rows (k24_1 / m.length % m.length) hd2
      have hr3 := hT.rows (k24_1 / m.length / m.length % m.length) hd3
      have hb0 := hT.el (k24_1 % m.length) (k24_1 / m.length % m.length)
      have hb1 := hT.el (k24_1 / m.length / m.length % m.length) (k24_1 / m.length / m.length / m.length)
      have hb2 := hT.el (k24_1 % m.length) (k24_1 / m.length / m.length % m.length)
      have hb3 := hT.el (k24_1 / m.length % m.length) (k24_1 / m.length / m.length / m.length)
      have hb4 := hT.el (k24_1 % m.length) (k24_1 / m.length / m.length / m.length)
      have hb5 := hT.el (k24_1 / m.length % m.length) (k24_1 / m.length / m.length % m.length)
      refine TC.skip ?_
      refine TN.seq ?_
      refine TC.seq ?_
      refine TC.block ?_
      refine TC.seq ?_
      refine TC.region ?_
      refine TL.op (yq (y_move (ev_t rfl))) rfl rfl rfl ?_
      refine TL.op (yq (y_assign (ev_t rfl))) rfl rfl rfl ?_
      refine TL.nil ?_
      refine TN.seq ?_
      refine TC.seq ?_
      refine TC.regionQ (by kernel_rfl) (by kernel_rfl) dr_hp ?_
      refine TQ.op (yq (y_move (ev_t rfl))) rfl rfl rfl ?_
      refine TQ.op (yq (y_move (ev_t rfl))) rfl rfl rfl ?_
      refine TQ.op (yq (y_rem (ev_t rfl) (ev_t rfl) (by first | omega | (simp only [Int.natCast_ediv] at *; omega)) (by first | omega | (simp only [Int.natCast_ediv] at *; omega)))) rfl rfl rfl ?_
      refine TQ.op (yq (y_move (ev_t rfl))) rfl rfl rfl ?_
      refine TQ.op (yq (y_move (ev_t rfl))) rfl rfl rfl ?_
      refine TQ.op (yq (y_quo (ev_t rfl) (ev_t rfl) (by first | omega | (simp only [Int.natCast_ediv] at *; omega)) (by first | omega | (simp only [Int.natCast_ediv] at *; omega)))) rfl rfl rfl ?_
      refine TQ.op (yq (y_move (ev_t rfl))) rfl rfl rfl ?_
      refine TQ.op (yq (y_rem (ev_t rfl) (ev_t rfl) (by first | omega | (simp only [Int.natCast_ediv] at *; omega)) (by first | omega | (simp only [Int.natCast_ediv] at *; omega)))) rfl rfl rfl ?_
      refine TQ.op (yq (y_move (ev_t rfl))) rfl rfl rfl ?_
      refine TQ.op (yq (y_move (ev_t rfl))) rfl rfl rfl ?_
      refine TQ.op (yq (y_quo (ev_t rfl) (ev_t rfl) (by first | omega | (simp only [Int.natCast_ediv] at *; omega)) (by first | omega | (simp only [Int.natCast_ediv] at *; omega)))) rfl rfl rfl ?_
      refine TQ.op (yq (y_move (ev_t rfl))) rfl rfl rfl ?_
      refine TQ.op (yq (y_quo (ev_t rfl) (ev_t rfl) (by first | omega | (simp only [Int.natCast_ediv] at *; omega)) (by first | omega | (simp only [Int.natCast_ediv] at *; omega)))) rfl rfl rfl ?_
      refine TQ.op (yq (y_move (ev_t rfl))) rfl rfl rfl ?_
      refine TQ.op (yq (y_rem (ev_t rfl) (ev_t rfl) (by first | omega | (simp only [Int.natCast_ediv] at *; omega)) (by first | omega | (simp only [Int.natCast_ediv] at *; omega)))) rfl rfl rfl ?_
      refine TQ.op (yq (y_move (ev_t rfl))) rfl rfl rfl ?_
      refine TQ.op (yq (y_move (ev_t rfl))) rfl rfl rfl ?_
      refine TQ.op (yq (y_quo (ev_t rfl) (ev_t rfl) (by first | omega | (simp only [Int.natCast_ediv] at *; omega)) (by first | omega | (simp only [Int.natCast_ediv] at *; omega)))) rfl rfl rfl ?_
      refine TQ.op (yq (y_move (ev_t rfl))) rfl rfl rfl ?_
      refine TQ.op (yq (y_quo (ev_t rfl) (ev_t rfl) (by first | omega | (simp only [Int.natCast_ediv] at *; omega)) (by first | omega | (simp only [Int.natCast_ediv] at *; omega)))) rfl rfl rfl ?_
      refine TQ.op (yq (y_move (ev_t rfl))) rfl rfl rfl ?_
      refine TQ.op (yq (y_quo (ev_t rfl) (ev_t rfl) (by first | omega | (simp only [Int.natCast_ediv] at *; omega)) (by first | omega | (simp only [Int.natCast_ediv] at *; omega)))) rfl rfl rfl ?_
      refine TQ.op (yq (y_assign (ev_t rfl))) rfl rfl rfl ?_
      refine TQ.op (yq (y_assign (ev_t rfl))) rfl rfl rfl ?_
      refine TQ.op (yq (y_assign (ev_t rfl))) rfl rfl rfl ?_
      refine TQ.op (yq (y_assign (ev_t rfl))) rfl rfl rfl ?_
      refine TQ.nil ?_
      refine TN.seq ?_
      refine TC.seq ?_
      refine TC.regionT 51 (by kernel_rfl) (by kernel_rfl) dr_hp ?_
      refine TQ.op (yq (y_fa (fa_29_0 g0_0) (ev_t rfl))) rfl rfl rfl ?_
      refine TQ.op (yq (y_ldb 0 (ev_t rfl) one_22 rfl rfl)) rfl rfl rfl ?_
      refine TQ.op (yq (y_move (ev_t rfl))) rfl rfl rfl ?_
      have hb57 : (k24_1 % m.length) < m.length := (by first | omega | (simp only [List.length_set, List.length_append, List.length_cons, List.length_nil, List.length_replicate]; omega) | (rw [sortI_length]; simp only [List.length_cons, List.length_nil]; omega))
      refine TQ.op (yq (y_idx (k := (k24_1 % m.length)) (ev_t rfl) (ev_t rfl) (by first | omega | simp) slT_22 (fun w hw => ((rii_arg hm) w hw).1) hb57)) rfl rfl rfl ?_
      have ha58 := hm.row (i := (k24_1 % m.length)) hb57
      refine TQ.op (yq (y_ldA (ev_t rfl) one_25 (rii_arg hm) hb57)) rfl rfl rfl ?_
      refine TQ.op (yq (y_move (ev_t rfl))) rfl rfl rfl ?_
      have hb59 : ((k24_1 / m.length) % m.length) < (m.getD (k24_1 % m.length) []).length := (by first | omega | (simp only [List.length_set, List.length_append, List.length_cons, List.length_nil, List.length_replicate]; omega) | (rw [sortI_length]; simp only [List.length_cons, List.length_nil]; omega))
      refine TQ.op (yq (y_idx (k := ((k24_1 / m.length) % m.length)) (ev_t rfl) (ev_t rfl) (by first | omega | simp) slT_25 (ri_arg ha58) hb59)) rfl rfl rfl ?_
      refine TQ.op (yq (y_ldi (ev_t rfl) one_3 (ri_arg ha58) hb59)) rfl rfl rfl ?_
      refine TQ.op (yq (y_fa (fa_29_0 g0_0) (ev_t rfl))) rfl rfl rfl ?_
      refine TQ.op (yq (y_ldb 0 (ev_t rfl) one_22 rfl rfl)) rfl rfl rfl ?_
      refine TQ.op (yq (y_move (ev_t rfl))) rfl rfl rfl ?_
      have hb60 : (((k24_1 / m.length) / m.length) % m.length) < m.length := (by first | omega | (simp only [List.length_set, List.length_append, List.length_cons, List.length_nil, List.length_replicate]; omega) | (rw [sortI_length]; simp only [List.length_cons, List.length_nil]; omega))
      refine TQ.op (yq (y_idx (k := (((k24_1 / m.length) / m.length) % m.length)) (ev_t rfl) (ev_t rfl) (by first | omega | simp) slT_22 (fun w hw => ((rii_arg hm) w hw).1) hb60)) rfl rfl rfl ?_
      have ha61 := hm.row (i := (((k24_1 / m.length) / m.length) % m.length)) hb60
      refine TQ.op (yq (y_ldA (ev_t rfl) one_25 (rii_arg hm) hb60)) rfl rfl rfl ?_
      refine TQ.op (yq (y_move (ev_t rfl))) rfl rfl rfl ?_
      have hb62 : (((k24_1 / m.length) / m.length) / m.length) < (m.getD (((k24_1 / m.length) / m.length) % m.length) []).length := (by first | omega | (simp only [List.length_set, List.length_append, List.length_cons, List.length_nil, List.length_replicate]; omega) | (rw [sortI_length]; simp only [List.length_cons, List.length_nil]; omega))
      refine TQ.op (yq (y_idx (k := (((k24_1 / m.length) / m.length) / m.length)) (ev_t rfl) (ev_t rfl) (by first | omega | simp) slT_25 (ri_arg ha61) hb62)) rfl rfl rfl ?_
      refine TQ.op (yq (y_ldi (ev_t rfl) one_3 (ri_arg ha61) hb62)) rfl rfl rfl ?_
      refine TQ.op (yq (y_add (ev_t rfl) (ev_t rfl) (by unfold In64; omega))) rfl rfl rfl ?_
      refine TQ.op (yq (y_fa (fa_29_0 g0_0) (ev_t rfl))) rfl rfl rfl ?_
      refine TQ.op (yq (y_ldb 0 (ev_t rfl) one_22 rfl rfl)) rfl rfl rfl ?_
      refine TQ.op (yq (y_move (ev_t rfl))) rfl rfl rfl ?_
      have hb63 : (k24_1 % m.length) < m.length := (by first | omega | (simp only [List.length_set, List.length_append, List.length_cons, List.length_nil, List.length_replicate]; omega) | (rw [sortI_length]; simp only [List.length_cons, List.length_nil]; omega))
      refine TQ.op (yq (y_idx (k := (k24_1 % m.length)) (ev_t rfl) (ev_t rfl) (by first | omega | simp) slT_22 (fun w hw => ((rii_arg hm) w hw).1) hb63)) rfl rfl rfl ?_
      have ha64 := hm.row (i := (k24_1 % m.length)) hb63
      refine TQ.op (yq (y_ldA (ev_t rfl) one_25 (rii_arg hm) hb63)) rfl rfl rfl ?_
      refine TQ.op (yq (y_move (ev_t rfl))) rfl rfl rfl ?_
      have hb65 : (((k24_1 / m.length) / m.length) % m.length) < (m.getD (k24_1 % m.length) []).length := (by first | omega | (simp only [List.length_set, List.length_append, List.length_cons, List.length_nil, List.length_replicate]; omega) | (rw [sortI_length]; simp only [List.length_cons, List.length_nil]; omega))
      refine TQ.op (yq (y_idx (k := (((k24_1 / m.length) / m.length) % m.length)) (ev_t rfl) (ev_t rfl) (by first | omega | simp) slT_25 (ri_arg ha64) hb65)) rfl rfl rfl ?_
      refine TQ.op (yq (y_ldi (ev_t rfl) one_3 (ri_arg ha64) hb65)) rfl rfl rfl ?_
      refine TQ.op (yq (y_fa (fa_29_0 g0_0) (ev_t rfl))) rfl rfl rfl ?_
      refine TQ.op (yq (y_ldb 0 (ev_t rfl) one_22 rfl rfl)) rfl rfl rfl ?_
      refine TQ.op (yq (y_move (ev_t rfl))) rfl rfl rfl ?_
      have hb66 : ((k24_1 / m.length) % m.length) < m.length := (by first | omega | (simp only [List.length_set, List.length_append, List.length_cons, List.length_nil, List.length_replicate]; omega) | (rw [sortI_length]; simp only [List.length_cons, List.length_nil]; omega))
      refine TQ.op (yq (y_idx (k := ((k24_1 / m.length) % m.length)) (ev_t rfl) (ev_t rfl) (by first | omega | simp) slT_22 (fun w hw => ((rii_arg hm) w hw).1) hb66)) rfl rfl rfl ?_
      have ha67 := hm.row (i := ((k24_1 / m.length) % m.length)) hb66
      refine TQ.op (yq (y_ldA (ev_t rfl) one_25 (rii_arg hm) hb66)) rfl rfl rfl ?_
      refine TQ.op (yq (y_move (ev_t rfl))) rfl rfl rfl ?_
      have hb68 : (((k24_1 / m.length) / m.length) / m.length) < (m.getD ((k24_1 / m.length) % m.length) []).length := (by first | omega | (simp only [List.length_set, List.length_append, List.length_cons, List.length_nil, List.length_replicate]; omega) | (rw [sortI_length]; simp only [List.length_cons, List.length_nil]; omega))
      refine TQ.op (yq (y_idx (k := (((k24_1 / m.length) / m.length) / m.length)) (ev_t rfl) (ev_t rfl) (by first | omega | simp) slT_25 (ri_arg ha67) hb68)) rfl rfl rfl ?_
      refine TQ.op (yq (y_ldi (ev_t rfl) one_3 (ri_arg ha67) hb68)) rfl rfl rfl ?_
      refine TQ.op (yq (y_add (ev_t rfl) (ev_t rfl) (by unfold In64; omega))) rfl rfl rfl ?_
      refine TQ.op (yq (y_fa (fa_29_0 g0_0) (ev_t rfl))) rfl rfl rfl ?_
      refine TQ.op (yq (y_ldb 0 (ev_t rfl) one_22 rfl rfl)) rfl rfl rfl ?_
      refine TQ.op (yq (y_move (ev_t rfl))) rfl rfl rfl ?_
      have hb69 : (k24_1 % m.length) < m.length := (by first | omega | (simp only [List.length_set, List.length_append, List.length_cons, List.length_nil, List.length_replicate]; omega) | (rw [sortI_length]; simp only [List.length_cons, List.length_nil]; omega))
      refine TQ.op (yq (y_idx (k := (k24_1 % m.length)) (ev_t rfl) (ev_t rfl) (by first | omega | simp) slT_22 (fun w hw => ((rii_arg hm) w hw).1) hb69)) rfl rfl rfl ?_
      have ha70 := hm.row (i := (k24_1 % m.length)) hb69
      refine TQ.op (yq (y_ldA (ev_t rfl) one_25 (rii_arg hm) hb69)) rfl rfl rfl ?_
      refine TQ.op (yq (y_move (ev_t rfl))) rfl rfl rfl ?_
      have hb71 : (((k24_1 / m.length) / m.length) / m.length) < (m.getD (k24_1 % m.length) []).length := (by first | omega | (simp only [List.length_set, List.length_append, List.length_cons, List.length_nil, List.length_replicate]; omega) | (rw [sortI_length]; simp only [List.length_cons, List.length_nil]; omega))
      refine TQ.op (yq (y_idx (k := (((k24_1 / m.length) / m.length) / m.length)) (ev_t rfl) (ev_t rfl) (by first | omega | simp) slT_25 (ri_arg ha70) hb71)) rfl rfl rfl ?_
      refine TQ.op (yq (y_ldi (ev_t rfl) one_3 (ri_arg ha70) hb71)) rfl rfl rfl ?_
      refine TQ.op (yq (y_fa (fa_29_0 g0_0) (ev_t rfl))) rfl rfl rfl ?_
      refine TQ.op (yq (y_ldb 0 (ev_t rfl) one_22 rfl rfl)) rfl rfl rfl ?_
      refine TQ.op (yq (y_move (ev_t rfl))) rfl rfl rfl ?_
      have hb72 : ((k24_1 / m.length) % m.length) < m.length := (by first | omega | (simp only [List.length_set, List.length_append, List.length_cons, List.length_nil, List.length_replicate]; omega) | (rw [sortI_length]; simp only [List.length_cons, List.length_nil]; omega))
      refine TQ.op (yq (y_idx (k := ((k24_1 / m.length) % m.length)) (ev_t rfl) (ev_t rfl) (by first | omega | simp) slT_22 (fun w hw => ((rii_arg hm) w hw).1) hb72)) rfl rfl rfl ?_
      have ha73 := hm.row (i := ((k24_1 / m.length) % m.length)) hb72
      refine TQ.op (yq (y_ldA (ev_t rfl) one_25 (rii_arg hm) hb72)) rfl rfl rfl ?_
      refine TQ.op (yq (y_move (ev_t rfl))) rfl rfl rfl ?_
      have hb74 : (((k24_1 / m.length) / m.length) % m.length) < (m.getD ((k24_1 / m.length) % m.length) []).length := (by first | omega | (simp only [List.length_set, List.length_append, List.length_cons, List.length_nil, List.length_replicate]; omega) | (rw [sortI_length]; simp only [List.length_cons, List.length_nil]; omega))
      refine TQ.op (yq (y_idx (k := (((k24_1 / m.length) / m.length) % m.length)) (ev_t rfl) (ev_t rfl) (by first | omega | simp) slT_25 (ri_arg ha73) hb74)) rfl rfl rfl ?_
      refine TQ.op (yq (y_ldi (ev_t rfl) one_3 (ri_arg ha73) hb74)) rfl rfl rfl ?_
      refine TQ.op (yq (y_add (ev_t rfl) (ev_t rfl) (by unfold In64; omega))) rfl rfl rfl ?_
      refine TQ.tail ?_
      refine TL.buildI (zs := [.tmp 65, .tmp 82, .tmp 99]) (qs := [((m.getD (k24_1 % m.length) []).getD ((k24_1 / m.length) % m.length) 0) + ((m.getD (((k24_1 / m.length) / m.length) % m.length) []).getD (((k24_1 / m.length) / m.length) / m.length) 0), ((m.getD (k24_1 % m.length) []).getD (((k24_1 / m.length) / m.length) % m.length) 0) + ((m.getD ((k24_1 / m.length) % m.length) []).getD (((k24_1 / m.length) / m.length) / m.length) 0), ((m.getD (k24_1 % m.length) []).getD (((k24_1 / m.length) / m.length) / m.length) 0) + ((m.getD ((k24_1 / m.length) % m.length) []).getD (((k24_1 / m.length) / m.length) % m.length) 0)]) slT_25 rfl ⟨(ev_t rfl), (ev_t rfl), (ev_t rfl), trivial⟩ rfl (by decide) rfl (fun v8_51 => ?_)
      refine TL.op (yq (y_assign (ev_t rfl))) rfl rfl rfl ?_
      refine TL.nil ?_
      refine TN.seq ?_
      refine TC.seq ?_
      refine TC.region ?_
      refine TL.op (yq (y_move (ev_t rfl))) rfl rfl rfl ?_
      refine TL.callm (ι := Unit) 0 (vs := [v8_51]) (fun _ => (.tuple #[])) (fun _ => rowI 3 v8_51 (sortI ([((m.getD (k24_1 % m.length) []).getD ((k24_1 / m.length) % m.length) 0) + ((m.getD (((k24_1 / m.length) / m.length) % m.length) []).getD (((k24_1 / m.length) / m.length) / m.length) 0), ((m.getD (k24_1 % m.length) []).getD (((k24_1 / m.length) / m.length) % m.length) 0) + ((m.getD ((k24_1 / m.length) % m.length) []).getD (((k24_1 / m.length) / m.length) / m.length) 0), ((m.getD (k24_1 % m.length) []).getD (((k24_1 / m.length) / m.length) / m.length) 0) + ((m.getD ((k24_1 / m.length) % m.length) []).getD (((k24_1 / m.length) / m.length) % m.length) 0)]))) en_92 ⟨(ev_t rfl), trivial⟩ rfl rfl (fun w1 fr1 hw => slices_Sort_ok w w1 fr1 v8_51 ([((m.getD (k24_1 % m.length) []).getD ((k24_1 / m.length) % m.length) 0) + ((m.getD (((k24_1 / m.length) / m.length) % m.length) []).getD (((k24_1 / m.length) / m.length) / m.length) 0), ((m.getD (k24_1 % m.length) []).getD (((k24_1 / m.length) / m.length) % m.length) 0) + ((m.getD ((k24_1 / m.length) % m.length) []).getD (((k24_1 / m.length) / m.length) / m.length) 0), ((m.getD (k24_1 % m.length) []).getD (((k24_1 / m.length) / m.length) / m.length) 0) + ((m.getD ((k24_1 / m.length) % m.length) []).getD (((k24_1 / m.length) / m.length) % m.length) 0)]) hw (by first | assumption | omega | grind)) (fun _ => ?_)
      refine TL.nil ?_
      refine TN.seq ?_
      refine TC.seq ?_
      refine TC.regionQ (by kernel_rfl) (by kernel_rfl) dr_hp ?_
      refine TQ.op (yq (y_move (ev_t rfl))) rfl rfl rfl ?_
      have hb75 : 1 < (sortI ([((m.getD (k24_1 % m.length) []).getD ((k24_1 / m.length) % m.length) 0) + ((m.getD (((k24_1 / m.length) / m.length) % m.length) []).getD (((k24_1 / m.length) / m.length) / m.length) 0), ((m.getD (k24_1 % m.length) []).getD (((k24_1 / m.length) / m.length) % m.length) 0) + ((m.getD ((k24_1 / m.length) % m.length) []).getD (((k24_1 / m.length) / m.length) / m.length) 0), ((m.getD (k24_1 % m.length) []).getD (((k24_1 / m.length) / m.length) / m.length) 0) + ((m.getD ((k24_1 / m.length) % m.length) []).getD (((k24_1 / m.length) / m.length) % m.length) 0)])).length := (by first | omega | (simp only [List.length_set, List.length_append, List.length_cons, List.length_nil, List.length_replicate]; omega) | (rw [sortI_length]; simp only [List.length_cons, List.length_nil]; omega))
      refine TQ.op (yq (y_idx (k := 1) (ev_t rfl) ev_c (by first | omega | simp) slT_25 (ri_row 0 rfl) hb75)) rfl rfl rfl ?_
      refine TQ.op (yq (y_ldi (ev_t rfl) one_3 (ri_row 0 rfl) hb75)) rfl rfl rfl ?_
      refine TQ.op (yq (y_move (ev_t rfl))) rfl rfl rfl ?_
      have hb76 : 2 < (sortI ([((m.getD (k24_1 % m.length) []).getD ((k24_1 / m.length) % m.length) 0) + ((m.getD (((k24_1 / m.length) / m.length) % m.length) []).getD (((k24_1 / m.length) / m.length) / m.length) 0), ((m.getD (k24_1 % m.length) []).getD (((k24_1 / m.length) / m.length) % m.length) 0) + ((m.getD ((k24_1 / m.length) % m.length) []).getD (((k24_1 / m.length) / m.length) / m.length) 0), ((m.getD (k24_1 % m.length) []).getD (((k24_1 / m.length) / m.length) / m.length) 0) + ((m.getD ((k24_1 / m.length) % m.length) []).getD (((k24_1 / m.length) / m.length) % m.length) 0)])).length := (by first | omega | (simp only [List.length_set, List.length_append, List.length_cons, List.length_nil, List.length_replicate]; omega) | (rw [sortI_length]; simp only [List.length_cons, List.length_nil]; omega))
      refine TQ.op (yq (y_idx (k := 2) (ev_t rfl) ev_c (by first | omega | simp) slT_25 (ri_row 0 rfl) hb76)) rfl rfl rfl ?_
      refine TQ.op (yq (y_ldi (ev_t rfl) one_3 (ri_row 0 rfl) hb76)) rfl rfl rfl ?_
      refine TQ.op (yq (y_neq (ev_t rfl) (ev_t rfl))) rfl rfl rfl ?_
      refine TQ.nil ?_
      refine TN.seq ?_
      refine TC.cond (b := !decide (((sortI ([((m.getD (k24_1 % m.length) []).getD ((k24_1 / m.length) % m.length) 0) + ((m.getD (((k24_1 / m.length) / m.length) % m.length) []).getD (((k24_1 / m.length) / m.length) / m.length) 0), ((m.getD (k24_1 % m.length) []).getD (((k24_1 / m.length) / m.length) % m.length) 0) + ((m.getD ((k24_1 / m.length) % m.length) []).getD (((k24_1 / m.length) / m.length) / m.length) 0), ((m.getD (k24_1 % m.length) []).getD (((k24_1 / m.length) / m.length) / m.length) 0) + ((m.getD ((k24_1 / m.length) % m.length) []).getD (((k24_1 / m.length) / m.length) % m.length) 0)])).getD 1 0) = ((sortI ([((m.getD (k24_1 % m.length) []).getD ((k24_1 / m.length) % m.length) 0) + ((m.getD (((k24_1 / m.length) / m.length) % m.length) []).getD (((k24_1 / m.length) / m.length) / m.length) 0), ((m.getD (k24_1 % m.length) []).getD (((k24_1 / m.length) / m.length) % m.length) 0) + ((m.getD ((k24_1 / m.length) % m.length) []).getD (((k24_1 / m.length) / m.length) / m.length) 0), ((m.getD (k24_1 % m.length) []).getD (((k24_1 / m.length) / m.length) / m.length) 0) + ((m.getD ((k24_1 / m.length) % m.length) []).getD (((k24_1 / m.length) / m.length) % m.length) 0)])).getD 2 0))) (ev_t rfl) (fun h77 => ?_) (fun h77 => ?_)
      · rw [bif_pos h77] at hL1
        have q78 := (of_decide_eq_false (not_t h77))
        refine TC.seq ?_
        refine TC.region ?_
        refine TL.op (yq (y_assign ev_c)) rfl rfl rfl ?_
        refine TL.op (yq (y_assign ev_c)) rfl rfl rfl ?_
        refine TL.nil ?_
        refine TN.seq ?_
        refine TC.ret ?_
        refine TN.blockR ?_
        refine TN.thenR ?_
        refine TN.thenR ?_
        rw [← hL1, elim_ret] at hF
        refine TN.blockR ?_
        refine TN.thenR ?_
        subst hF
        exact TN.ret2 rfl (ev_t rfl) (ev_t rfl) (fun w' hw => ⟨rfl, Hp.sublist hw (List.nil_sublist _)⟩)
      · rw [bif_neg h77] at hL1
        have q78 := (of_decide_eq_true (not_f h77))
        refine TC.skip ?_
        refine TN.blockN ?_
        refine TN.seq ?_
        refine TC.region ?_
        refine TL.op (yq (y_add (ev_t rfl) ev_c (by unfold In64; omega))) rfl rfl rfl ?_
        refine TL.op (yq (y_move (ev_t rfl))) rfl rfl rfl ?_
        refine TL.nil ?_
        exact TN.hand (mf1, (k24_1 + 1)) ⟨(by first | omega | (simp [-List.getD_eq_getElem?_getD] <;> omega)), (by omega), hL1⟩ (Nat.lt_succ_self _) ⟨rfl, rfl, rfl, rfl, trivial⟩ (fun w hw => Hp.sublist hw (.cons _ (.cons_cons _ .slnil)))
    · rw [bif_neg h55] at hL1
      have q56 := (of_decide_eq_false h55)
      refine TC.exit ?_
      refine TN.thenE ?_
      refine TN.thenE ?_
      rw [← hL1, elim_next] at hF
      try dsimp only at hF
      refine TN.blockH ?_
      refine TN.seq ?_
      refine TC.seq ?_
      refine TC.region ?_
      refine TL.op (yq (y_assign ev_c)) rfl rfl rfl ?_
      refine TL.op (yq (y_assign ev_c)) rfl rfl rfl ?_
      refine TL.nil ?_
      refine TN.seq ?_
      refine TC.ret ?_
      subst hF
      exact TN.ret2 rfl (ev_t rfl) (ev_t rfl) (fun w' hw => ⟨rfl, Hp.sublist hw (List.nil_sublist _)⟩)

set_option maxRecDepth 4000 in
set_option maxHeartbeats 1000000 in
theorem spec_IsTreeLike_ok (w : World) (vm : Value) (um : List Value) (m : List (List Int)) (hm : RII w vm um m)  :
    Calls Try.prog 47 ([(.agg #[vm])] : List Value).toArray w (Ret (.tuple #[(.bool ((F_spec_IsTreeLike m).1)), (.bool ((F_spec_IsTreeLike m).2))]) (Hp w [])) := by
  obtain ⟨rz, hF⟩ : ∃ rz, (F_spec_IsTreeLike m) = rz := ⟨_, rfl⟩
  rw [hF]
  unfold F_spec_IsTreeLike at hF
  have hlen_m := argT_len hm
  refine calls_tc Try.func47 rfl rfl rfl ?_
  change TC _ _ _ _ (Hp w []) [(0, (.agg #[vm]))]
  refine TC.seq ?_
  refine TC.region ?_
  refine TL.box (ev_t rfl) rfl (fun g0_0 => ?_)
  refine TL.op (yq (y_assign ev_c)) rfl rfl rfl ?_
  refine TL.op (yq (y_assign ev_c)) rfl rfl rfl ?_
  refine TL.nil ?_
  refine TN.seq ?_
  refine TC.seq ?_
  refine TC.seq ?_
  refine TC.region ?_
  refine TL.op (yq (y_ldagg (cs := [vm]) 0 (ev_t rfl) agg_29 rfl)) rfl rfl rfl ?_
  refine TL.op (y_call (vs := [(.agg #[vm])]) (v := (.bool (F_spec_l6Good m))) en_53 ⟨(ev_t rfl), trivial⟩ (fun w hw => spec_l6Good_ok w vm um m ((rii_arg hm) w hw))) rfl rfl rfl ?_
  refine TL.op (yq (y_not (ev_t rfl))) rfl rfl rfl ?_
  refine TL.nil ?_
  refine TN.seq ?_
  refine TC.cond (b := !(F_spec_l6Good m)) (ev_t rfl) (fun h47 => ?_) (fun h47 => ?_)
  · rw [bif_pos h47] at hF
    have q48 := (not_t h47)
    refine TC.seq ?_
    refine TC.region ?_
    refine TL.op (yq (y_assign ev_c)) rfl rfl rfl ?_
    refine TL.op (yq (y_assign ev_c)) rfl rfl rfl ?_
    refine TL.nil ?_
    refine TN.seq ?_
    refine TC.ret ?_
    refine TN.thenR ?_
    subst hF
    exact TN.ret2 rfl (ev_t rfl) (ev_t rfl) (fun w' hw => ⟨rfl, Hp.sublist hw (List.nil_sublist _)⟩)
  · rw [bif_neg h47] at hF
    have q48 := (l6Good_t (not_f h47))
    have hT := q48
    have hn6 := hT.n6
    have hn1 := hT.n1
    have hon := ord_n hT.n6
    have hon1 := hon.1
    have hon2 := hon.2
    have hol := ord_le m.length hT.n6
    refine TC.skip ?_
    refine TN.seq ?_
    refine TC.seq ?_
    refine TC.region ?_
    refine TL.op (yq (y_fa (fa_29_0 g0_0) (ev_t rfl))) rfl rfl rfl ?_
    refine TL.op (yq (y_ldb 0 (ev_t rfl) one_22 rfl rfl)) rfl rfl rfl ?_
    refine TL.op (yq (y_len (ev_t rfl) Try.underlying22 (fun w hw => ((fun w hw => ((rii_arg hm) w hw).1) w hw).ln))) rfl rfl rfl ?_
    refine TL.op (yq (y_assign (ev_t rfl))) rfl rfl rfl ?_
    refine TL.nil ?_
    refine TN.seq ?_
    refine TC.seq ?_
    refine TC.seq ?_
    refine TC.region ?_
    refine TL.op (yq (y_assign ev_c)) rfl rfl rfl ?_
    refine TL.nil ?_
    refine TN.seq ?_
    refine TC.block ?_
    obtain ⟨c49, hc50⟩ : ∃ c, F_spec_IsTreeLike_L1 m (((((((m.length : Int) * (m.length : Int)) * (m.length : Int)) * (m.length : Int)).toNat) - 0) + 1) 0 = c := ⟨_, rfl⟩
    rw [hc50] at hF
    refine TC.loop (ι := Nat × Nat) (fun (fu1, k5_1) => [(1, (.pointer (some ⟨g0_0, 0, none⟩))), (4, (.int .i64 (m.length : Int))), (5, (.int .i64 (k5_1 : Int)))]) (fun (fu1, k5_1) => Hp w [.blk g0_0 29 [vm]]) (fun (fu1, k5_1) => (k5_1 ≤ (((((m.length : Int) * (m.length : Int)) * (m.length : Int)) * (m.length : Int)).toNat)) ∧ (((((m.length : Int) * (m.length : Int)) * (m.length : Int)) * (m.length : Int)).toNat) - k5_1 < fu1 ∧ F_spec_IsTreeLike_L1 m fu1 k5_1 = c49) (fun (fu1, k5_1) => fu1) (((((((m.length : Int) * (m.length : Int)) * (m.length : Int)) * (m.length : Int)).toNat) - 0) + 1, 0) ⟨(by first | omega | (simp [-List.getD_eq_getElem?_getD] <;> omega)), (by omega), hc50⟩ ⟨rfl, rfl, rfl, trivial⟩ (fun w hw => hw) ?_
    rintro ⟨fu1, k5_1⟩ hJ1
    obtain ⟨hi1_0, hmu1, hL1⟩ : (k5_1 ≤ (((((m.length : Int) * (m.length : Int)) * (m.length : Int)) * (m.length : Int)).toNat)) ∧ (((((m.length : Int) * (m.length : Int)) * (m.length : Int)) * (m.length : Int)).toNat) - k5_1 < fu1 ∧ F_spec_IsTreeLike_L1 m fu1 k5_1 = c49 := hJ1
    change TC _ _ _ _ (Hp w [.blk g0_0 29 [vm]]) [(1, (.pointer (some ⟨g0_0, 0, none⟩))), (4, (.int .i64 (m.length : Int))), (5, (.int .i64 (k5_1 : Int)))]
    obtain ⟨mf1, rfl⟩ : ∃ m, fu1 = m + 1 := ⟨fu1 - 1, by omega⟩
    rw [F_spec_IsTreeLike_L1_s] at hL1
    refine TC.seq ?_
    refine TC.seq ?_
    refine TC.region ?_
    refine TL.op (yq (y_move (ev_t rfl))) rfl rfl rfl ?_
    refine TL.op (yq (y_move (ev_t rfl))) rfl rfl rfl ?_
    refine TL.op (yq (y_move (ev_t rfl))) rfl rfl rfl ?_
    refine TL.op (yq (y_mul (ev_t rfl) (ev_t rfl) (by unfold In64; omega))) rfl rfl rfl ?_
    refine TL.op (yq (y_move (ev_t rfl))) rfl rfl rfl ?_
    refine TL.op (yq (y_mul (ev_t rfl) (ev_t rfl) (by unfold In64; omega))) rfl rfl rfl ?_
    refine TL.op (yq (y_move (ev_t rfl))) rfl rfl rfl ?_
    refine TL.op (yq (y_mul (ev_t rfl) (ev_t rfl) (by unfold In64; omega))) rfl rfl rfl ?_
    refine TL.op (yq (y_lss (ev_t rfl) (ev_t rfl))) rfl rfl rfl ?_
    refine TL.nil ?_
    refine TN.seq ?_
    refine TC.cond (b := decide ((k5_1 : Int) < (((m.length : Int) * (m.length : Int)) * (m.length : Int)) * (m.length : Int))) (ev_t rfl) (fun h51 => ?_) (fun h51 => ?_)
    · rw [bif_pos h51] at hL1
      have q52 := (of_decide_eq_true h51)
      have hdg := dig_lt (n := m.length) (k := k5_1) (by omega) (by omega)
      have hz1 := divb k5_1 m.length
      have hz2 := divb2 k5_1 m.length
      have hz3 := divb3 k5_1 m.length
      have hq1 := Nat.div_le_self k5_1 m.length
      have hq2 := Nat.div_le_self (k5_1 / m.length) m.length
      have hq3 := Nat.div_le_self (k5_1 / m.length / m.length) m.length
      have hd1 := hdg.1
      have hd2 := hdg.2.1
      have hd3 := hdg.2.2.1
      have hd4 := hdg.2.2.2
      have hr1 := hT.rows (k5_1 % m.length) hd1
      have hr2 := hT.rows (k5_1 / m.length % m.length) hd2
      have hr3 := hT.rows (k5_1 / m.length / m.length % m.length) hd3
      have hb0 := hT.el (k5_1 % m.length) (k5_1 / m.length % m.length)
      have hb1 := hT.el (k5_1 / m.length / m.length % m.length) (k5_1 / m.length / m.length / m.length)
      have hb2 := hT.el (k5_1 % m.length) (k5_1 / m.length / m.length % m.length)
      have hb3 := hT.el (k5_1 / m.length % m.length) (k5_1 / m.length / m.length / m.length)
      have hb4 := hT.el (k5_1 % m.length) (k5_1 / m.length / m.length / m.length)
      have hb5 := hT.el (k5_1 / m.length % m.length) (k5_1 / m.length / m.length % m.length)
      refine TC.skip ?_
      refine TN.seq ?_
      refine TC.seq ?_
      refine TC.block ?_
      refine TC.seq ?_
      refine TC.regionQ (by kernel_rfl) (by kernel_rfl) dr_hp ?_
      refine TQ.op (yq (y_move (ev_t rfl))) rfl rfl rfl ?_
      refine TQ.op (yq (y_move (ev_t rfl))) rfl rfl rfl ?_
      refine TQ.op (yq (y_rem (ev_t rfl) (ev_t rfl) (by first | omega | (simp only [Int.natCast_ediv] at *; omega)) (by first | omega | (simp only [Int.natCast_ediv] at *; omega)))) rfl rfl rfl ?_
      refine TQ.op (yq (y_move (ev_t rfl))) rfl rfl rfl ?_
      refine TQ.op (yq (y_move (ev_t rfl))) rfl rfl rfl ?_
      refine TQ.op (yq (y_quo (ev_t rfl) (ev_t rfl) (by first | omega | (simp only [Int.natCast_ediv] at *; omega)) (by first | omega | (simp only [Int.natCast_ediv] at *; omega)))) rfl rfl rfl ?_
      refine TQ.op (yq (y_move (ev_t rfl))) rfl rfl rfl ?_
      refine TQ.op (yq (y_rem (ev_t rfl) (ev_t rfl) (by first | omega | (simp only [Int.natCast_ediv] at *; omega)) (by first | omega | (simp only [Int.natCast_ediv] at *; omega)))) rfl rfl rfl ?_
      refine TQ.op (yq (y_move (ev_t rfl))) rfl rfl rfl ?_
      refine TQ.op (yq (y_move (ev_t rfl))) rfl rfl rfl ?_
      refine TQ.op (yq (y_quo (ev_t rfl) (ev_t rfl) (by first | omega | (simp only [Int.natCast_ediv] at *; omega)) (by first | omega | (simp only [Int.natCast_ediv] at *; omega)))) rfl rfl rfl ?_
      refine TQ.op (yq (y_move (ev_t rfl))) rfl rfl rfl ?_
      refine TQ.op (yq (y_quo (ev_t rfl) (ev_t rfl) (by first | omega | (simp only [Int.natCast_ediv] at *; omega)) (by first | omega | (simp only [Int.natCast_ediv] at *; omega)))) rfl rfl rfl ?_
      refine TQ.op (yq (y_move (ev_t rfl))) rfl rfl rfl ?_
      refine TQ.op (yq (y_rem (ev_t rfl) (ev_t rfl) (by first | omega | (simp only [Int.natCast_ediv] at *; omega)) (by first | omega | (simp only [Int.natCast_ediv] at *; omega)))) rfl rfl rfl ?_
      refine TQ.op (yq (y_move (ev_t rfl))) rfl rfl rfl ?_
      refine TQ.op (yq (y_move (ev_t rfl))) rfl rfl rfl ?_
      refine TQ.op (yq (y_quo (ev_t rfl) (ev_t rfl) (by first | omega | (simp only [Int.natCast_ediv] at *; omega)) (by first | omega | (simp only [Int.natCast_ediv] at *; omega)))) rfl rfl rfl ?_
      refine TQ.op (yq (y_move (ev_t rfl))) rfl rfl rfl ?_
      refine TQ.op (yq (y_quo (ev_t rfl) (ev_t rfl) (by first | omega | (simp only [Int.natCast_ediv] at *; omega)) (by first | omega | (simp only [Int.natCast_ediv] at *; omega)))) rfl rfl rfl ?_
      refine TQ.op (yq (y_move (ev_t rfl))) rfl rfl rfl ?_
      refine TQ.op (yq (y_quo (ev_t rfl) (ev_t rfl) (by first | omega | (simp only [Int.natCast_ediv] at *; omega)) (by first | omega | (simp only [Int.natCast_ediv] at *; omega)))) rfl rfl rfl ?_
      refine TQ.op (yq (y_assign (ev_t rfl))) rfl rfl rfl ?_
      refine TQ.op (yq (y_assign (ev_t rfl))) rfl rfl rfl ?_
      refine TQ.op (yq (y_assign (ev_t rfl))) rfl rfl rfl ?_
      refine TQ.op (yq (y_assign (ev_t rfl))) rfl rfl rfl ?_
      refine TQ.nil ?_
      refine TN.seq ?_
      refine TC.seq ?_
      refine TC.regionQ (by kernel_rfl) (by kernel_rfl) dr_hp ?_
      refine TQ.op (yq (y_fa (fa_29_0 g0_0) (ev_t rfl))) rfl rfl rfl ?_
      refine TQ.op (yq (y_ldb 0 (ev_t rfl) one_22 rfl rfl)) rfl rfl rfl ?_
      refine TQ.op (yq (y_move (ev_t rfl))) rfl rfl rfl ?_
      have hb53 : (k5_1 % m.length) < m.length := (by first | omega | (simp only [List.length_set, List.length_append, List.length_cons, List.length_nil, List.length_replicate]; omega) | (rw [sortI_length]; simp only [List.length_cons, List.length_nil]; omega))
      refine TQ.op (yq (y_idx (k := (k5_1 % m.length)) (ev_t rfl) (ev_t rfl) (by first | omega | simp) slT_22 (fun w hw => ((rii_arg hm) w hw).1) hb53)) rfl rfl rfl ?_
      have ha54 := hm.row (i := (k5_1 % m.length)) hb53
      refine TQ.op (yq (y_ldA (ev_t rfl) one_25 (rii_arg hm) hb53)) rfl rfl rfl ?_
      refine TQ.op (yq (y_move (ev_t rfl))) rfl rfl rfl ?_
      have hb55 : ((k5_1 / m.length) % m.length) < (m.getD (k5_1 % m.length) []).length := (by first | omega | (simp only [List.length_set, List.length_append, List.length_cons, List.length_nil, List.length_replicate]; omega) | (rw [sortI_length]; simp only [List.length_cons, List.length_nil]; omega))
      refine TQ.op (yq (y_idx (k := ((k5_1 / m.length) % m.length)) (ev_t rfl) (ev_t rfl) (by first | omega | simp) slT_25 (ri_arg ha54) hb55)) rfl rfl rfl ?_
      refine TQ.op (yq (y_ldi (ev_t rfl) one_3 (ri_arg ha54) hb55)) rfl rfl rfl ?_
      refine TQ.op (yq (y_fa (fa_29_0 g0_0) (ev_t rfl))) rfl rfl rfl ?_
      refine TQ.op (yq (y_ldb 0 (ev_t rfl) one_22 rfl rfl)) rfl rfl rfl ?_
      refine TQ.op (yq (y_move (ev_t rfl))) rfl rfl rfl ?_
      have hb56 : (((k5_1 / m.length) / m.length) % m.length) < m.length := (by first | omega | (simp only [List.length_set, List.length_append, List.length_cons, List.length_nil, List.length_replicate]; omega) | (rw [sortI_length]; simp only [List.length_cons, List.length_nil]; omega))
      refine TQ.op (yq (y_idx (k := (((k5_1 / m.length) / m.length) % m.length)) (ev_t rfl) (ev_t rfl) (by first | omega | simp) slT_22 (fun w hw => ((rii_arg hm) w hw).1) hb56)) rfl rfl rfl ?_
      have ha57 := hm.row (i := (((k5_1 / m.length) / m.length) % m.length)) hb56
      refine TQ.op (yq (y_ldA (ev_t rfl) one_25 (rii_arg hm) hb56)) rfl rfl rfl ?_
      refine TQ.op (yq (y_move (ev_t rfl))) rfl rfl rfl ?_
      have hb58 : (((k5_1 / m.length) / m.length) / m.length) < (m.getD (((k5_1 / m.length) / m.length) % m.length) []).length := (by first | omega | (simp only [List.length_set, List.length_append, List.length_cons, List.length_nil, List.length_replicate]; omega) | (rw [sortI_length]; simp only [List.length_cons, List.length_nil]; omega))
      refine TQ.op (yq (y_idx (k := (((k5_1 / m.length) / m.length) / m.length)) (ev_t rfl) (ev_t rfl) (by first | omega | simp) slT_25 (ri_arg ha57) hb58)) rfl rfl rfl ?_
      refine TQ.op (yq (y_ldi (ev_t rfl) one_3 (ri_arg ha57) hb58)) rfl rfl rfl ?_
      refine TQ.op (yq (y_add (ev_t rfl) (ev_t rfl) (by unfold In64; omega))) rfl rfl rfl ?_
      refine TQ.op (yq (y_fa (fa_29_0 g0_0) (ev_t rfl))) rfl rfl rfl ?_
      refine TQ.op (yq (y_ldb 0 (ev_t rfl) one_22 rfl rfl)) rfl rfl rfl ?_
      refine TQ.op (yq (y_move (ev_t rfl))) rfl rfl rfl ?_
      have hb59 : (k5_1 % m.length) < m.length := (by first | omega | (simp only [List.length_set, List.length_append, List.length_cons, List.length_nil, List.length_replicate]; omega) | (rw [sortI_length]; simp only [List.length_cons, List.length_nil]; omega))
      refine TQ.op (yq (y_idx (k := (k5_1 % m.length)) (ev_t rfl) (ev_t rfl) (by first | omega | simp) slT_22 (fun w hw => ((rii_arg hm) w hw).1) hb59)) rfl rfl rfl ?_
      have ha60 := hm.row (i := (k5_1 % m.length)) hb59
      refine TQ.op (yq (y_ldA (ev_t rfl) one_25 (rii_arg hm) hb59)) rfl rfl rfl ?_
      refine TQ.op (yq (y_move (ev_t rfl))) rfl rfl rfl ?_
      have hb61 : (((k5_1 / m.length) / m.length) % m.length) < (m.getD (k5_1 % m.length) []).length := (by first | omega | (simp only [List.length_set, List.length_append, List.length_cons, List.length_nil, List.length_replicate]; omega) | (rw [sortI_length]; simp only [List.length_cons, List.length_nil]; omega))
      refine TQ.op (yq (y_idx (k := (((k5_1 / m.length) / m.length) % m.length)) (ev_t rfl) (ev_t rfl) (by first | omega | simp) slT_25 (ri_arg ha60) hb61)) rfl rfl rfl ?_
      refine TQ.op (yq (y_ldi (ev_t rfl) one_3 (ri_arg ha60) hb61)) rfl rfl rfl ?_
      refine TQ.op (yq (y_fa (fa_29_0 g0_0) (ev_t rfl))) rfl rfl rfl ?_
      refine TQ.op (yq (y_ldb 0 (ev_t rfl) one_22 rfl rfl)) rfl rfl rfl ?_
      refine TQ.op (yq (y_move (ev_t rfl))) rfl rfl rfl ?_
      have hb62 : ((k5_1 / m.length) % m.length) < m.length := (by first | omega | (simp only [List.length_set, List.length_append, List.length_cons, List.length_nil, List.length_replicate]; omega) | (rw [sortI_length]; simp only [List.length_cons, List.length_nil]; omega))
      refine TQ.op (yq (y_idx (k := ((k5_1 / m.length) % m.length)) (ev_t rfl) (ev_t rfl) (by first | omega | simp) slT_22 (fun w hw => ((rii_arg hm) w hw).1) hb62)) rfl rfl rfl ?_
      have ha63 := hm.row (i := ((k5_1 / m.length) % m.length)) hb62
      refine TQ.op (yq (y_ldA (ev_t rfl) one_25 (rii_arg hm) hb62)) rfl rfl rfl ?_
      refine TQ.op (yq (y_move (ev_t rfl))) rfl rfl rfl ?_
      have hb64 : (((k5_1 / m.length) / m.length) / m.length) < (m.getD ((k5_1 / m.length) % m.length) []).length := (by first | omega | (simp only [List.length_set, List.length_append, List.length_cons, List.length_nil, List.length_replicate]; omega) | (rw [sortI_length]; simp only [List.length_cons, List.length_nil]; omega))
      refine TQ.op (yq (y_idx (k := (((k5_1 / m.length) / m.length) / m.length)) (ev_t rfl) (ev_t rfl) (by first | omega | simp) slT_25 (ri_arg ha63) hb64)) rfl rfl rfl ?_
      refine TQ.op (yq (y_ldi (ev_t rfl) one_3 (ri_arg ha63) hb64)) rfl rfl rfl ?_
      refine TQ.op (yq (y_add (ev_t rfl) (ev_t rfl) (by unfold In64; omega))) rfl rfl rfl ?_
      refine TQ.op (yq (y_fa (fa_29_0 g0_0) (ev_t rfl))) rfl rfl rfl ?_
      refine TQ.op (yq (y_ldb 0 (ev_t rfl) one_22 rfl rfl)) rfl rfl rfl ?_
      refine TQ.op (yq (y_move (ev_t rfl))) rfl rfl rfl ?_
      have hb65 : (k5_1 % m.length) < m.length := (by first | omega | (simp only [List.length_set, List.length_append, List.length_cons, List.length_nil, List.length_replicate]; omega) | (rw [sortI_length]; simp only [List.length_cons, List.length_nil]; omega))
      refine TQ.op (yq (y_idx (k := (k5_1 % m.length)) (ev_t rfl) (ev_t rfl) (by first | omega | simp) slT_22 (fun w hw => ((rii_arg hm) w hw).1) hb65)) rfl rfl rfl ?_
      have ha66 := hm.row (i := (k5_1 % m.length)) hb65
      refine TQ.op (yq (y_ldA (ev_t rfl) one_25 (rii_arg hm) hb65)) rfl rfl rfl ?_
      refine TQ.op (yq (y_move (ev_t rfl))) rfl rfl rfl ?_
      have hb67 : (((k5_1 / m.length) / m.length) / m.length) < (m.getD (k5_1 % m.length) []).length := (by first | omega | (simp only [List.length_set, List.length_append, List.length_cons, List.length_nil, List.length_replicate]; omega) | (rw [sortI_length]; simp only [List.length_cons, List.length_nil]; omega))
      refine TQ.op (yq (y_idx (k := (((k5_1 / m.length) / m.length) / m.length)) (ev_t rfl) (ev_t rfl) (by first | omega | simp) slT_25 (ri_arg ha66) hb67)) rfl rfl rfl ?_
      refine TQ.op (yq (y_ldi (ev_t rfl) one_3 (ri_arg ha66) hb67)) rfl rfl rfl ?_
      refine TQ.op (yq (y_fa (fa_29_0 g0_0) (ev_t rfl))) rfl rfl rfl ?_
      refine TQ.op (yq (y_ldb 0 (ev_t rfl) one_22 rfl rfl)) rfl rfl rfl ?_
      refine TQ.op (yq (y_move (ev_t rfl))) rfl rfl rfl ?_
      have hb68 : ((k5_1 / m.length) % m.length) < m.length := (by first | omega | (simp only [List.length_set, List.length_append, List.length_cons, List.length_nil, List.length_replicate]; omega) | (rw [sortI_length]; simp only [List.length_cons, List.length_nil]; omega))
      refine TQ.op (yq (y_idx (k := ((k5_1 / m.length) % m.length)) (ev_t rfl) (ev_t rfl) (by first | omega | simp) slT_22 (fun w hw => ((rii_arg hm) w hw).1) hb68)) rfl rfl rfl ?_
      have ha69 := hm.row (i := ((k5_1 / m.length) % m.length)) hb68
      refine TQ.op (yq (y_ldA (ev_t rfl) one_25 (rii_arg hm) hb68)) rfl rfl rfl ?_
      refine TQ.op (yq (y_move (ev_t rfl))) rfl rfl rfl ?_
      have hb70 : (((k5_1 / m.length) / m.length) % m.length) < (m.getD ((k5_1 / m.length) % m.length) []).length := (by first | omega | (simp only [List.length_set, List.length_append, List.length_cons, List.length_nil, List.length_replicate]; omega) | (rw [sortI_length]; simp only [List.length_cons, List.length_nil]; omega))
      refine TQ.op (yq (y_idx (k := (((k5_1 / m.length) / m.length) % m.length)) (ev_t rfl) (ev_t rfl) (by first | omega | simp) slT_25 (ri_arg ha69) hb70)) rfl rfl rfl ?_
      refine TQ.op (yq (y_ldi (ev_t rfl) one_3 (ri_arg ha69) hb70)) rfl rfl rfl ?_
      refine TQ.op (yq (y_add (ev_t rfl) (ev_t rfl) (by unfold In64; omega))) rfl rfl rfl ?_
      refine TQ.op (yq (y_assign (ev_t rfl))) rfl rfl rfl ?_
      refine TQ.op (yq (y_assign (ev_t rfl))) rfl rfl rfl ?_
      refine TQ.op (yq (y_assign (ev_t rfl))) rfl rfl rfl ?_
      refine TQ.nil ?_
      refine TN.seq ?_
      refine TC.seq ?_
      refine TC.region ?_
      refine TL.op (yq (y_move (ev_t rfl))) rfl rfl rfl ?_
      refine TL.op (yq (y_move (ev_t rfl))) rfl rfl rfl ?_
      refine TL.op (yq (y_move (ev_t rfl))) rfl rfl rfl ?_
      refine TL.op (y_call (vs := [(.int .i64 (((m.getD (k5_1 % m.length) []).getD (((k5_1 / m.length) / m.length) % m.length) 0) + ((m.getD ((k5_1 / m.length) % m.length) []).getD (((k5_1 / m.length) / m.length) / m.length) 0))), (.int .i64 (((m.getD (k5_1 % m.length) []).getD (((k5_1 / m.length) / m.length) / m.length) 0) + ((m.getD ((k5_1 / m.length) % m.length) []).getD (((k5_1 / m.length) / m.length) % m.length) 0)))]) (v := (.int .i64 (F_spec_l1Most (((m.getD (k5_1 % m.length) []).getD (((k5_1 / m.length) / m.length) % m.length) 0) + ((m.getD ((k5_1 / m.length) % m.length) []).getD (((k5_1 / m.length) / m.length) / m.length) 0)) (((m.getD (k5_1 % m.length) []).getD (((k5_1 / m.length) / m.length) / m.length) 0) + ((m.getD ((k5_1 / m.length) % m.length) []).getD (((k5_1 / m.length) / m.length) % m.length) 0))))) en_57 ⟨(ev_t rfl), (ev_t rfl), trivial⟩ (fun w hw => spec_l1Most_ok w (((m.getD (k5_1 % m.length) []).getD (((k5_1 / m.length) / m.length) % m.length) 0) + ((m.getD ((k5_1 / m.length) % m.length) []).getD (((k5_1 / m.length) / m.length) / m.length) 0)) (((m.getD (k5_1 % m.length) []).getD (((k5_1 / m.length) / m.length) / m.length) 0) + ((m.getD ((k5_1 / m.length) % m.length) []).getD (((k5_1 / m.length) / m.length) % m.length) 0)))) rfl rfl rfl ?_
      refine TL.op (yq (y_gtr (ev_t rfl) (ev_t rfl))) rfl rfl rfl ?_
      refine TL.op (yq (y_move (ev_t rfl))) rfl rfl rfl ?_
      refine TL.opw (w_f rfl rfl rfl) (fun hg => yq (y_move (ev_t rfl))) rfl rfl ?_
      refine TL.opw (w_f rfl rfl rfl) (fun hg => yq (y_move (ev_t rfl))) rfl rfl ?_
      refine TL.opw (w_f rfl rfl rfl) (fun hg => yq (y_move (ev_t rfl))) rfl rfl ?_
      refine TL.opw (w_f rfl rfl rfl) (fun hg => y_call (vs := [(.int .i64 (((m.getD (k5_1 % m.length) []).getD ((k5_1 / m.length) % m.length) 0) + ((m.getD (((k5_1 / m.length) / m.length) % m.length) []).getD (((k5_1 / m.length) / m.length) / m.length) 0))), (.int .i64 (((m.getD (k5_1 % m.length) []).getD (((k5_1 / m.length) / m.length) / m.length) 0) + ((m.getD ((k5_1 / m.length) % m.length) []).getD (((k5_1 / m.length) / m.length) % m.length) 0)))]) (v := (.int .i64 (F_spec_l1Most (((m.getD (k5_1 % m.length) []).getD ((k5_1 / m.length) % m.length) 0) + ((m.getD (((k5_1 / m.length) / m.length) % m.length) []).getD (((k5_1 / m.length) / m.length) / m.length) 0)) (((m.getD (k5_1 % m.length) []).getD (((k5_1 / m.length) / m.length) / m.length) 0) + ((m.getD ((k5_1 / m.length) % m.length) []).getD (((k5_1 / m.length) / m.length) % m.length) 0))))) en_57 ⟨(ev_g rfl hg), (ev_g rfl hg), trivial⟩ (fun w hw => spec_l1Most_ok w (((m.getD (k5_1 % m.length) []).getD ((k5_1 / m.length) % m.length) 0) + ((m.getD (((k5_1 / m.length) / m.length) % m.length) []).getD (((k5_1 / m.length) / m.length) / m.length) 0)) (((m.getD (k5_1 % m.length) []).getD (((k5_1 / m.length) / m.length) / m.length) 0) + ((m.getD ((k5_1 / m.length) % m.length) []).getD (((k5_1 / m.length) / m.length) % m.length) 0)))) rfl rfl ?_
      refine TL.opw (w_f rfl rfl rfl) (fun hg => yq (y_gtr (ev_g rfl hg) (ev_g rfl hg))) rfl rfl ?_
      refine TL.op (yq (y_or (ev_t rfl) (fun hq => (ev_g rfl hq)))) rfl rfl rfl ?_
      refine TL.op (yq (y_move (ev_t rfl))) rfl rfl rfl ?_
      refine TL.opw (w_f rfl rfl rfl) (fun hg => yq (y_move (ev_t rfl))) rfl rfl ?_
      refine TL.opw (w_f rfl rfl rfl) (fun hg => yq (y_move (ev_t rfl))) rfl rfl ?_
      refine TL.opw (w_f rfl rfl rfl) (fun hg => yq (y_move (ev_t rfl))) rfl rfl ?_
      refine TL.opw (w_f rfl rfl rfl) (fun hg => y_call (vs := [(.int .i64 (((m.getD (k5_1 % m.length) []).getD ((k5_1 / m.length) % m.length) 0) + ((m.getD (((k5_1 / m.length) / m.length) % m.length) []).getD (((k5_1 / m.length) / m.length) / m.length) 0))), (.int .i64 (((m.getD (k5_1 % m.length) []).getD (((k5_1 / m.length) / m.length) % m.length) 0) + ((m.getD ((k5_1 / m.length) % m.length) []).getD (((k5_1 / m.length) / m.length) / m.length) 0)))]) (v := (.int .i64 (F_spec_l1Most (((m.getD (k5_1 % m.length) []).getD ((k5_1 / m.length) % m.length) 0) + ((m.getD (((k5_1 / m.length) / m.length) % m.length) []).getD (((k5_1 / m.length) / m.length) / m.length) 0)) (((m.getD (k5_1 % m.length) []).getD (((k5_1 / m.length) / m.length) % m.length) 0) + ((m.getD ((k5_1 / m.length) % m.length) []).getD (((k5_1 / m.length) / m.length) / m.length) 0))))) en_57 ⟨(ev_g rfl hg), (ev_g rfl hg), trivial⟩ (fun w hw => spec_l1Most_ok w (((m.getD (k5_1 % m.length) []).getD ((k5_1 / m.length) % m.length) 0) + ((m.getD (((k5_1 / m.length) / m.length) % m.length) []).getD (((k5_1 / m.length) / m.length) / m.length) 0)) (((m.getD (k5_1 % m.length) []).getD (((k5_1 / m.length) / m.length) % m.length) 0) + ((m.getD ((k5_1 / m.length) % m.length) []).getD (((k5_1 / m.length) / m.length) / m.length) 0)))) rfl rfl ?_
      refine TL.opw (w_f rfl rfl rfl) (fun hg => yq (y_gtr (ev_g rfl hg) (ev_g rfl hg))) rfl rfl ?_
      refine TL.op (yq (y_or (ev_t rfl) (fun hq => (ev_g rfl hq)))) rfl rfl rfl ?_
      refine TL.nil ?_
      refine TN.seq ?_
      refine TC.cond (b := (((decide ((F_spec_l1Most (((m.getD (k5_1 % m.length) []).getD (((k5_1 / m.length) / m.length) % m.length) 0) + ((m.getD ((k5_1 / m.length) % m.length) []).getD (((k5_1 / m.length) / m.length) / m.length) 0)) (((m.getD (k5_1 % m.length) []).getD (((k5_1 / m.length) / m.length) / m.length) 0) + ((m.getD ((k5_1 / m.length) % m.length) []).getD (((k5_1 / m.length) / m.length) % m.length) 0))) < ((m.getD (k5_1 % m.length) []).getD ((k5_1 / m.length) % m.length) 0) + ((m.getD (((k5_1 / m.length) / m.length) % m.length) []).getD (((k5_1 / m.length) / m.length) / m.length) 0))) || (decide ((F_spec_l1Most (((m.getD (k5_1 % m.length) []).getD ((k5_1 / m.length) % m.length) 0) + ((m.getD (((k5_1 / m.length) / m.length) % m.length) []).getD (((k5_1 / m.length) / m.length) / m.length) 0)) (((m.getD (k5_1 % m.length) []).getD (((k5_1 / m.length) / m.length) / m.length) 0) + ((m.getD ((k5_1 / m.length) % m.length) []).getD (((k5_1 / m.length) / m.length) % m.length) 0))) < ((m.getD (k5_1 % m.length) []).getD (((k5_1 / m.length) / m.length) % m.length) 0) + ((m.getD ((k5_1 / m.length) % m.length) []).getD (((k5_1 / m.length) / m.length) / m.length) 0)))) || (decide ((F_spec_l1Most (((m.getD (k5_1 % m.length) []).getD ((k5_1 / m.length) % m.length) 0) + ((m.getD (((k5_1 / m.length) / m.length) % m.length) []).getD (((k5_1 / m.length) / m.length) / m.length) 0)) (((m.getD (k5_1 % m.length) []).getD (((k5_1 / m.length) / m.length) % m.length) 0) + ((m.getD ((k5_1 / m.length) % m.length) []).getD (((k5_1 / m.length) / m.length) / m.length) 0))) < ((m.getD (k5_1 % m.length) []).getD (((k5_1 / m.length) / m.length) / m.length) 0) + ((m.getD ((k5_1 / m.length) % m.length) []).getD (((k5_1 / m.length) / m.length) % m.length) 0))))) (ev_t rfl) (fun h71 => ?_) (fun h71 => ?_)
      · rw [bif_pos h71] at hL1
        have q72 := ((or_t h71).imp (fun h => ((or_t h).imp (fun h => (of_decide_eq_true h)) (fun h => (of_decide_eq_true h)))) (fun h => (of_decide_eq_true h)))
        refine TC.seq ?_
        refine TC.region ?_
        refine TL.op (yq (y_assign ev_c)) rfl rfl rfl ?_
        refine TL.op (yq (y_assign ev_c)) rfl rfl rfl ?_
        refine TL.nil ?_
        refine TN.seq ?_
        refine TC.ret ?_
        refine TN.blockR ?_
        refine TN.thenR ?_
        refine TN.thenR ?_
        rw [← hL1, elim_ret] at hF
        refine TN.blockR ?_
        refine TN.thenR ?_
        subst hF
        exact TN.ret2 rfl (ev_t rfl) (ev_t rfl) (fun w' hw => ⟨rfl, Hp.sublist hw (List.nil_sublist _)⟩)
      · rw [bif_neg h71] at hL1
        have q72 := (and_imp (or_f h71) (fun h => (and_imp (or_f h) (fun h => (of_decide_eq_false h)) (fun h => (of_decide_eq_false h)))) (fun h => (of_decide_eq_false h)))
        refine TC.skip ?_
        refine TN.blockN ?_
        refine TN.seq ?_
        refine TC.region ?_
        refine TL.op (yq (y_move (ev_t rfl))) rfl rfl rfl ?_
        refine TL.op (yq (y_add (ev_t rfl) ev_c (by unfold In64; omega))) rfl rfl rfl ?_
        refine TL.op (yq (y_assign (ev_t rfl))) rfl rfl rfl ?_
        refine TL.nil ?_
        exact TN.hand (mf1, (k5_1 + 1)) ⟨(by first | omega | (simp [-List.getD_eq_getElem?_getD] <;> omega)), (by omega), hL1⟩ (Nat.lt_succ_self _) ⟨rfl, rfl, rfl, trivial⟩ (fun w hw => hw)
    · rw [bif_neg h51] at hL1
      have q52 := (of_decide_eq_false h51)
      refine TC.exit ?_
      refine TN.thenE ?_
      refine TN.thenE ?_
      rw [← hL1, elim_next] at hF
      try dsimp only at hF
      refine TN.blockH ?_
      refine TN.seq ?_
      refine TC.seq ?_
      refine TC.region ?_
      refine TL.op (yq (y_assign ev_c)) rfl rfl rfl ?_
      refine TL.op (yq (y_assign ev_c)) rfl rfl rfl ?_
      refine TL.nil ?_
      refine TN.seq ?_
      refine TC.ret ?_
      subst hF
      exact TN.ret2 rfl (ev_t rfl) (ev_t rfl) (fun w' hw => ⟨rfl, Hp.sublist hw (List.nil_sublist _)⟩)

set_option maxRecDepth 4000 in
set_option maxHeartbeats 1000000 in
theorem laws_FnExactIsTreeLike_ok (w : World) (vm : Value) (um : List Value) (m : List (List Int)) (hm : RII w vm um m)  :
    Calls Try.prog 12 ([(.agg #[vm])] : List Value).toArray w (Ret (.bool (F_laws_FnExactIsTreeLike m)) (Hp w [])) := by
  obtain ⟨rz, hF⟩ : ∃ rz, (F_laws_FnExactIsTreeLike m) = rz := ⟨_, rfl⟩
  rw [hF]
  unfold F_laws_FnExactIsTreeLike at hF
  have hlen_m := argT_len hm
  refine calls_tc Try.func12 rfl rfl rfl ?_
  change TC _ _ _ _ (Hp w []) [(0, (.agg #[vm]))]
  refine TC.seq ?_
  refine TC.region ?_
  refine TL.box (ev_t rfl) rfl (fun g0_0 => ?_)
  refine TL.op (yq (y_assign ev_c)) rfl rfl rfl ?_
  refine TL.nil ?_
  refine TN.seq ?_
  refine TC.seq ?_
  refine TC.region ?_
  refine TL.op (yq (y_assign ev_c)) rfl rfl rfl ?_
  refine TL.nil ?_
  refine TN.seq ?_
  refine TC.seq ?_
  refine TC.region ?_
  refine TL.op (yq (y_ldagg (cs := [vm]) 0 (ev_t rfl) agg_24 rfl)) rfl rfl rfl ?_
  refine TL.op (yq (y_move (ev_t rfl))) rfl rfl rfl ?_
  refine TL.op (y_call (vs := [(.agg #[vm]), (.int .i64 1048576)]) (v := (.int .i64 (F_laws_szMetric m 1048576))) en_15 ⟨(ev_t rfl), (ev_t rfl), trivial⟩ (fun w hw => laws_szMetric_ok w vm um m ((rii_arg hm) w hw) 1048576 (by first | assumption | omega | grind) (by first | assumption | omega | grind))) rfl rfl rfl ?_
  refine TL.op (yq (y_assign (ev_t rfl))) rfl rfl rfl ?_
  refine TL.nil ?_
  refine TN.seq ?_
  refine TC.seq ?_
  refine TC.seq ?_
  refine TC.region ?_
  refine TL.op (yq (y_move (ev_t rfl))) rfl rfl rfl ?_
  refine TL.op (yq (y_lss (ev_t rfl) ev_c)) rfl rfl rfl ?_
  refine TL.nil ?_
  refine TN.seq ?_
  refine TC.cond (b := decide ((F_laws_szMetric m 1048576) < 0)) (ev_t rfl) (fun h7 => ?_) (fun h7 => ?_)
  · rw [bif_pos h7] at hF
    have q8 := (of_decide_eq_true h7)
    refine TC.seq ?_
    refine TC.region ?_
    refine TL.op (yq (y_assign ev_c)) rfl rfl rfl ?_
    refine TL.nil ?_
    refine TN.seq ?_
    refine TC.ret ?_
    refine TN.thenR ?_
    subst hF
    exact TN.ret1 rfl (ev_t rfl) (fun w' hw => ⟨rfl, Hp.sublist hw (List.nil_sublist _)⟩)
  · rw [bif_neg h7] at hF
    have q8 := (of_decide_eq_false h7)
    have hsz := szMetric_t (m := m) (left := 1048576) (by omega)
    have hsz1 : ∀ i, (m.getD i []).length ≤ 1048576 := fun i => by have := hsz.2 i; omega
    have hsz2 : m.length + total m ≤ 1048576 := by have := hsz.1; omega
    have htm := toMetric_eq m
    refine TC.skip ?_
    refine TN.seq ?_
    refine TC.seq ?_
    refine TC.region ?_
    refine TL.op (yq (y_ldagg (cs := [vm]) 0 (ev_t rfl) agg_24 rfl)) rfl rfl rfl ?_
    refine TL.callr (ι := Value × List Value) (vs := [(.agg #[vm])]) (fun i => (.agg #[i.1])) (fun i => [tabI 25 3 i.1 i.2 (F_laws_toMetric m)]) en_17 ⟨(ev_t rfl), trivial⟩ rfl (fun w hw => laws_toMetric_ok w vm um m ((rii_arg hm) w hw) (by first | assumption | omega | grind) (by first | assumption | omega | grind)) (fun r5_1 => ?_)
    refine TL.op (y_call (vs := [(.agg #[r5_1.1])]) (v := (.tuple #[(.bool ((F_spec_IsTreeLike (F_laws_toMetric m)).1)), (.bool ((F_spec_IsTreeLike (F_laws_toMetric m)).2))])) en_47 ⟨(ev_t rfl), trivial⟩ (fun w hw => spec_IsTreeLike_ok w r5_1.1 r5_1.2 (F_laws_toMetric m) ((rii_tab 0 rfl) w hw))) rfl rfl rfl ?_
    refine TL.op (yq (y_move (ev_t rfl))) rfl rfl rfl ?_
    refine TL.op (yq (y_extract (ev_t rfl) rfl)) rfl rfl rfl ?_
    refine TL.op (yq (y_extract (ev_t rfl) rfl)) rfl rfl rfl ?_
    refine TL.op (yq (y_assign (ev_t rfl))) rfl rfl rfl ?_
    refine TL.op (yq (y_assign (ev_t rfl))) rfl rfl rfl ?_
    refine TL.nil ?_
    refine TN.seq ?_
    refine TC.seq ?_
    refine TC.region ?_
    refine TL.op (yq (y_ldagg (cs := [vm]) 1 (ev_t rfl) agg_24 rfl)) rfl rfl rfl ?_
    refine TL.callr (ι := Value × List Value) (vs := [(.agg #[vm])]) (fun i => (.agg #[i.1])) (fun i => [tabI 25 3 i.1 i.2 (F_laws_toMetric m)]) en_17 ⟨(ev_t rfl), trivial⟩ rfl (fun w hw => laws_toMetric_ok w vm um m ((rii_arg hm) w hw) (by first | assumption | omega | grind) (by first | assumption | omega | grind)) (fun r6_1 => ?_)
    refine TL.alloc (u := (.agg #[(.slice none 0 0)])) (by kernel_rfl) rfl (fun g6_2 => ?_)
    refine TL.storeAgg (cs := [(.slice none 0 0)]) (us := [r6_1.1]) 0 (ev_t rfl) (ev_t rfl) agg_29 rfl rfl (fun w hw => (ocs_cons (ln_one ((fun w hw => ((rii_tab 1 rfl) w hw).1) w hw).ln) ocs_nil)) ?_
    refine TL.nil ?_
    refine TN.seq ?_
    refine TC.seq ?_
    refine TC.region ?_
    refine TL.op (yq (y_ldagg (cs := [r6_1.1]) 0 (ev_t rfl) agg_29 rfl)) rfl rfl rfl ?_
    refine TL.op (y_call (vs := [(.agg #[r6_1.1])]) (v := (.tuple #[(.bool ((F_impl_IsTreeLike (F_laws_toMetric m)).1)), (.bool ((F_impl_IsTreeLike (F_laws_toMetric m)).2))])) en_48 ⟨(ev_t rfl), trivial⟩ (fun w hw => impl_IsTreeLike_ok w r6_1.1 r6_1.2 (F_laws_toMetric m) ((rii_tab 1 rfl) w hw))) rfl rfl rfl ?_
    refine TL.op (yq (y_move (ev_t rfl))) rfl rfl rfl ?_
    refine TL.op (yq (y_extract (ev_t rfl) rfl)) rfl rfl rfl ?_
    refine TL.op (yq (y_extract (ev_t rfl) rfl)) rfl rfl rfl ?_
    refine TL.op (yq (y_assign (ev_t rfl))) rfl rfl rfl ?_
    refine TL.op (yq (y_assign (ev_t rfl))) rfl rfl rfl ?_
    refine TL.nil ?_
    refine TN.seq ?_
    refine TC.seq ?_
    refine TC.seq ?_
    refine TC.region ?_
    refine TL.op (yq (y_move (ev_t rfl))) rfl rfl rfl ?_
    refine TL.op (yq (y_move (ev_t rfl))) rfl rfl rfl ?_
    refine TL.op (yq (y_bneq (ev_t rfl) (ev_t rfl) Try.underlying4)) rfl rfl rfl ?_
    refine TL.op (yq (y_move (ev_t rfl))) rfl rfl rfl ?_
    refine TL.opw (w_f rfl rfl rfl) (fun hg => yq (y_move (ev_t rfl))) rfl rfl ?_
    refine TL.opw (w_f rfl rfl rfl) (fun hg => yq (y_move (ev_t rfl))) rfl rfl ?_
    refine TL.opw (w_f rfl rfl rfl) (fun hg => yq (y_bneq (ev_g rfl hg) (ev_g rfl hg) Try.underlying4)) rfl rfl ?_
    refine TL.op (yq (y_or (ev_t rfl) (fun hq => (ev_g rfl hq)))) rfl rfl rfl ?_
    refine TL.nil ?_
    refine TN.seq ?_
    refine TC.cond (b := ((((F_impl_IsTreeLike (F_laws_toMetric m)).1) != ((F_spec_IsTreeLike (F_laws_toMetric m)).1)) || (((F_impl_IsTreeLike (F_laws_toMetric m)).2) != ((F_spec_IsTreeLike (F_laws_toMetric m)).2)))) (ev_t rfl) (fun h9 => ?_) (fun h9 => ?_)
    · rw [bif_pos h9] at hF
      have q10 := ((or_t h9).imp (fun h => h) (fun h => h))
      refine TC.seq ?_
      refine TC.region ?_
      refine TL.op (yq (y_assign ev_c)) rfl rfl rfl ?_
      refine TL.nil ?_
      refine TN.seq ?_
      refine TC.ret ?_
      refine TN.thenR ?_
      subst hF
      exact TN.ret1 rfl (ev_t rfl) (fun w' hw => ⟨rfl, Hp.sublist hw (List.nil_sublist _)⟩)
    · rw [bif_neg h9] at hF
      have q10 := (and_imp (or_f h9) (fun h => h) (fun h => h))
      refine TC.skip ?_
      refine TN.seq ?_
      refine TC.seq ?_
      refine TC.seq ?_
      refine TC.regionH 5 (Hp w [.blk g6_2 29 [r6_1.1], tabI 25 3 r6_1.1 r6_1.2 (F_laws_toMetric m), tabI 25 3 r5_1.1 r5_1.2 (F_laws_toMetric m), .blk g0_0 24 [vm]]) rfl (by kernel_rfl) dr_hp (fun w hw => hw) ?_
      refine TH.take 0 rfl (by kernel_rfl) (y_ldagg (cs := [r6_1.1]) 0 (ev_t rfl) agg_29 rfl) rfl rfl rfl ?_
      refine TH.take 1 rfl (by kernel_rfl) (y_ldagg (cs := [vm]) 3 (ev_t rfl) agg_24 rfl) rfl rfl rfl ?_
      refine TH.loud 2 rfl (by kernel_rfl) ?_
      refine TL.callr (ι := Value × List Value) (vs := [(.agg #[vm])]) (fun i => (.agg #[i.1])) (fun i => [tabI 25 3 i.1 i.2 (F_laws_toMetric m)]) en_17 ⟨(ev_t rfl), trivial⟩ rfl (fun w hw => laws_toMetric_ok w vm um m ((rii_arg hm) w hw) (by first | assumption | omega | grind) (by first | assumption | omega | grind)) (fun r10_2 => ?_)
      refine TL.nil ?_
      refine TH.back (fun w hw => Hp.sublist hw (.cons _ (.cons_cons _ (.cons_cons _ (.cons_cons _ (.cons_cons _ .slnil)))))) ?_
      refine TH.loud 3 rfl (by kernel_rfl) ?_
      refine TL.op (y_call (vs := [(.agg #[r6_1.1]), (.agg #[r10_2.1])]) (v := (.bool (F_laws_eqMetric (F_laws_toMetric m) (F_laws_toMetric m)))) en_20 ⟨(ev_t rfl), (ev_t rfl), trivial⟩ (fun w hw => laws_eqMetric_ok w r6_1.1 r6_1.2 (F_laws_toMetric m) ((rii_tab 2 rfl) w hw) r10_2.1 r10_2.2 (F_laws_toMetric m) ((rii_tab 0 rfl) w hw))) rfl rfl rfl ?_
      refine TL.nil ?_
      refine TH.back (fun w hw => Hp.sublist hw (.cons _ (.cons_cons _ (.cons_cons _ (.cons_cons _ (.cons_cons _ .slnil)))))) ?_
      refine TH.take 4 rfl (by kernel_rfl) (y_not (ev_t rfl)) rfl rfl rfl ?_
      refine TH.done (by kernel_rfl) ?_
      refine TN.seq ?_
      refine TC.cond (b := !(F_laws_eqMetric (F_laws_toMetric m) (F_laws_toMetric m))) (ev_t rfl) (fun h11 => ?_) (fun h11 => ?_)
      · rw [bif_pos h11] at hF
        have q12 := (not_t h11)
        refine TC.seq ?_
        refine TC.region ?_
        refine TL.op (yq (y_assign ev_c)) rfl rfl rfl ?_
        refine TL.nil ?_
        refine TN.seq ?_
        refine TC.ret ?_
        refine TN.thenR ?_
        subst hF
        exact TN.ret1 rfl (ev_t rfl) (fun w' hw => ⟨rfl, Hp.sublist hw (List.nil_sublist _)⟩)
      · rw [bif_neg h11] at hF
        have q12 := (not_f h11)
        refine TC.skip ?_
        refine TN.seq ?_
        refine TC.seq ?_
        refine TC.region ?_
        refine TL.op (yq (y_assign ev_c)) rfl rfl rfl ?_
        refine TL.nil ?_
        refine TN.seq ?_
        refine TC.ret ?_
        subst hF
        exact TN.ret1 rfl (ev_t rfl) (fun w' hw => ⟨rfl, Hp.sublist hw (List.nil_sublist _)⟩)


end Go.Proofs.Ytcfjjnajeccbhaa
