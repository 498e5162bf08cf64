/-
  Walks of functions of the program: each computes its plain function. No condition but the bounds that are typed.
-/
import Derived.Test.YtcfjjnajeccbhaaFnJ
import Derived.Test.YtcfjjnajeccbhaaLawSort
import Derived.Test.YtcfjjnajeccbhaaLib
import Derived.Test.YtcfjjnajeccbhaaDefK
namespace Go.Proofs.Ytcfjjnajeccbhaa
open Go Go.RowKit

set_option maxRecDepth 4000 in
set_option maxHeartbeats 1000000 in
theorem impl_moved_ok (w : World) (va : Value) (a : List Int) (ha : RI w va a) (src : Int) (dst : Int) (hp0 : ∃ i, i < a.length ∧ a.getD i 0 = src) (hp1 : a.length ≤ 1000) :
    Calls Try.prog 97 ([va, (.int .i64 src), (.int .i64 dst)] : List Value).toArray w (fun e w' => ∃ i : Value, e = .returned i ∧ Hp w [rowI 3 i (F_impl_moved a src dst)] w') := by
  obtain ⟨rz, hF⟩ : ∃ rz, (F_impl_moved a src dst) = rz := ⟨_, rfl⟩
  rw [hF]
  unfold F_impl_moved at hF
  have hix := index_lt hp0
  have hlen_a := arg_len ha
  refine calls_tc Try.func97 rfl rfl rfl ?_
  change TC _ _ _ _ (Hp w []) [(0, va), (1, (.int .i64 src)), (2, (.int .i64 dst))]
  refine TC.seq ?_
  refine TC.region ?_
  refine TL.op (yq (y_assign ev_c)) rfl rfl rfl ?_
  refine TL.nil ?_
  refine TN.seq ?_
  refine TC.seq ?_
  refine TC.region ?_
  refine TL.op (yq (y_move (ev_t rfl))) rfl rfl rfl ?_
  refine TL.callr (ι := Value) (vs := [va]) (fun i => i) (fun i => [rowI 3 i a]) en_74 ⟨(ev_t rfl), trivial⟩ rfl (fun w hw => slices_Clone_Sint_int_ok w va a ((ri_arg ha) w hw) (by first | assumption | omega | grind)) (fun r1_1 => ?_)
  refine TL.op (yq (y_assign (ev_t rfl))) rfl rfl rfl ?_
  refine TL.nil ?_
  refine TN.seq ?_
  refine TC.seq ?_
  refine TC.region ?_
  refine TL.op (yq (y_move (ev_t rfl))) rfl rfl rfl ?_
  refine TL.op (yq (y_move (ev_t rfl))) rfl rfl rfl ?_
  refine TL.op (yq (y_move (ev_t rfl))) rfl rfl rfl ?_
  refine TL.op (y_call (vs := [r1_1, (.int .i64 src)]) (v := (.int .i64 (F_slices_Index_Sint_int a src))) en_111 ⟨(ev_t rfl), (ev_t rfl), trivial⟩ (fun w hw => slices_Index_Sint_int_ok w r1_1 a ((ri_row 0 rfl) w hw) src)) rfl rfl rfl ?_
  refine TL.op (yq (y_move (ev_t rfl))) rfl rfl rfl ?_
  have hb2 : ((F_slices_Index_Sint_int a src)).toNat < a.length := (by first | omega | (simp only [List.length_set, List.length_append, List.length_cons, List.length_nil, List.length_replicate]; omega))
  refine TL.op (yq (y_idx (k := ((F_slices_Index_Sint_int a src)).toNat) (ev_t rfl) (ev_t rfl) (by omega) slT_25 (ri_row 0 rfl) hb2)) rfl rfl rfl ?_
  refine TL.storeI 0 (ev_t rfl) (ev_t rfl) one_3 rfl hb2 ?_
  refine TL.nil ?_
  refine TN.seq ?_
  refine TC.seq ?_
  refine TC.region ?_
  refine TL.op (yq (y_move (ev_t rfl))) rfl rfl rfl ?_
  refine TL.callm (ι := Unit) 0 (vs := [r1_1]) (fun _ => (.tuple #[])) (fun _ => rowI 3 r1_1 (sortI (a.set (((F_slices_Index_Sint_int a src)).toNat) dst))) en_92 ⟨(ev_t rfl), trivial⟩ rfl rfl (fun w1 fr1 hw => slices_Sort_ok w w1 fr1 r1_1 (a.set (((F_slices_Index_Sint_int a src)).toNat) dst) hw (by first | assumption | omega | grind)) (fun _ => ?_)
  refine TL.nil ?_
  refine TN.seq ?_
  refine TC.seq ?_
  refine TC.region ?_
  refine TL.op (yq (y_move (ev_t rfl))) rfl rfl rfl ?_
  refine TL.op (yq (y_assign (ev_t rfl))) rfl rfl rfl ?_
  refine TL.nil ?_
  refine TN.seq ?_
  refine TC.ret ?_
  subst hF
  exact TN.ret1 rfl (ev_t rfl) (fun w' hw => ⟨r1_1, rfl, hw⟩)

set_option maxRecDepth 4000 in
set_option maxHeartbeats 1000000 in
theorem impl_GreedyServers_ok (w : World) (vm : Value) (um : List Value) (m : List (List Int)) (hm : RII w vm um m) (vstart : Value) (start : List Int) (hstart : RI w vstart start) (vreqs : Value) (reqs : List Int) (hreqs : RI w vreqs reqs)  :
    Calls Try.prog 52 ([(.agg #[vm]), vstart, vreqs] : List Value).toArray w (fun e w' => ∃ i : Value × List Value, e = .returned (.tuple #[i.1, (.int .i64 ((F_impl_GreedyServers m start reqs).2.1)), (.bool ((F_impl_GreedyServers m start reqs).2.2))]) ∧ Hp w [tabI 25 3 i.1 i.2 ((F_impl_GreedyServers m start reqs).1)] w') := by
  obtain ⟨rz, hF⟩ : ∃ rz, (F_impl_GreedyServers m start reqs) = rz := ⟨_, rfl⟩
  rw [hF]
  unfold F_impl_GreedyServers at hF
  have hlen_m := argT_len hm
  have hlen_start := arg_len hstart
  have hlen_reqs := arg_len hreqs
  refine calls_tc Try.func52 rfl rfl rfl ?_
  change TC _ _ _ _ (Hp w []) [(0, (.agg #[vm])), (1, vstart), (2, vreqs)]
  refine TC.seq ?_
  refine TC.region ?_
  refine TL.box (ev_t rfl) rfl (fun g0_0 => ?_)
  refine TL.op (yq (y_assign ev_c)) rfl rfl rfl ?_
  refine TL.op (yq (y_assign ev_c)) rfl rfl rfl ?_
  refine TL.op (yq (y_assign ev_c)) rfl rfl rfl ?_
  refine TL.nil ?_
  refine TN.seq ?_
  refine TC.seq ?_
  refine TC.seq ?_
  refine TC.region ?_
  refine TL.op (yq (y_ldagg (cs := [vm]) 0 (ev_t rfl) agg_29 rfl)) rfl rfl rfl ?_
  refine TL.op (yq (y_move (ev_t rfl))) rfl rfl rfl ?_
  refine TL.op (yq (y_move (ev_t rfl))) rfl rfl rfl ?_
  refine TL.op (y_call (vs := [(.agg #[vm]), vstart, vreqs]) (v := (.bool (F_impl_isServed m start reqs))) en_88 ⟨(ev_t rfl), (ev_t rfl), (ev_t rfl), trivial⟩ (fun w hw => impl_isServed_ok w vm um m ((rii_arg hm) w hw) vstart start ((ri_arg hstart) w hw) vreqs reqs ((ri_arg hreqs) w hw))) rfl rfl rfl ?_
  refine TL.op (yq (y_not (ev_t rfl))) rfl rfl rfl ?_
  refine TL.nil ?_
  refine TN.seq ?_
  refine TC.cond (b := !(F_impl_isServed m start reqs)) (ev_t rfl) (fun h68 => ?_) (fun h68 => ?_)
  · rw [bif_pos h68] at hF
    have q69 := (not_t h68)
    refine TC.seq ?_
    refine TC.region ?_
    refine TL.op (yq (y_assign ev_c)) rfl rfl rfl ?_
    refine TL.op (yq (y_assign ev_c)) rfl rfl rfl ?_
    refine TL.op (yq (y_assign ev_c)) rfl rfl rfl ?_
    refine TL.nil ?_
    refine TN.seq ?_
    refine TC.ret ?_
    refine TN.thenR ?_
    subst hF
    refine TN.cls (fun w hw => hw.nilTab 25 3) ?_
    exact TN.ret3 rfl (ev_t rfl) (ev_t rfl) (ev_t rfl) (fun w' hw => ⟨((.slice none 0 0), []), rfl, Hp.sublist hw (.cons_cons _ (.cons _ .slnil))⟩)
  · rw [bif_neg h68] at hF
    have q69 := (isServed_t (not_f h68))
    have hS := q69
    have hT := hS.tab
    have hr60 := hS.r60
    have hs3 := hS.cf.n3
    refine TC.skip ?_
    refine TN.seq ?_
    refine TC.seq ?_
    refine TC.region ?_
    refine TL.buildSlice (zs := []) (vs := []) slT_22 rfl trivial (by simp) rfl (by decide) rfl (fun v3_0 => ?_)
    refine TL.cls (fun w hw => hw.emptyTab 3) ?_
    refine TL.op (yq (y_assign (ev_t rfl))) rfl rfl rfl ?_
    refine TL.nil ?_
    refine TN.seq ?_
    refine TC.seq ?_
    refine TC.region ?_
    refine TL.op (yq (y_assign ev_c)) rfl rfl rfl ?_
    refine TL.nil ?_
    refine TN.seq ?_
    refine TC.seq ?_
    refine TC.region ?_
    refine TL.op (yq (y_move (ev_t rfl))) rfl rfl rfl ?_
    refine TL.callr (ι := Value) (vs := [vstart]) (fun i => i) (fun i => [rowI 3 i start]) en_74 ⟨(ev_t rfl), trivial⟩ rfl (fun w hw => slices_Clone_Sint_int_ok w vstart start ((ri_arg hstart) w hw) (by first | assumption | omega | grind)) (fun r5_1 => ?_)
    refine TL.op (yq (y_assign (ev_t rfl))) rfl rfl rfl ?_
    refine TL.nil ?_
    refine TN.seq ?_
    refine TC.seq ?_
    refine TC.seq ?_
    refine TC.region ?_
    refine TL.op (yq (y_move (ev_t rfl))) rfl rfl rfl ?_
    refine TL.op (yq (y_len (ev_t rfl) Try.underlying25 (fun w hw => ((ri_arg hreqs) w hw).ln))) rfl rfl rfl ?_
    refine TL.op (yq (y_move ev_c)) rfl rfl rfl ?_
    refine TL.nil ?_
    refine TN.seq ?_
    refine TC.block ?_
    obtain ⟨c71, hc72⟩ : ∃ c, F_impl_GreedyServers_L1 m reqs ((reqs.length - 0) + 1) (([]), 0, start, 0) = c := ⟨_, rfl⟩
    rw [hc72] at hF
    refine TC.loop (ι := Nat × List (List Int) × Int × List Int × Nat × Value × List Value × Value) (fun (fu1, k9_1, k10_1, k11_1, k27_1, vk9_1, uk9_1, vk11_1) => [(3, (.pointer (some ⟨g0_0, 0, none⟩))), (9, vk9_1), (10, (.int .i64 k10_1)), (11, vk11_1), (25, vreqs), (26, (.int .i64 (reqs.length : Int))), (27, (.int .i64 (k27_1 : Int)))]) (fun (fu1, k9_1, k10_1, k11_1, k27_1, vk9_1, uk9_1, vk11_1) => Hp w [rowI 3 vk11_1 k11_1, tabI 25 3 vk9_1 uk9_1 k9_1, .blk g0_0 29 [vm]]) (fun (fu1, k9_1, k10_1, k11_1, k27_1, vk9_1, uk9_1, vk11_1) => (k27_1 ≤ reqs.length) ∧ (-99 * (k27_1 : Int) ≤ k10_1) ∧ (k10_1 ≤ 99 * (k27_1 : Int)) ∧ (Cf m.length k11_1) ∧ (k9_1.length ≤ k27_1) ∧ reqs.length - k27_1 < fu1 ∧ F_impl_GreedyServers_L1 m reqs fu1 (k9_1, k10_1, k11_1, k27_1) = c71) (fun (fu1, k9_1, k10_1, k11_1, k27_1, vk9_1, uk9_1, vk11_1) => fu1) ((reqs.length - 0) + 1, [], 0, start, 0, v3_0, [], r5_1) ⟨(by first | omega | (simp [-List.getD_eq_getElem?_getD] <;> omega)), (by first | omega | (simp [-List.getD_eq_getElem?_getD] <;> omega)), (by first | omega | (simp [-List.getD_eq_getElem?_getD] <;> omega)), hS.cf, (by first | omega | (simp [-List.getD_eq_getElem?_getD] <;> omega)), (by omega), hc72⟩ ⟨rfl, rfl, rfl, rfl, rfl, rfl, rfl, trivial⟩ (fun w hw => hw) ?_
    rintro ⟨fu1, k9_1, k10_1, k11_1, k27_1, vk9_1, uk9_1, vk11_1⟩ hJ1
    obtain ⟨hi1_0, hi1_1, hi1_2, hi1_3, hi1_4, hmu1, hL1⟩ : (k27_1 ≤ reqs.length) ∧ (-99 * (k27_1 : Int) ≤ k10_1) ∧ (k10_1 ≤ 99 * (k27_1 : Int)) ∧ (Cf m.length k11_1) ∧ (k9_1.length ≤ k27_1) ∧ reqs.length - k27_1 < fu1 ∧ F_impl_GreedyServers_L1 m reqs fu1 (k9_1, k10_1, k11_1, k27_1) = c71 := hJ1
    change TC _ _ _ _ (Hp w [rowI 3 vk11_1 k11_1, tabI 25 3 vk9_1 uk9_1 k9_1, .blk g0_0 29 [vm]]) [(3, (.pointer (some ⟨g0_0, 0, none⟩))), (9, vk9_1), (10, (.int .i64 k10_1)), (11, vk11_1), (25, vreqs), (26, (.int .i64 (reqs.length : Int))), (27, (.int .i64 (k27_1 : Int)))]
    obtain ⟨mf1, rfl⟩ : ∃ m, fu1 = m + 1 := ⟨fu1 - 1, by omega⟩
    rw [F_impl_GreedyServers_L1_s] at hL1
    refine TC.seq ?_
    refine TC.region ?_
    refine TL.op (yq (y_lss (ev_t rfl) (ev_t rfl))) rfl rfl rfl ?_
    refine TL.nil ?_
    refine TN.seq ?_
    refine TC.seq ?_
    refine TC.cond (b := decide ((k27_1 : Int) < (reqs.length : Int))) (ev_t rfl) (fun h73 => ?_) (fun h73 => ?_)
    · rw [bif_pos h73] at hL1
      have q74 := (of_decide_eq_true h73)
      have hre := hS.el k27_1 (by omega)
      have hre1 := hre.1
      have hre2 := hre.2
      have hn1 := hi1_3.n1
      have hn3 := hi1_3.n3
      have ha0 := hi1_3.el 0 (by omega)
      refine TC.skip ?_
      refine TN.seq ?_
      refine TC.seq ?_
      refine TC.block ?_
      refine TC.seq ?_
      refine TC.region ?_
      have hb75 : k27_1 < reqs.length := (by first | omega | (simp only [List.length_set, List.length_append, List.length_cons, List.length_nil, List.length_replicate]; omega))
      refine TL.op (yq (y_idx (k := k27_1) (ev_t rfl) (ev_t rfl) (by omega) slT_25 (ri_arg hreqs) hb75)) rfl rfl rfl ?_
      refine TL.op (yq (y_ldi (ev_t rfl) one_3 (ri_arg hreqs) hb75)) rfl rfl rfl ?_
      refine TL.op (yq (y_assign (ev_t rfl))) rfl rfl rfl ?_
      refine TL.nil ?_
      refine TN.seq ?_
      refine TC.seq ?_
      refine TC.region ?_
      refine TL.op (yq (y_move (ev_t rfl))) rfl rfl rfl ?_
      have hb76 : 0 < k11_1.length := (by first | omega | (simp only [List.length_set, List.length_append, List.length_cons, List.length_nil, List.length_replicate]; omega))
      refine TL.op (yq (y_idx (k := 0) (ev_t rfl) ev_c (by omega) slT_25 (ri_row 0 rfl) hb76)) rfl rfl rfl ?_
      refine TL.op (yq (y_ldi (ev_t rfl) one_3 (ri_row 0 rfl) hb76)) rfl rfl rfl ?_
      refine TL.op (yq (y_assign (ev_t rfl))) rfl rfl rfl ?_
      refine TL.nil ?_
      refine TN.seq ?_
      refine TC.seq ?_
      refine TC.seq ?_
      refine TC.region ?_
      refine TL.op (yq (y_move (ev_t rfl))) rfl rfl rfl ?_
      refine TL.op (yq (y_len (ev_t rfl) Try.underlying25 (fun w hw => ((ri_row 0 rfl) w hw).ln))) rfl rfl rfl ?_
      refine TL.op (yq (y_move ev_c)) rfl rfl rfl ?_
      refine TL.nil ?_
      refine TN.seq ?_
      refine TC.block ?_
      obtain ⟨c77, hc78⟩ : ∃ c, F_impl_GreedyServers_L2 m reqs k11_1 k27_1 ((k11_1.length - 0) + 1) ((k11_1.getD 0 0), 0) = c := ⟨_, rfl⟩
      rw [hc78] at hL1
      refine TC.loop (ι := Nat × Int × Nat) (fun (fu2, k14_2, k36_2) => [(3, (.pointer (some ⟨g0_0, 0, none⟩))), (9, vk9_1), (10, (.int .i64 k10_1)), (11, vk11_1), (13, (.int .i64 (reqs.getD k27_1 0))), (14, (.int .i64 k14_2)), (25, vreqs), (26, (.int .i64 (reqs.length : Int))), (27, (.int .i64 (k27_1 : Int))), (34, vk11_1), (35, (.int .i64 (k11_1.length : Int))), (36, (.int .i64 (k36_2 : Int)))]) (fun (fu2, k14_2, k36_2) => Hp w [rowI 3 vk11_1 k11_1, tabI 25 3 vk9_1 uk9_1 k9_1, .blk g0_0 29 [vm]]) (fun (fu2, k14_2, k36_2) => (k36_2 ≤ k11_1.length) ∧ (0 ≤ k14_2) ∧ (k14_2 < m.length) ∧ (∃ i, i < k11_1.length ∧ k11_1.getD i 0 = k14_2) ∧ k11_1.length - k36_2 < fu2 ∧ F_impl_GreedyServers_L2 m reqs k11_1 k27_1 fu2 (k14_2, k36_2) = c77) (fun (fu2, k14_2, k36_2) => fu2) ((k11_1.length - 0) + 1, (k11_1.getD 0 0), 0) ⟨(by first | omega | (simp [-List.getD_eq_getElem?_getD] <;> omega)), (by first | omega | (simp [-List.getD_eq_getElem?_getD] <;> omega)), (by first | omega | (simp [-List.getD_eq_getElem?_getD] <;> omega)), ⟨0, by omega, rfl⟩, (by omega), hc78⟩ ⟨rfl, rfl, rfl, rfl, rfl, rfl, rfl, rfl, rfl, rfl, rfl, rfl, trivial⟩ (fun w hw => hw) ?_
      rintro ⟨fu2, k14_2, k36_2⟩ hJ2
      obtain ⟨hi2_0, hi2_1, hi2_2, hi2_3, hmu2, hL2⟩ : (k36_2 ≤ k11_1.length) ∧ (0 ≤ k14_2) ∧ (k14_2 < m.length) ∧ (∃ i, i < k11_1.length ∧ k11_1.getD i 0 = k14_2) ∧ k11_1.length - k36_2 < fu2 ∧ F_impl_GreedyServers_L2 m reqs k11_1 k27_1 fu2 (k14_2, k36_2) = c77 := hJ2
      change TC _ _ _ _ (Hp w [rowI 3 vk11_1 k11_1, tabI 25 3 vk9_1 uk9_1 k9_1, .blk g0_0 29 [vm]]) [(3, (.pointer (some ⟨g0_0, 0, none⟩))), (9, vk9_1), (10, (.int .i64 k10_1)), (11, vk11_1), (13, (.int .i64 (reqs.getD k27_1 0))), (14, (.int .i64 k14_2)), (25, vreqs), (26, (.int .i64 (reqs.length : Int))), (27, (.int .i64 (k27_1 : Int))), (34, vk11_1), (35, (.int .i64 (k11_1.length : Int))), (36, (.int .i64 (k36_2 : Int)))]
      obtain ⟨mf2, rfl⟩ : ∃ m, fu2 = m + 1 := ⟨fu2 - 1, by omega⟩
      rw [F_impl_GreedyServers_L2_s] at hL2
      have hae := hi1_3.el k36_2
      have hr1 := hT.rows (k11_1.getD k36_2 0).toNat
      have hr2 := hT.rows k14_2.toNat
      have hme := hT.el k14_2.toNat (reqs.getD k27_1 0).toNat
      refine TC.seq ?_
      refine TC.region ?_
      refine TL.op (yq (y_lss (ev_t rfl) (ev_t rfl))) rfl rfl rfl ?_
      refine TL.nil ?_
      refine TN.seq ?_
      refine TC.seq ?_
      refine TC.cond (b := decide ((k36_2 : Int) < (k11_1.length : Int))) (ev_t rfl) (fun h79 => ?_) (fun h79 => ?_)
      · rw [bif_pos h79] at hL2
        have q80 := (of_decide_eq_true h79)
        refine TC.skip ?_
        refine TN.seq ?_
        refine TC.seq ?_
        refine TC.block ?_
        refine TC.seq ?_
        refine TC.region ?_
        have hb81 : k36_2 < k11_1.length := (by first | omega | (simp only [List.length_set, List.length_append, List.length_cons, List.length_nil, List.length_replicate]; omega))
        refine TL.op (yq (y_idx (k := k36_2) (ev_t rfl) (ev_t rfl) (by omega) slT_25 (ri_row 0 rfl) hb81)) rfl rfl rfl ?_
        refine TL.op (yq (y_ldi (ev_t rfl) one_3 (ri_row 0 rfl) hb81)) rfl rfl rfl ?_
        refine TL.op (yq (y_assign (ev_t rfl))) rfl rfl rfl ?_
        refine TL.nil ?_
        refine TN.seq ?_
        refine TC.seq ?_
        refine TC.regionQ (by kernel_rfl) (by kernel_rfl) dr_hp ?_
        refine TQ.op (yq (y_fa (fa_29_0 g0_0) (ev_t rfl))) rfl rfl rfl ?_
        refine TQ.op (yq (y_ldb 2 (ev_t rfl) one_22 rfl rfl)) rfl rfl rfl ?_
        refine TQ.op (yq (y_move (ev_t rfl))) rfl rfl rfl ?_
        have hb82 : ((k11_1.getD k36_2 0)).toNat < m.length := (by first | omega | (simp only [List.length_set, List.length_append, List.length_cons, List.length_nil, List.length_replicate]; omega))
        refine TQ.op (yq (y_idx (k := ((k11_1.getD k36_2 0)).toNat) (ev_t rfl) (ev_t rfl) (by omega) slT_22 (fun w hw => ((rii_arg hm) w hw).1) hb82)) rfl rfl rfl ?_
        have ha83 := hm.row (i := ((k11_1.getD k36_2 0)).toNat) hb82
        refine TQ.op (yq (y_ldA (ev_t rfl) one_25 (rii_arg hm) hb82)) rfl rfl rfl ?_
        refine TQ.op (yq (y_move (ev_t rfl))) rfl rfl rfl ?_
        have hb84 : ((reqs.getD k27_1 0)).toNat < (m.getD (((k11_1.getD k36_2 0)).toNat) []).length := (by first | omega | (simp only [List.length_set, List.length_append, List.length_cons, List.length_nil, List.length_replicate]; omega))
        refine TQ.op (yq (y_idx (k := ((reqs.getD k27_1 0)).toNat) (ev_t rfl) (ev_t rfl) (by omega) slT_25 (ri_arg ha83) hb84)) rfl rfl rfl ?_
        refine TQ.op (yq (y_ldi (ev_t rfl) one_3 (ri_arg ha83) hb84)) rfl rfl rfl ?_
        refine TQ.op (yq (y_fa (fa_29_0 g0_0) (ev_t rfl))) rfl rfl rfl ?_
        refine TQ.op (yq (y_ldb 2 (ev_t rfl) one_22 rfl rfl)) rfl rfl rfl ?_
        refine TQ.op (yq (y_move (ev_t rfl))) rfl rfl rfl ?_
        have hb85 : (k14_2).toNat < m.length := (by first | omega | (simp only [List.length_set, List.length_append, List.length_cons, List.length_nil, List.length_replicate]; omega))
        refine TQ.op (yq (y_idx (k := (k14_2).toNat) (ev_t rfl) (ev_t rfl) (by omega) slT_22 (fun w hw => ((rii_arg hm) w hw).1) hb85)) rfl rfl rfl ?_
        have ha86 := hm.row (i := (k14_2).toNat) hb85
        refine TQ.op (yq (y_ldA (ev_t rfl) one_25 (rii_arg hm) hb85)) rfl rfl rfl ?_
        refine TQ.op (yq (y_move (ev_t rfl))) rfl rfl rfl ?_
        have hb87 : ((reqs.getD k27_1 0)).toNat < (m.getD ((k14_2).toNat) []).length := (by first | omega | (simp only [List.length_set, List.length_append, List.length_cons, List.length_nil, List.length_replicate]; omega))
        refine TQ.op (yq (y_idx (k := ((reqs.getD k27_1 0)).toNat) (ev_t rfl) (ev_t rfl) (by omega) slT_25 (ri_arg ha86) hb87)) rfl rfl rfl ?_
        refine TQ.op (yq (y_ldi (ev_t rfl) one_3 (ri_arg ha86) hb87)) rfl rfl rfl ?_
        refine TQ.op (yq (y_lss (ev_t rfl) (ev_t rfl))) rfl rfl rfl ?_
        refine TQ.nil ?_
        refine TN.seq ?_
        refine TC.cond (b := decide (((m.getD (((k11_1.getD k36_2 0)).toNat) []).getD (((reqs.getD k27_1 0)).toNat) 0) < ((m.getD ((k14_2).toNat) []).getD (((reqs.getD k27_1 0)).toNat) 0))) (ev_t rfl) (fun h88 => ?_) (fun h88 => ?_)
        · rw [bif_pos h88] at hL2
          have q89 := (of_decide_eq_true h88)
          refine TC.region ?_
          refine TL.op (yq (y_move (ev_t rfl))) rfl rfl rfl ?_
          refine TL.op (yq (y_assign (ev_t rfl))) rfl rfl rfl ?_
          refine TL.nil ?_
          refine TN.blockN ?_
          refine TN.seq ?_
          refine TC.region ?_
          refine TL.op (yq (y_add (ev_t rfl) ev_c (by unfold In64; omega))) rfl rfl rfl ?_
          refine TL.op (yq (y_move (ev_t rfl))) rfl rfl rfl ?_
          refine TL.nil ?_
          exact TN.hand (mf2, (k11_1.getD k36_2 0), (k36_2 + 1)) ⟨(by first | omega | (simp [-List.getD_eq_getElem?_getD] <;> omega)), (by first | omega | (simp [-List.getD_eq_getElem?_getD] <;> omega)), (by first | omega | (simp [-List.getD_eq_getElem?_getD] <;> omega)), (by first | exact hi2_3 | exact ⟨k36_2, by omega, rfl⟩), (by omega), hL2⟩ (Nat.lt_succ_self _) ⟨rfl, rfl, rfl, rfl, rfl, rfl, rfl, rfl, rfl, rfl, rfl, rfl, trivial⟩ (fun w hw => hw)
        · rw [bif_neg h88] at hL2
          have q89 := (of_decide_eq_false h88)
          refine TC.skip ?_
          refine TN.blockN ?_
          refine TN.seq ?_
          refine TC.region ?_
          refine TL.op (yq (y_add (ev_t rfl) ev_c (by unfold In64; omega))) rfl rfl rfl ?_
          refine TL.op (yq (y_move (ev_t rfl))) rfl rfl rfl ?_
          refine TL.nil ?_
          exact TN.hand (mf2, k14_2, (k36_2 + 1)) ⟨(by first | omega | (simp [-List.getD_eq_getElem?_getD] <;> omega)), (by first | omega | (simp [-List.getD_eq_getElem?_getD] <;> omega)), (by first | omega | (simp [-List.getD_eq_getElem?_getD] <;> omega)), (by first | exact hi2_3 | exact ⟨k36_2, by omega, rfl⟩), (by omega), hL2⟩ (Nat.lt_succ_self _) ⟨rfl, rfl, rfl, rfl, rfl, rfl, rfl, rfl, rfl, rfl, rfl, rfl, trivial⟩ (fun w hw => hw)
      · rw [bif_neg h79] at hL2
        have q80 := (of_decide_eq_false h79)
        refine TC.exit ?_
        refine TN.thenE ?_
        refine TN.thenE ?_
        rw [← hL2, elim_next] at hL1
        try dsimp only at hL1
        have hcm := cf_impl_moved hi1_3 hi2_3 hre1 hre2
        have hcl := hcm.n3
        refine TN.blockH ?_
        refine TN.seq ?_
        refine TC.seq ?_
        refine TC.region ?_
        refine TL.op (yq (y_move (ev_t rfl))) rfl rfl rfl ?_
        refine TL.op (yq (y_fa (fa_29_0 g0_0) (ev_t rfl))) rfl rfl rfl ?_
        refine TL.op (yq (y_ldb 2 (ev_t rfl) one_22 rfl rfl)) rfl rfl rfl ?_
        refine TL.op (yq (y_move (ev_t rfl))) rfl rfl rfl ?_
        have hb90 : (k14_2).toNat < m.length := (by first | omega | (simp only [List.length_set, List.length_append, List.length_cons, List.length_nil, List.length_replicate]; omega))
        refine TL.op (yq (y_idx (k := (k14_2).toNat) (ev_t rfl) (ev_t rfl) (by omega) slT_22 (fun w hw => ((rii_arg hm) w hw).1) hb90)) rfl rfl rfl ?_
        have ha91 := hm.row (i := (k14_2).toNat) hb90
        refine TL.op (yq (y_ldA (ev_t rfl) one_25 (rii_arg hm) hb90)) rfl rfl rfl ?_
        refine TL.op (yq (y_move (ev_t rfl))) rfl rfl rfl ?_
        have hb92 : ((reqs.getD k27_1 0)).toNat < (m.getD ((k14_2).toNat) []).length := (by first | omega | (simp only [List.length_set, List.length_append, List.length_cons, List.length_nil, List.length_replicate]; omega))
        refine TL.op (yq (y_idx (k := ((reqs.getD k27_1 0)).toNat) (ev_t rfl) (ev_t rfl) (by omega) slT_25 (ri_arg ha91) hb92)) rfl rfl rfl ?_
        refine TL.op (yq (y_ldi (ev_t rfl) one_3 (ri_arg ha91) hb92)) rfl rfl rfl ?_
        refine TL.op (yq (y_add (ev_t rfl) (ev_t rfl) (by unfold In64; omega))) rfl rfl rfl ?_
        refine TL.op (yq (y_assign (ev_t rfl))) rfl rfl rfl ?_
        refine TL.nil ?_
        refine TN.seq ?_
        refine TC.seq ?_
        refine TC.region ?_
        refine TL.op (yq (y_move (ev_t rfl))) rfl rfl rfl ?_
        refine TL.op (yq (y_move (ev_t rfl))) rfl rfl rfl ?_
        refine TL.op (yq (y_move (ev_t rfl))) rfl rfl rfl ?_
        refine TL.callr (ι := Value) (vs := [vk11_1, (.int .i64 k14_2), (.int .i64 (reqs.getD k27_1 0))]) (fun i => i) (fun i => [rowI 3 i (F_impl_moved k11_1 k14_2 (reqs.getD k27_1 0))]) en_97 ⟨(ev_t rfl), (ev_t rfl), (ev_t rfl), trivial⟩ rfl (fun w hw => impl_moved_ok w vk11_1 k11_1 ((ri_row 0 rfl) w hw) k14_2 (reqs.getD k27_1 0) (by first | assumption | omega | grind) (by first | assumption | omega | grind)) (fun r17_3 => ?_)
        refine TL.op (yq (y_assign (ev_t rfl))) rfl rfl rfl ?_
        refine TL.nil ?_
        refine TN.seq ?_
        refine TC.region ?_
        refine TL.op (yq (y_move (ev_t rfl))) rfl rfl rfl ?_
        refine TL.op (yq (y_move (ev_t rfl))) rfl rfl rfl ?_
        refine TL.callr (ι := Value) (vs := [r17_3]) (fun i => i) (fun i => [rowI 3 i (F_impl_moved k11_1 k14_2 (reqs.getD k27_1 0))]) en_74 ⟨(ev_t rfl), trivial⟩ rfl (fun w hw => slices_Clone_Sint_int_ok w r17_3 (F_impl_moved k11_1 k14_2 (reqs.getD k27_1 0)) ((ri_row 0 rfl) w hw) (by first | assumption | omega | grind)) (fun r18_2 => ?_)
        refine TL.buildU slT_22 (ev_t rfl) (fun w hw => ((ri_row 0 rfl) w hw).ln) rfl (fun v18_3 => ?_)
        refine TL.appendT 4 1 rfl (ev_t rfl) (ev_t rfl) rfl rfl slT_22 (rd_row 0 rfl) (by first | omega | (simp [-List.getD_eq_getElem?_getD] <;> omega)) rfl (fun v18_4 => ?_)
        refine TL.op (yq (y_assign (ev_t rfl))) rfl rfl rfl ?_
        refine TL.nil ?_
        refine TN.blockN ?_
        refine TN.seq ?_
        refine TC.region ?_
        refine TL.op (yq (y_add (ev_t rfl) ev_c (by unfold In64; omega))) rfl rfl rfl ?_
        refine TL.op (yq (y_move (ev_t rfl))) rfl rfl rfl ?_
        refine TL.nil ?_
        exact TN.hand (mf1, (k9_1 ++ [(F_impl_moved k11_1 k14_2 (reqs.getD k27_1 0))]), k10_1 + ((m.getD ((k14_2).toNat) []).getD (((reqs.getD k27_1 0)).toNat) 0), (F_impl_moved k11_1 k14_2 (reqs.getD k27_1 0)), (k27_1 + 1), v18_4, (uk9_1 ++ [r18_2]), r17_3) ⟨(by first | omega | (simp [-List.getD_eq_getElem?_getD] <;> omega)), (by first | omega | (simp [-List.getD_eq_getElem?_getD] <;> omega)), (by first | omega | (simp [-List.getD_eq_getElem?_getD] <;> omega)), hcm, (by first | omega | (simp [-List.getD_eq_getElem?_getD] <;> omega)), (by omega), hL1⟩ (Nat.lt_succ_self _) ⟨rfl, rfl, rfl, rfl, rfl, rfl, rfl, trivial⟩ (fun w hw => Hp.sublist hw (.cons _ (.cons _ (.cons_cons _ (.cons _ (.cons_cons _ (.cons_cons _ .slnil)))))))
    · rw [bif_neg h73] at hL1
      have q74 := (of_decide_eq_false h73)
      refine TC.exit ?_
      refine TN.thenE ?_
      refine TN.thenE ?_
      rw [← hL1, elim_next] at hF
      try dsimp only at hF
      refine TN.blockH ?_
      refine TN.seq ?_
      refine TC.seq ?_
      refine TC.region ?_
      refine TL.op (yq (y_move (ev_t rfl))) rfl rfl rfl ?_
      refine TL.op (yq (y_move (ev_t rfl))) rfl rfl rfl ?_
      refine TL.op (yq (y_assign (ev_t rfl))) rfl rfl rfl ?_
      refine TL.op (yq (y_assign (ev_t rfl))) rfl rfl rfl ?_
      refine TL.op (yq (y_assign ev_c)) rfl rfl rfl ?_
      refine TL.nil ?_
      refine TN.seq ?_
      refine TC.ret ?_
      subst hF
      exact TN.ret3 rfl (ev_t rfl) (ev_t rfl) (ev_t rfl) (fun w' hw => ⟨(vk9_1, uk9_1), rfl, Hp.sublist hw (.cons _ (.cons_cons _ (.cons _ .slnil)))⟩)

set_option maxRecDepth 4000 in
set_option maxHeartbeats 1000000 in
theorem spec_l6Sort_ok (w : World) (vlist : Value) (list : List Int) (hlist : RI w vlist list) (hp0 : list.length ≤ 100000) :
    Calls Try.prog 96 ([vlist] : List Value).toArray w (fun e w' => ∃ i : Value, e = .returned i ∧ Hp w [rowI 3 i (F_spec_l6Sort list)] w') := by
  obtain ⟨rz, hF⟩ : ∃ rz, (F_spec_l6Sort list) = rz := ⟨_, rfl⟩
  rw [hF]
  unfold F_spec_l6Sort at hF
  have hlen_list := arg_len hlist
  refine calls_tc Try.func96 rfl rfl rfl ?_
  change TC _ _ _ _ (Hp w []) [(0, vlist)]
  refine TC.seq ?_
  refine TC.region ?_
  refine TL.op (yq (y_assign ev_c)) rfl rfl rfl ?_
  refine TL.nil ?_
  refine TN.seq ?_
  refine TC.seq ?_
  refine TC.region ?_
  refine TL.buildI (zs := []) (qs := []) slT_25 rfl trivial rfl (by decide) rfl (fun v1_0 => ?_)
  refine TL.op (yq (y_assign (ev_t rfl))) rfl rfl rfl ?_
  refine TL.nil ?_
  refine TN.seq ?_
  refine TC.seq ?_
  refine TC.seq ?_
  refine TC.region ?_
  refine TL.op (yq (y_assign ev_c)) rfl rfl rfl ?_
  refine TL.nil ?_
  refine TN.seq ?_
  refine TC.block ?_
  obtain ⟨c21, hc22⟩ : ∃ c, F_spec_l6Sort_L1 list ((list.length - 0) + 1) (([] : List Int), 0) = c := ⟨_, rfl⟩
  rw [hc22] at hF
  refine TC.loop (ι := Nat × List Int × Nat × Value) (fun (fu1, out1, i1, vout1) => [(0, vlist), (3, vout1), (4, (.int .i64 (i1 : Int)))]) (fun (fu1, out1, i1, vout1) => Hp w [rowI 3 vout1 out1]) (fun (fu1, out1, i1, vout1) => (i1 ≤ list.length) ∧ (out1.length = i1) ∧ list.length - i1 < fu1 ∧ F_spec_l6Sort_L1 list fu1 (out1, i1) = c21) (fun (fu1, out1, i1, vout1) => fu1) ((list.length - 0) + 1, ([] : List Int), 0, v1_0) ⟨(by first | omega | (simp [-List.getD_eq_getElem?_getD] <;> omega)), (by first | omega | (simp [-List.getD_eq_getElem?_getD] <;> omega)), (by omega), hc22⟩ ⟨rfl, rfl, rfl, trivial⟩ (fun w hw => hw) ?_
  rintro ⟨fu1, out1, i1, vout1⟩ hJ1
  obtain ⟨hi1_0, hi1_1, hmu1, hL1⟩ : (i1 ≤ list.length) ∧ (out1.length = i1) ∧ list.length - i1 < fu1 ∧ F_spec_l6Sort_L1 list fu1 (out1, i1) = c21 := hJ1
  change TC _ _ _ _ (Hp w [rowI 3 vout1 out1]) [(0, vlist), (3, vout1), (4, (.int .i64 (i1 : Int)))]
  obtain ⟨mf1, rfl⟩ : ∃ m, fu1 = m + 1 := ⟨fu1 - 1, by omega⟩
  rw [F_spec_l6Sort_L1_s] at hL1
  refine TC.seq ?_
  refine TC.seq ?_
  refine TC.region ?_
  refine TL.op (yq (y_move (ev_t rfl))) rfl rfl rfl ?_
  refine TL.op (yq (y_move (ev_t rfl))) rfl rfl rfl ?_
  refine TL.op (yq (y_len (ev_t rfl) Try.underlying25 (fun w hw => ((ri_arg hlist) w hw).ln))) rfl rfl rfl ?_
  refine TL.op (yq (y_lss (ev_t rfl) (ev_t rfl))) rfl rfl rfl ?_
  refine TL.nil ?_
  refine TN.seq ?_
  refine TC.cond (b := decide ((i1 : Int) < (list.length : Int))) (ev_t rfl) (fun h23 => ?_) (fun h23 => ?_)
  · rw [bif_pos h23] at hL1
    have q24 := (of_decide_eq_true h23)
    refine TC.skip ?_
    refine TN.seq ?_
    refine TC.seq ?_
    refine TC.block ?_
    refine TC.seq ?_
    refine TC.region ?_
    refine TL.op (yq (y_assign ev_c)) rfl rfl rfl ?_
    refine TL.nil ?_
    refine TN.seq ?_
    refine TC.seq ?_
    refine TC.block ?_
    obtain ⟨c25, hc26⟩ : ∃ c, F_spec_l6Sort_L2 list out1 i1 ((out1.length - 0) + 1) 0 = c := ⟨_, rfl⟩
    rw [hc26] at hL1
    refine TC.loop (ι := Nat × Nat) (fun (fu2, k2) => [(0, vlist), (3, vout1), (4, (.int .i64 (i1 : Int))), (5, (.int .i64 (k2 : Int)))]) (fun (fu2, k2) => Hp w [rowI 3 vout1 out1]) (fun (fu2, k2) => (k2 ≤ out1.length) ∧ out1.length - k2 < fu2 ∧ F_spec_l6Sort_L2 list out1 i1 fu2 k2 = c25) (fun (fu2, k2) => fu2) ((out1.length - 0) + 1, 0) ⟨(by first | omega | (simp [-List.getD_eq_getElem?_getD] <;> omega)), (by omega), hc26⟩ ⟨rfl, rfl, rfl, rfl, trivial⟩ (fun w hw => hw) ?_
    rintro ⟨fu2, k2⟩ hJ2
    obtain ⟨hi2_0, hmu2, hL2⟩ : (k2 ≤ out1.length) ∧ out1.length - k2 < fu2 ∧ F_spec_l6Sort_L2 list out1 i1 fu2 k2 = c25 := hJ2
    change TC _ _ _ _ (Hp w [rowI 3 vout1 out1]) [(0, vlist), (3, vout1), (4, (.int .i64 (i1 : Int))), (5, (.int .i64 (k2 : Int)))]
    obtain ⟨mf2, rfl⟩ : ∃ m, fu2 = m + 1 := ⟨fu2 - 1, by omega⟩
    rw [F_spec_l6Sort_L2_s] at hL2
    refine TC.seq ?_
    refine TC.seq ?_
    refine TC.regionQ (by kernel_rfl) (by kernel_rfl) dr_hp ?_
    refine TQ.op (yq (y_move (ev_t rfl))) rfl rfl rfl ?_
    refine TQ.op (yq (y_move (ev_t rfl))) rfl rfl rfl ?_
    refine TQ.op (yq (y_len (ev_t rfl) Try.underlying25 (fun w hw => ((ri_row 0 rfl) w hw).ln))) rfl rfl rfl ?_
    refine TQ.op (yq (y_lss (ev_t rfl) (ev_t rfl))) rfl rfl rfl ?_
    refine TQ.op (yq (y_move (ev_t rfl))) rfl rfl rfl ?_
    refine TQ.opw (w_t rfl rfl rfl) (fun hg => yq (y_move (ev_t rfl))) rfl rfl ?_
    refine TQ.opw (w_t rfl rfl rfl) (fun hg => yq (y_move (ev_t rfl))) rfl rfl ?_
    refine TQ.opw (w_t rfl rfl rfl) (fun hg => yq (y_idx (k := k2) (ev_g rfl hg) (ev_g rfl hg) (by omega) slT_25 (ri_row 0 rfl) (show k2 < out1.length by have hgf := (of_decide_eq_true hg); omega))) rfl rfl ?_
    refine TQ.opw (w_t rfl rfl rfl) (fun hg => yq (y_ldi (ev_g rfl hg) one_3 (ri_row 0 rfl) (show k2 < out1.length by have hgf := (of_decide_eq_true hg); omega))) rfl rfl ?_
    refine TQ.opw (w_t rfl rfl rfl) (fun hg => yq (y_move (ev_t rfl))) rfl rfl ?_
    refine TQ.opw (w_t rfl rfl rfl) (fun hg => yq (y_move (ev_t rfl))) rfl rfl ?_
    refine TQ.opw (w_t rfl rfl rfl) (fun hg => yq (y_idx (k := i1) (ev_g rfl hg) (ev_g rfl hg) (by omega) slT_25 (ri_arg hlist) (show i1 < list.length by have hgf := (of_decide_eq_true hg); omega))) rfl rfl ?_
    refine TQ.opw (w_t rfl rfl rfl) (fun hg => yq (y_ldi (ev_g rfl hg) one_3 (ri_arg hlist) (show i1 < list.length by have hgf := (of_decide_eq_true hg); omega))) rfl rfl ?_
    refine TQ.opw (w_t rfl rfl rfl) (fun hg => yq (y_leq (ev_g rfl hg) (ev_g rfl hg))) rfl rfl ?_
    refine TQ.op (yq (y_and (ev_t rfl) (fun hq => (ev_g rfl hq)))) rfl rfl rfl ?_
    refine TQ.nil ?_
    refine TN.seq ?_
    refine TC.cond (b := ((decide ((k2 : Int) < (out1.length : Int))) && (decide ((out1.getD k2 0) ≤ (list.getD i1 0))))) (ev_t rfl) (fun h27 => ?_) (fun h27 => ?_)
    · rw [bif_pos h27] at hL2
      have q28 := (and_imp (and_t h27) (fun h => (of_decide_eq_true h)) (fun h => (of_decide_eq_true h)))
      refine TC.skip ?_
      refine TN.seq ?_
      refine TC.block ?_
      refine TC.region ?_
      refine TL.op (yq (y_move (ev_t rfl))) rfl rfl rfl ?_
      refine TL.op (yq (y_add (ev_t rfl) ev_c (by unfold In64; omega))) rfl rfl rfl ?_
      refine TL.op (yq (y_assign (ev_t rfl))) rfl rfl rfl ?_
      refine TL.nil ?_
      refine TN.blockN ?_
      exact TN.hand (mf2, (k2 + 1)) ⟨(by first | omega | (simp [-List.getD_eq_getElem?_getD] <;> omega)), (by omega), hL2⟩ (Nat.lt_succ_self _) ⟨rfl, rfl, rfl, rfl, trivial⟩ (fun w hw => hw)
    · rw [bif_neg h27] at hL2
      have q28 := ((and_f h27).imp (fun h => (of_decide_eq_false h)) (fun h => (of_decide_eq_false h)))
      refine TC.exit ?_
      refine TN.thenE ?_
      refine TN.thenE ?_
      rw [← hL2, elim_next] at hL1
      try dsimp only at hL1
      refine TN.blockH ?_
      refine TN.seq ?_
      refine TC.mid (fun a' w' => ∃ v8_14 : Value, Slots 46 [(0, vlist), (3, v8_14), (4, (.int .i64 (i1 : Int)))] a' ∧ Hp w [rowI 3 v8_14 (((([] : List Int) ++ ((out1.take k2).drop 0)) ++ ([(list.getD i1 0)])) ++ ((out1.take out1.length).drop k2))] w') ?_ ?_
      · refine TC.regionH 16 (Hp w [rowI 3 vout1 out1]) rfl (by kernel_rfl) dr_hp (fun w hw => hw) ?_
        refine TH.take 1 rfl (by kernel_rfl) (y_move (ev_t rfl)) rfl rfl rfl ?_
        refine TH.take 2 rfl (by kernel_rfl) (y_move (ev_t rfl)) rfl rfl rfl ?_
        have hs29 : 0 ≤ k2 := (by first | omega | (simp only [List.length_set, List.length_append, List.length_cons, List.length_nil, List.length_replicate]; omega))
        have hs30 : k2 ≤ out1.length := (by first | omega | (simp only [List.length_set, List.length_append, List.length_cons, List.length_nil, List.length_replicate]; omega))
        refine TH.take 3 rfl (by kernel_rfl) (y_slice_hi (ev_t rfl) (ev_t rfl) (hi := k2) (by omega) slT_25 (ri_row 0 rfl) hs30) rfl rfl rfl ?_
        refine TH.take 5 rfl (by kernel_rfl) (y_move (ev_t rfl)) rfl rfl rfl ?_
        refine TH.take 6 rfl (by kernel_rfl) (y_move (ev_t rfl)) rfl rfl rfl ?_
        have hb31 : i1 < list.length := (by first | omega | (simp only [List.length_set, List.length_append, List.length_cons, List.length_nil, List.length_replicate]; omega))
        refine TH.take 7 rfl (by kernel_rfl) (y_idx (k := i1) (ev_t rfl) (ev_t rfl) (by omega) slT_25 (ri_arg hlist) hb31) rfl rfl rfl ?_
        refine TH.take 8 rfl (by kernel_rfl) (y_ldi (ev_t rfl) one_3 (ri_arg hlist) hb31) rfl rfl rfl ?_
        refine TH.take 11 rfl (by kernel_rfl) (y_move (ev_t rfl)) rfl rfl rfl ?_
        refine TH.take 12 rfl (by kernel_rfl) (y_move (ev_t rfl)) rfl rfl rfl ?_
        have hs32 : k2 ≤ out1.length := (by first | omega | (simp only [List.length_set, List.length_append, List.length_cons, List.length_nil, List.length_replicate]; omega))
        have hs33 : out1.length ≤ out1.length := (by first | omega | (simp only [List.length_set, List.length_append, List.length_cons, List.length_nil, List.length_replicate]; omega))
        refine TH.take 13 rfl (by kernel_rfl) (y_slice_lo (ev_t rfl) (ev_t rfl) (lo := k2) (by omega) slT_25 (ri_row 0 rfl) hs32) rfl rfl rfl ?_
        refine TH.loud2 0 9 rfl rfl (by kernel_rfl) ?_ ?_
        · refine TL.buildI (zs := []) (qs := []) slT_25 rfl trivial rfl (by decide) rfl (fun v8_0 => ?_)
          refine TL.nil ?_
          refine TH.back (fun w hw => Hp.sublist hw (.cons _ (.cons_cons _ .slnil))) ?_
          refine TH.loud2 4 9 rfl rfl (by kernel_rfl) ?_ ?_
          · refine TL.appendI 0 (ev_t rfl) (ev_t rfl) rfl slT_25 (fun w hw => ri_resl ((ri_row 1 rfl) w hw) hs29 hs30) (by first | omega | (simp [-List.getD_eq_getElem?_getD] <;> omega)) rfl (fun v8_4 => ?_)
            refine TL.nil ?_
            refine TH.back (fun w hw => Hp.sublist hw (.cons _ (.cons_cons _ .slnil))) ?_
            refine TH.loud 9 rfl (by kernel_rfl) ?_
            refine TL.buildI (zs := [.tmp 38]) (qs := [(list.getD i1 0)]) slT_25 rfl ⟨(ev_t rfl), trivial⟩ rfl (by decide) rfl (fun v8_9 => ?_)
            refine TL.nil ?_
            refine TH.back (fun w hw => Hp.sublist hw (.cons _ (.cons _ (.cons_cons _ .slnil)))) ?_
            refine TH.loud 10 rfl (by kernel_rfl) ?_
            refine TL.appendI 1 (ev_t rfl) (ev_t rfl) rfl slT_25 (ri_row 0 rfl) (by first | omega | (simp [-List.getD_eq_getElem?_getD] <;> omega)) rfl (fun v8_10 => ?_)
            refine TL.nil ?_
            refine TH.back (fun w hw => Hp.sublist hw (.cons _ (.cons _ (.cons_cons _ .slnil)))) ?_
            refine TH.loud 14 rfl (by kernel_rfl) ?_
            refine TL.appendI 1 (ev_t rfl) (ev_t rfl) rfl slT_25 (fun w hw => ri_resl ((ri_row 2 rfl) w hw) hs32 hs33) (by first | omega | (simp [-List.getD_eq_getElem?_getD] <;> omega)) rfl (fun v8_14 => ?_)
            refine TL.nil ?_
            refine TH.back (fun w hw => Hp.sublist hw (.cons _ (.cons _ (.cons_cons _ .slnil)))) ?_
            refine TH.take 15 rfl (by kernel_rfl) (y_assign (ev_t rfl)) rfl rfl rfl ?_
            refine TH.done (by kernel_rfl) ?_
            exact fun a' w' hs hw => ⟨v8_14, hs.sub ⟨rfl, rfl, rfl, trivial⟩, Hp.sublist hw (.cons _ (.cons_cons _ (.cons _ .slnil)))⟩
          · refine TL.buildI (zs := [.tmp 38]) (qs := [(list.getD i1 0)]) slT_25 rfl ⟨(ev_t rfl), trivial⟩ rfl (by decide) rfl (fun v8_9 => ?_)
            refine TL.nil ?_
            refine TH.back (fun w hw => Hp.sublist hw (.cons _ (.cons _ (.cons_cons _ .slnil)))) ?_
            refine TH.loud 4 rfl (by kernel_rfl) ?_
            refine TL.appendI 1 (ev_t rfl) (ev_t rfl) rfl slT_25 (fun w hw => ri_resl ((ri_row 2 rfl) w hw) hs29 hs30) (by first | omega | (simp [-List.getD_eq_getElem?_getD] <;> omega)) rfl (fun v8_4 => ?_)
            refine TL.nil ?_
            refine TH.back (fun w hw => Hp.sublist hw (.cons _ (.cons _ (.cons_cons _ .slnil)))) ?_
            refine TH.loud 10 rfl (by kernel_rfl) ?_
            refine TL.appendI 1 (ev_t rfl) (ev_t rfl) rfl slT_25 (ri_row 0 rfl) (by first | omega | (simp [-List.getD_eq_getElem?_getD] <;> omega)) rfl (fun v8_10 => ?_)
            refine TL.nil ?_
            refine TH.back (fun w hw => Hp.sublist hw (.cons _ (.cons _ (.cons_cons _ .slnil)))) ?_
            refine TH.loud 14 rfl (by kernel_rfl) ?_
            refine TL.appendI 1 (ev_t rfl) (ev_t rfl) rfl slT_25 (fun w hw => ri_resl ((ri_row 2 rfl) w hw) hs32 hs33) (by first | omega | (simp [-List.getD_eq_getElem?_getD] <;> omega)) rfl (fun v8_14 => ?_)
            refine TL.nil ?_
            refine TH.back (fun w hw => Hp.sublist hw (.cons _ (.cons _ (.cons_cons _ .slnil)))) ?_
            refine TH.take 15 rfl (by kernel_rfl) (y_assign (ev_t rfl)) rfl rfl rfl ?_
            refine TH.done (by kernel_rfl) ?_
            exact fun a' w' hs hw => ⟨v8_14, hs.sub ⟨rfl, rfl, rfl, trivial⟩, Hp.sublist hw (.cons _ (.cons_cons _ (.cons _ .slnil)))⟩
        · refine TL.buildI (zs := [.tmp 38]) (qs := [(list.getD i1 0)]) slT_25 rfl ⟨(ev_t rfl), trivial⟩ rfl (by decide) rfl (fun v8_9 => ?_)
          refine TL.nil ?_
          refine TH.back (fun w hw => Hp.sublist hw (.cons _ (.cons_cons _ .slnil))) ?_
          refine TH.loud 0 rfl (by kernel_rfl) ?_
          refine TL.buildI (zs := []) (qs := []) slT_25 rfl trivial rfl (by decide) rfl (fun v8_0 => ?_)
          refine TL.nil ?_
          refine TH.back (fun w hw => Hp.sublist hw (.cons _ (.cons _ (.cons_cons _ .slnil)))) ?_
          refine TH.loud 4 rfl (by kernel_rfl) ?_
          refine TL.appendI 0 (ev_t rfl) (ev_t rfl) rfl slT_25 (fun w hw => ri_resl ((ri_row 2 rfl) w hw) hs29 hs30) (by first | omega | (simp [-List.getD_eq_getElem?_getD] <;> omega)) rfl (fun v8_4 => ?_)
          refine TL.nil ?_
          refine TH.back (fun w hw => Hp.sublist hw (.cons _ (.cons _ (.cons_cons _ .slnil)))) ?_
          refine TH.loud 10 rfl (by kernel_rfl) ?_
          refine TL.appendI 0 (ev_t rfl) (ev_t rfl) rfl slT_25 (ri_row 1 rfl) (by first | omega | (simp [-List.getD_eq_getElem?_getD] <;> omega)) rfl (fun v8_10 => ?_)
          refine TL.nil ?_
          refine TH.back (fun w hw => Hp.sublist hw (.cons _ (.cons _ (.cons_cons _ .slnil)))) ?_
          refine TH.loud 14 rfl (by kernel_rfl) ?_
          refine TL.appendI 0 (ev_t rfl) (ev_t rfl) rfl slT_25 (fun w hw => ri_resl ((ri_row 2 rfl) w hw) hs32 hs33) (by first | omega | (simp [-List.getD_eq_getElem?_getD] <;> omega)) rfl (fun v8_14 => ?_)
          refine TL.nil ?_
          refine TH.back (fun w hw => Hp.sublist hw (.cons _ (.cons _ (.cons_cons _ .slnil)))) ?_
          refine TH.take 15 rfl (by kernel_rfl) (y_assign (ev_t rfl)) rfl rfl rfl ?_
          refine TH.done (by kernel_rfl) ?_
          exact fun a' w' hs hw => ⟨v8_14, hs.sub ⟨rfl, rfl, rfl, trivial⟩, Hp.sublist hw (.cons_cons _ (.cons _ (.cons _ .slnil)))⟩
      · rintro a' w' ⟨v8_14, hs', hw'⟩
        refine (?_ : TN _ .normal 46 (Hp w [rowI 3 v8_14 (((([] : List Int) ++ ((out1.take k2).drop 0)) ++ ([(list.getD i1 0)])) ++ ((out1.take out1.length).drop k2))]) [(0, vlist), (3, v8_14), (4, (.int .i64 (i1 : Int)))]) a' w' hs' hw'
        clear hs' hw'
        refine TN.blockN ?_
        refine TN.seq ?_
        refine TC.region ?_
        refine TL.op (yq (y_move (ev_t rfl))) rfl rfl rfl ?_
        refine TL.op (yq (y_add (ev_t rfl) ev_c (by unfold In64; omega))) rfl rfl rfl ?_
        refine TL.op (yq (y_assign (ev_t rfl))) rfl rfl rfl ?_
        refine TL.nil ?_
        exact TN.hand (mf1, (((([] : List Int) ++ ((out1.take k2).drop 0)) ++ ([(list.getD i1 0)])) ++ ((out1.take out1.length).drop k2)), (i1 + 1), v8_14) ⟨(by first | omega | (simp [-List.getD_eq_getElem?_getD] <;> omega)), (by first | omega | (simp [-List.getD_eq_getElem?_getD] <;> omega)), (by omega), hL1⟩ (Nat.lt_succ_self _) ⟨rfl, rfl, rfl, trivial⟩ (fun w hw => hw)
  · rw [bif_neg h23] at hL1
    have q24 := (of_decide_eq_false h23)
    refine TC.exit ?_
    refine TN.thenE ?_
    refine TN.thenE ?_
    rw [← hL1, elim_next] at hF
    try dsimp only at hF
    refine TN.blockH ?_
    refine TN.seq ?_
    refine TC.seq ?_
    refine TC.region ?_
    refine TL.op (yq (y_move (ev_t rfl))) rfl rfl rfl ?_
    refine TL.op (yq (y_assign (ev_t rfl))) rfl rfl rfl ?_
    refine TL.nil ?_
    refine TN.seq ?_
    refine TC.ret ?_
    subst hF
    exact TN.ret1 rfl (ev_t rfl) (fun w' hw => ⟨vout1, rfl, hw⟩)

set_option maxRecDepth 4000 in
set_option maxHeartbeats 1000000 in
theorem spec_l6Nearest_ok (w : World) (vm : Value) (um : List Value) (m : List (List Int)) (hm : RII w vm um m) (va : Value) (a : List Int) (ha : RI w va a) (x : Int) (hp0 : Tab m) (hp1 : Cf m.length a) (hp2 : 0 ≤ x) (hp3 : x < m.length) :
    Calls Try.prog 95 ([(.agg #[vm]), va, (.int .i64 x)] : List Value).toArray w (Ret (.int .i64 (F_spec_l6Nearest m a x)) (Hp w [])) := by
  obtain ⟨rz, hF⟩ : ∃ rz, (F_spec_l6Nearest m a x) = rz := ⟨_, rfl⟩
  rw [hF]
  unfold F_spec_l6Nearest at hF
  have hn1 := hp1.n1
  have hn3 := hp1.n3
  have hlen_m := argT_len hm
  have hlen_a := arg_len ha
  refine calls_tc Try.func95 rfl rfl rfl ?_
  change TC _ _ _ _ (Hp w []) [(0, (.agg #[vm])), (1, va), (2, (.int .i64 x))]
  refine TC.seq ?_
  refine TC.region ?_
  refine TL.box (ev_t rfl) rfl (fun g0_0 => ?_)
  refine TL.op (yq (y_assign ev_c)) rfl rfl rfl ?_
  refine TL.nil ?_
  refine TN.seq ?_
  refine TC.seq ?_
  refine TC.region ?_
  refine TL.op (yq (y_assign ev_c)) rfl rfl rfl ?_
  refine TL.nil ?_
  refine TN.seq ?_
  refine TC.seq ?_
  refine TC.seq ?_
  refine TC.region ?_
  refine TL.op (yq (y_assign ev_c)) rfl rfl rfl ?_
  refine TL.nil ?_
  refine TN.seq ?_
  refine TC.block ?_
  obtain ⟨c25, hc26⟩ : ∃ c, F_spec_l6Nearest_L1 m a x ((a.length - 1) + 1) (0, 1) = c := ⟨_, rfl⟩
  rw [hc26] at hF
  refine TC.loop (ι := Nat × Nat × Nat) (fun (fu1, best1, i1) => [(1, va), (2, (.int .i64 x)), (3, (.pointer (some ⟨g0_0, 0, none⟩))), (7, (.int .i64 (best1 : Int))), (8, (.int .i64 (i1 : Int)))]) (fun (fu1, best1, i1) => Hp w [.blk g0_0 29 [vm]]) (fun (fu1, best1, i1) => (i1 ≤ max a.length 1) ∧ (best1 < a.length) ∧ a.length - i1 < fu1 ∧ F_spec_l6Nearest_L1 m a x fu1 (best1, i1) = c25) (fun (fu1, best1, i1) => fu1) ((a.length - 1) + 1, 0, 1) ⟨(by first | omega | (simp [-List.getD_eq_getElem?_getD] <;> omega)), (by first | omega | (simp [-List.getD_eq_getElem?_getD] <;> omega)), (by omega), hc26⟩ ⟨rfl, rfl, rfl, rfl, rfl, trivial⟩ (fun w hw => hw) ?_
  rintro ⟨fu1, best1, i1⟩ hJ1
  obtain ⟨hi1_0, hi1_1, hmu1, hL1⟩ : (i1 ≤ max a.length 1) ∧ (best1 < a.length) ∧ a.length - i1 < fu1 ∧ F_spec_l6Nearest_L1 m a x fu1 (best1, i1) = c25 := hJ1
  change TC _ _ _ _ (Hp w [.blk g0_0 29 [vm]]) [(1, va), (2, (.int .i64 x)), (3, (.pointer (some ⟨g0_0, 0, none⟩))), (7, (.int .i64 (best1 : Int))), (8, (.int .i64 (i1 : Int)))]
  obtain ⟨mf1, rfl⟩ : ∃ m, fu1 = m + 1 := ⟨fu1 - 1, by omega⟩
  rw [F_spec_l6Nearest_L1_s] at hL1
  have h1 := hp1.el i1
  have h2 := hp1.el best1
  have hr1 := hp0.rows (a.getD i1 0).toNat
  have hr2 := hp0.rows (a.getD best1 0).toNat
  refine TC.seq ?_
  refine TC.seq ?_
  refine TC.region ?_
  refine TL.op (yq (y_move (ev_t rfl))) rfl rfl rfl ?_
  refine TL.op (yq (y_move (ev_t rfl))) rfl rfl rfl ?_
  refine TL.op (yq (y_len (ev_t rfl) Try.underlying25 (fun w hw => ((ri_arg ha) w hw).ln))) rfl rfl rfl ?_
  refine TL.op (yq (y_lss (ev_t rfl) (ev_t rfl))) rfl rfl rfl ?_
  refine TL.nil ?_
  refine TN.seq ?_
  refine TC.cond (b := decide ((i1 : Int) < (a.length : Int))) (ev_t rfl) (fun h27 => ?_) (fun h27 => ?_)
  · rw [bif_pos h27] at hL1
    have q28 := (of_decide_eq_true h27)
    refine TC.skip ?_
    refine TN.seq ?_
    refine TC.seq ?_
    refine TC.block ?_
    refine TC.seq ?_
    refine TC.regionQ (by kernel_rfl) (by kernel_rfl) dr_hp ?_
    refine TQ.op (yq (y_fa (fa_29_0 g0_0) (ev_t rfl))) rfl rfl rfl ?_
    refine TQ.op (yq (y_ldb 0 (ev_t rfl) one_22 rfl rfl)) rfl rfl rfl ?_
    refine TQ.op (yq (y_move (ev_t rfl))) rfl rfl rfl ?_
    refine TQ.op (yq (y_move (ev_t rfl))) rfl rfl rfl ?_
    have hb29 : i1 < a.length := (by first | omega | (simp only [List.length_set, List.length_append, List.length_cons, List.length_nil, List.length_replicate]; omega))
    refine TQ.op (yq (y_idx (k := i1) (ev_t rfl) (ev_t rfl) (by omega) slT_25 (ri_arg ha) hb29)) rfl rfl rfl ?_
    refine TQ.op (yq (y_ldi (ev_t rfl) one_3 (ri_arg ha) hb29)) rfl rfl rfl ?_
    have hb30 : ((a.getD i1 0)).toNat < m.length := (by first | omega | (simp only [List.length_set, List.length_append, List.length_cons, List.length_nil, List.length_replicate]; omega))
    refine TQ.op (yq (y_idx (k := ((a.getD i1 0)).toNat) (ev_t rfl) (ev_t rfl) (by omega) slT_22 (fun w hw => ((rii_arg hm) w hw).1) hb30)) rfl rfl rfl ?_
    have ha31 := hm.row (i := ((a.getD i1 0)).toNat) hb30
    refine TQ.op (yq (y_ldA (ev_t rfl) one_25 (rii_arg hm) hb30)) rfl rfl rfl ?_
    refine TQ.op (yq (y_move (ev_t rfl))) rfl rfl rfl ?_
    have hb32 : (x).toNat < (m.getD (((a.getD i1 0)).toNat) []).length := (by first | omega | (simp only [List.length_set, List.length_append, List.length_cons, List.length_nil, List.length_replicate]; omega))
    refine TQ.op (yq (y_idx (k := (x).toNat) (ev_t rfl) (ev_t rfl) (by omega) slT_25 (ri_arg ha31) hb32)) rfl rfl rfl ?_
    refine TQ.op (yq (y_ldi (ev_t rfl) one_3 (ri_arg ha31) hb32)) rfl rfl rfl ?_
    refine TQ.op (yq (y_fa (fa_29_0 g0_0) (ev_t rfl))) rfl rfl rfl ?_
    refine TQ.op (yq (y_ldb 0 (ev_t rfl) one_22 rfl rfl)) rfl rfl rfl ?_
    refine TQ.op (yq (y_move (ev_t rfl))) rfl rfl rfl ?_
    refine TQ.op (yq (y_move (ev_t rfl))) rfl rfl rfl ?_
    have hb33 : best1 < a.length := (by first | omega | (simp only [List.length_set, List.length_append, List.length_cons, List.length_nil, List.length_replicate]; omega))
    refine TQ.op (yq (y_idx (k := best1) (ev_t rfl) (ev_t rfl) (by omega) slT_25 (ri_arg ha) hb33)) rfl rfl rfl ?_
    refine TQ.op (yq (y_ldi (ev_t rfl) one_3 (ri_arg ha) hb33)) rfl rfl rfl ?_
    have hb34 : ((a.getD best1 0)).toNat < m.length := (by first | omega | (simp only [List.length_set, List.length_append, List.length_cons, List.length_nil, List.length_replicate]; omega))
    refine TQ.op (yq (y_idx (k := ((a.getD best1 0)).toNat) (ev_t rfl) (ev_t rfl) (by omega) slT_22 (fun w hw => ((rii_arg hm) w hw).1) hb34)) rfl rfl rfl ?_
    have ha35 := hm.row (i := ((a.getD best1 0)).toNat) hb34
    refine TQ.op (yq (y_ldA (ev_t rfl) one_25 (rii_arg hm) hb34)) rfl rfl rfl ?_
    refine TQ.op (yq (y_move (ev_t rfl))) rfl rfl rfl ?_
    have hb36 : (x).toNat < (m.getD (((a.getD best1 0)).toNat) []).length := (by first | omega | (simp only [List.length_set, List.length_append, List.length_cons, List.length_nil, List.length_replicate]; omega))
    refine TQ.op (yq (y_idx (k := (x).toNat) (ev_t rfl) (ev_t rfl) (by omega) slT_25 (ri_arg ha35) hb36)) rfl rfl rfl ?_
    refine TQ.op (yq (y_ldi (ev_t rfl) one_3 (ri_arg ha35) hb36)) rfl rfl rfl ?_
    refine TQ.op (yq (y_lss (ev_t rfl) (ev_t rfl))) rfl rfl rfl ?_
    refine TQ.nil ?_
    refine TN.seq ?_
    refine TC.cond (b := decide (((m.getD (((a.getD i1 0)).toNat) []).getD ((x).toNat) 0) < ((m.getD (((a.getD best1 0)).toNat) []).getD ((x).toNat) 0))) (ev_t rfl) (fun h37 => ?_) (fun h37 => ?_)
    · rw [bif_pos h37] at hL1
      have q38 := (of_decide_eq_true h37)
      refine TC.region ?_
      refine TL.op (yq (y_move (ev_t rfl))) rfl rfl rfl ?_
      refine TL.op (yq (y_assign (ev_t rfl))) rfl rfl rfl ?_
      refine TL.nil ?_
      refine TN.blockN ?_
      refine TN.seq ?_
      refine TC.region ?_
      refine TL.op (yq (y_move (ev_t rfl))) rfl rfl rfl ?_
      refine TL.op (yq (y_add (ev_t rfl) ev_c (by unfold In64; omega))) rfl rfl rfl ?_
      refine TL.op (yq (y_assign (ev_t rfl))) rfl rfl rfl ?_
      refine TL.nil ?_
      exact TN.hand (mf1, i1, (i1 + 1)) ⟨(by first | omega | (simp [-List.getD_eq_getElem?_getD] <;> omega)), (by first | omega | (simp [-List.getD_eq_getElem?_getD] <;> omega)), (by omega), hL1⟩ (Nat.lt_succ_self _) ⟨rfl, rfl, rfl, rfl, rfl, trivial⟩ (fun w hw => hw)
    · rw [bif_neg h37] at hL1
      have q38 := (of_decide_eq_false h37)
      refine TC.skip ?_
      refine TN.blockN ?_
      refine TN.seq ?_
      refine TC.region ?_
      refine TL.op (yq (y_move (ev_t rfl))) rfl rfl rfl ?_
      refine TL.op (yq (y_add (ev_t rfl) ev_c (by unfold In64; omega))) rfl rfl rfl ?_
      refine TL.op (yq (y_assign (ev_t rfl))) rfl rfl rfl ?_
      refine TL.nil ?_
      exact TN.hand (mf1, best1, (i1 + 1)) ⟨(by first | omega | (simp [-List.getD_eq_getElem?_getD] <;> omega)), (by first | omega | (simp [-List.getD_eq_getElem?_getD] <;> omega)), (by omega), hL1⟩ (Nat.lt_succ_self _) ⟨rfl, rfl, rfl, rfl, rfl, trivial⟩ (fun w hw => hw)
  · rw [bif_neg h27] at hL1
    have q28 := (of_decide_eq_false h27)
    refine TC.exit ?_
    refine TN.thenE ?_
    refine TN.thenE ?_
    rw [← hL1, elim_next] at hF
    try dsimp only at hF
    refine TN.blockH ?_
    refine TN.seq ?_
    refine TC.seq ?_
    refine TC.region ?_
    refine TL.op (yq (y_move (ev_t rfl))) rfl rfl rfl ?_
    refine TL.op (yq (y_assign (ev_t rfl))) rfl rfl rfl ?_
    refine TL.nil ?_
    refine TN.seq ?_
    refine TC.ret ?_
    subst hF
    exact TN.ret1 rfl (ev_t rfl) (fun w' hw => ⟨rfl, Hp.sublist hw (List.nil_sublist _)⟩)

set_option maxRecDepth 4000 in
set_option maxHeartbeats 1000000 in
theorem spec_GreedyServers_ok (w : World) (vm : Value) (um : List Value) (m : List (List Int)) (hm : RII w vm um m) (vstart : Value) (start : List Int) (hstart : RI w vstart start) (vreqs : Value) (reqs : List Int) (hreqs : RI w vreqs reqs)  :
    Calls Try.prog 51 ([(.agg #[vm]), vstart, vreqs] : List Value).toArray w (fun e w' => ∃ i : Value × List Value, e = .returned (.tuple #[i.1, (.int .i64 ((F_spec_GreedyServers m start reqs).2.1)), (.bool ((F_spec_GreedyServers m start reqs).2.2))]) ∧ Hp w [tabI 25 3 i.1 i.2 ((F_spec_GreedyServers m start reqs).1)] w') := by
  obtain ⟨rz, hF⟩ : ∃ rz, (F_spec_GreedyServers m start reqs) = rz := ⟨_, rfl⟩
  rw [hF]
  unfold F_spec_GreedyServers at hF
  have hlen_m := argT_len hm
  have hlen_start := arg_len hstart
  have hlen_reqs := arg_len hreqs
  refine calls_tc Try.func51 rfl rfl rfl ?_
  change TC _ _ _ _ (Hp w []) [(0, (.agg #[vm])), (1, vstart), (2, vreqs)]
  refine TC.seq ?_
  refine TC.region ?_
  refine TL.box (ev_t rfl) rfl (fun g0_0 => ?_)
  refine TL.op (yq (y_assign ev_c)) rfl rfl rfl ?_
  refine TL.op (yq (y_assign ev_c)) rfl rfl rfl ?_
  refine TL.op (yq (y_assign ev_c)) rfl rfl rfl ?_
  refine TL.nil ?_
  refine TN.seq ?_
  refine TC.seq ?_
  refine TC.region ?_
  refine TL.buildSlice (zs := []) (vs := []) slT_22 rfl trivial (by simp) rfl (by decide) rfl (fun v1_0 => ?_)
  refine TL.cls (fun w hw => hw.emptyTab 3) ?_
  refine TL.op (yq (y_assign (ev_t rfl))) rfl rfl rfl ?_
  refine TL.nil ?_
  refine TN.seq ?_
  refine TC.seq ?_
  refine TC.seq ?_
  refine TC.region ?_
  refine TL.op (yq (y_ldagg (cs := [vm]) 1 (ev_t rfl) agg_29 rfl)) rfl rfl rfl ?_
  refine TL.op (yq (y_move (ev_t rfl))) rfl rfl rfl ?_
  refine TL.op (yq (y_move (ev_t rfl))) rfl rfl rfl ?_
  refine TL.op (y_call (vs := [(.agg #[vm]), vstart, vreqs]) (v := (.bool (F_spec_l6Start m start reqs))) en_86 ⟨(ev_t rfl), (ev_t rfl), (ev_t rfl), trivial⟩ (fun w hw => spec_l6Start_ok w vm um m ((rii_arg hm) w hw) vstart start ((ri_arg hstart) w hw) vreqs reqs ((ri_arg hreqs) w hw))) rfl rfl rfl ?_
  refine TL.op (yq (y_not (ev_t rfl))) rfl rfl rfl ?_
  refine TL.nil ?_
  refine TN.seq ?_
  refine TC.cond (b := !(F_spec_l6Start m start reqs)) (ev_t rfl) (fun h33 => ?_) (fun h33 => ?_)
  · rw [bif_pos h33] at hF
    have q34 := (not_t h33)
    refine TC.seq ?_
    refine TC.region ?_
    refine TL.op (yq (y_move (ev_t rfl))) rfl rfl rfl ?_
    refine TL.op (yq (y_assign (ev_t rfl))) rfl rfl rfl ?_
    refine TL.op (yq (y_assign ev_c)) rfl rfl rfl ?_
    refine TL.op (yq (y_assign ev_c)) rfl rfl rfl ?_
    refine TL.nil ?_
    refine TN.seq ?_
    refine TC.ret ?_
    refine TN.thenR ?_
    subst hF
    exact TN.ret3 rfl (ev_t rfl) (ev_t rfl) (ev_t rfl) (fun w' hw => ⟨(v1_0, []), rfl, Hp.sublist hw (.cons_cons _ (.cons _ .slnil))⟩)
  · rw [bif_neg h33] at hF
    have q34 := (l6Start_t (not_f h33))
    have hS := q34
    have hT := hS.tab
    have hr60 := hS.r60
    refine TC.skip ?_
    refine TN.seq ?_
    refine TC.seq ?_
    refine TC.region ?_
    refine TL.op (yq (y_move (ev_t rfl))) rfl rfl rfl ?_
    refine TL.op (yq (y_assign ev_c)) rfl rfl rfl ?_
    refine TL.op (yq (y_assign (ev_t rfl))) rfl rfl rfl ?_
    refine TL.nil ?_
    refine TN.seq ?_
    refine TC.seq ?_
    refine TC.seq ?_
    refine TC.region ?_
    refine TL.op (yq (y_assign ev_c)) rfl rfl rfl ?_
    refine TL.nil ?_
    refine TN.seq ?_
    refine TC.block ?_
    refine TC.cls (fun w hw => hw.nil 0 1) ?_
    obtain ⟨c35, hc36⟩ : ∃ c, F_spec_GreedyServers_L1 m reqs ((reqs.length - 0) + 1) (([]), 0, start, 0) = c := ⟨_, rfl⟩
    rw [hc36] at hF
    refine TC.loop (ι := Nat × List (List Int) × Int × List Int × Nat × Value × List Value × Value × Bool) (fun (fu1, k9_1, k10_1, k11_1, k12_1, vk9_1, uk9_1, vk11_1, ok11_1) => [(2, vreqs), (3, (.pointer (some ⟨g0_0, 0, none⟩))), (9, vk9_1), (10, (.int .i64 k10_1)), (11, vk11_1), (12, (.int .i64 (k12_1 : Int)))]) (fun (fu1, k9_1, k10_1, k11_1, k12_1, vk9_1, uk9_1, vk11_1, ok11_1) => Hp w [optI 3 ok11_1 vk11_1 k11_1, tabI 25 3 vk9_1 uk9_1 k9_1, .blk g0_0 29 [vm]]) (fun (fu1, k9_1, k10_1, k11_1, k12_1, vk9_1, uk9_1, vk11_1, ok11_1) => (k12_1 ≤ reqs.length) ∧ (-99 * (k12_1 : Int) ≤ k10_1) ∧ (k10_1 ≤ 99 * (k12_1 : Int)) ∧ (Cf m.length k11_1) ∧ (k9_1.length ≤ k12_1) ∧ (ok11_1 = false → RI w vk11_1 k11_1) ∧ reqs.length - k12_1 < fu1 ∧ F_spec_GreedyServers_L1 m reqs fu1 (k9_1, k10_1, k11_1, k12_1) = c35) (fun (fu1, k9_1, k10_1, k11_1, k12_1, vk9_1, uk9_1, vk11_1, ok11_1) => fu1) ((reqs.length - 0) + 1, [], 0, start, 0, v1_0, [], vstart, false) ⟨(by first | omega | (simp [-List.getD_eq_getElem?_getD] <;> omega)), (by first | omega | (simp [-List.getD_eq_getElem?_getD] <;> omega)), (by first | omega | (simp [-List.getD_eq_getElem?_getD] <;> omega)), hS.cf, (by first | omega | (simp [-List.getD_eq_getElem?_getD] <;> omega)), (fun _ => hstart), (by omega), hc36⟩ ⟨rfl, rfl, rfl, rfl, rfl, rfl, trivial⟩ (fun w hw => hw) ?_
    rintro ⟨fu1, k9_1, k10_1, k11_1, k12_1, vk9_1, uk9_1, vk11_1, ok11_1⟩ hJ1
    obtain ⟨hi1_0, hi1_1, hi1_2, hi1_3, hi1_4, hrk11_1, hmu1, hL1⟩ : (k12_1 ≤ reqs.length) ∧ (-99 * (k12_1 : Int) ≤ k10_1) ∧ (k10_1 ≤ 99 * (k12_1 : Int)) ∧ (Cf m.length k11_1) ∧ (k9_1.length ≤ k12_1) ∧ (ok11_1 = false → RI w vk11_1 k11_1) ∧ reqs.length - k12_1 < fu1 ∧ F_spec_GreedyServers_L1 m reqs fu1 (k9_1, k10_1, k11_1, k12_1) = c35 := hJ1
    change TC _ _ _ _ (Hp w [optI 3 ok11_1 vk11_1 k11_1, tabI 25 3 vk9_1 uk9_1 k9_1, .blk g0_0 29 [vm]]) [(2, vreqs), (3, (.pointer (some ⟨g0_0, 0, none⟩))), (9, vk9_1), (10, (.int .i64 k10_1)), (11, vk11_1), (12, (.int .i64 (k12_1 : Int)))]
    obtain ⟨mf1, rfl⟩ : ∃ m, fu1 = m + 1 := ⟨fu1 - 1, by omega⟩
    rw [F_spec_GreedyServers_L1_s] at hL1
    refine TC.seq ?_
    refine TC.seq ?_
    refine TC.region ?_
    refine TL.op (yq (y_move (ev_t rfl))) rfl rfl rfl ?_
    refine TL.op (yq (y_move (ev_t rfl))) rfl rfl rfl ?_
    refine TL.op (yq (y_len (ev_t rfl) Try.underlying25 (fun w hw => ((ri_arg hreqs) w hw).ln))) rfl rfl rfl ?_
    refine TL.op (yq (y_lss (ev_t rfl) (ev_t rfl))) rfl rfl rfl ?_
    refine TL.nil ?_
    refine TN.seq ?_
    refine TC.cond (b := decide ((k12_1 : Int) < (reqs.length : Int))) (ev_t rfl) (fun h37 => ?_) (fun h37 => ?_)
    · rw [bif_pos h37] at hL1
      have q38 := (of_decide_eq_true h37)
      have hre := hS.el k12_1 (by omega)
      have hre1 := hre.1
      have hre2 := hre.2
      have hn3 := hi1_3.n3
      have hnn := nearest_lt (m := m) (reqs := reqs) (a := k11_1) (q := k12_1) hi1_3.n1
      have hke := hi1_3.el (F_spec_l6Nearest m k11_1 (reqs.getD k12_1 0)).toNat (by omega)
      have hrw := hT.rows (k11_1.getD (F_spec_l6Nearest m k11_1 (reqs.getD k12_1 0)).toNat 0).toNat (by omega)
      have hme := hT.el (k11_1.getD (F_spec_l6Nearest m k11_1 (reqs.getD k12_1 0)).toNat 0).toNat (reqs.getD k12_1 0).toNat
      have hcm := cf_l6Sort hi1_3 (k := (F_spec_l6Nearest m k11_1 (reqs.getD k12_1 0)).toNat) hre1 hre2
      have hcl := hcm.n3
      refine TC.skip ?_
      refine TN.seq ?_
      refine TC.seq ?_
      refine TC.block ?_
      refine TC.seq ?_
      refine TC.regionQ (by kernel_rfl) (by kernel_rfl) dr_hp ?_
      refine TQ.op (yq (y_ldagg (cs := [vm]) 2 (ev_t rfl) agg_29 rfl)) rfl rfl rfl ?_
      refine TQ.op (yq (y_move (ev_t rfl))) rfl rfl rfl ?_
      refine TQ.op (yq (y_move (ev_t rfl))) rfl rfl rfl ?_
      refine TQ.op (yq (y_move (ev_t rfl))) rfl rfl rfl ?_
      have hb39 : k12_1 < reqs.length := (by first | omega | (simp only [List.length_set, List.length_append, List.length_cons, List.length_nil, List.length_replicate]; omega))
      refine TQ.op (yq (y_idx (k := k12_1) (ev_t rfl) (ev_t rfl) (by omega) slT_25 (ri_arg hreqs) hb39)) rfl rfl rfl ?_
      refine TQ.op (yq (y_ldi (ev_t rfl) one_3 (ri_arg hreqs) hb39)) rfl rfl rfl ?_
      refine TQ.op (y_call (vs := [(.agg #[vm]), vk11_1, (.int .i64 (reqs.getD k12_1 0))]) (v := (.int .i64 (F_spec_l6Nearest m k11_1 (reqs.getD k12_1 0)))) en_95 ⟨(ev_t rfl), (ev_t rfl), (ev_t rfl), trivial⟩ (fun w hw => spec_l6Nearest_ok w vm um m ((rii_arg hm) w hw) vk11_1 k11_1 ((ri_opt 0 rfl hrk11_1) w hw) (reqs.getD k12_1 0) (by first | assumption | omega | grind) (by first | assumption | omega | grind) (by first | assumption | omega | grind) (by first | assumption | omega | grind))) rfl rfl rfl ?_
      refine TQ.op (yq (y_assign (ev_t rfl))) rfl rfl rfl ?_
      refine TQ.nil ?_
      refine TN.seq ?_
      refine TC.seq ?_
      refine TC.regionQ (by kernel_rfl) (by kernel_rfl) dr_hp ?_
      refine TQ.op (yq (y_move (ev_t rfl))) rfl rfl rfl ?_
      refine TQ.op (yq (y_fa (fa_29_0 g0_0) (ev_t rfl))) rfl rfl rfl ?_
      refine TQ.op (yq (y_ldb 2 (ev_t rfl) one_22 rfl rfl)) rfl rfl rfl ?_
      refine TQ.op (yq (y_move (ev_t rfl))) rfl rfl rfl ?_
      refine TQ.op (yq (y_move (ev_t rfl))) rfl rfl rfl ?_
      have hb40 : ((F_spec_l6Nearest m k11_1 (reqs.getD k12_1 0))).toNat < k11_1.length := (by first | omega | (simp only [List.length_set, List.length_append, List.length_cons, List.length_nil, List.length_replicate]; omega))
      refine TQ.op (yq (y_idx (k := ((F_spec_l6Nearest m k11_1 (reqs.getD k12_1 0))).toNat) (ev_t rfl) (ev_t rfl) (by omega) slT_25 (ri_opt 0 rfl hrk11_1) hb40)) rfl rfl rfl ?_
      refine TQ.op (yq (y_ldi (ev_t rfl) one_3 (ri_opt 0 rfl hrk11_1) hb40)) rfl rfl rfl ?_
      have hb41 : ((k11_1.getD (((F_spec_l6Nearest m k11_1 (reqs.getD k12_1 0))).toNat) 0)).toNat < m.length := (by first | omega | (simp only [List.length_set, List.length_append, List.length_cons, List.length_nil, List.length_replicate]; omega))
      refine TQ.op (yq (y_idx (k := ((k11_1.getD (((F_spec_l6Nearest m k11_1 (reqs.getD k12_1 0))).toNat) 0)).toNat) (ev_t rfl) (ev_t rfl) (by omega) slT_22 (fun w hw => ((rii_arg hm) w hw).1) hb41)) rfl rfl rfl ?_
      have ha42 := hm.row (i := ((k11_1.getD (((F_spec_l6Nearest m k11_1 (reqs.getD k12_1 0))).toNat) 0)).toNat) hb41
      refine TQ.op (yq (y_ldA (ev_t rfl) one_25 (rii_arg hm) hb41)) rfl rfl rfl ?_
      refine TQ.op (yq (y_move (ev_t rfl))) rfl rfl rfl ?_
      refine TQ.op (yq (y_move (ev_t rfl))) rfl rfl rfl ?_
      have hb43 : k12_1 < reqs.length := (by first | omega | (simp only [List.length_set, List.length_append, List.length_cons, List.length_nil, List.length_replicate]; omega))
      refine TQ.op (yq (y_idx (k := k12_1) (ev_t rfl) (ev_t rfl) (by omega) slT_25 (ri_arg hreqs) hb43)) rfl rfl rfl ?_
      refine TQ.op (yq (y_ldi (ev_t rfl) one_3 (ri_arg hreqs) hb43)) rfl rfl rfl ?_
      have hb44 : ((reqs.getD k12_1 0)).toNat < (m.getD (((k11_1.getD (((F_spec_l6Nearest m k11_1 (reqs.getD k12_1 0))).toNat) 0)).toNat) []).length := (by first | omega | (simp only [List.length_set, List.length_append, List.length_cons, List.length_nil, List.length_replicate]; omega))
      refine TQ.op (yq (y_idx (k := ((reqs.getD k12_1 0)).toNat) (ev_t rfl) (ev_t rfl) (by omega) slT_25 (ri_arg ha42) hb44)) rfl rfl rfl ?_
      refine TQ.op (yq (y_ldi (ev_t rfl) one_3 (ri_arg ha42) hb44)) rfl rfl rfl ?_
      refine TQ.op (yq (y_add (ev_t rfl) (ev_t rfl) (by unfold In64; omega))) rfl rfl rfl ?_
      refine TQ.op (yq (y_assign (ev_t rfl))) rfl rfl rfl ?_
      refine TQ.nil ?_
      refine TN.seq ?_
      refine TC.seq ?_
      refine TC.region ?_
      refine TL.op (yq (y_move (ev_t rfl))) rfl rfl rfl ?_
      refine TL.callr (ι := Value) (vs := [vk11_1]) (fun i => i) (fun i => [rowI 3 i k11_1]) en_69 ⟨(ev_t rfl), trivial⟩ rfl (fun w hw => spec_l1Own_ok w vk11_1 k11_1 ((ri_opt 0 rfl hrk11_1) w hw) (by first | assumption | omega | grind)) (fun r10_1 => ?_)
      refine TL.op (yq (y_assign (ev_t rfl))) rfl rfl rfl ?_
      refine TL.nil ?_
      refine TN.seq ?_
      refine TC.seq ?_
      refine TC.region ?_
      refine TL.op (yq (y_move (ev_t rfl))) rfl rfl rfl ?_
      refine TL.op (yq (y_move (ev_t rfl))) rfl rfl rfl ?_
      refine TL.op (yq (y_move (ev_t rfl))) rfl rfl rfl ?_
      refine TL.op (yq (y_move (ev_t rfl))) rfl rfl rfl ?_
      have hb45 : k12_1 < reqs.length := (by first | omega | (simp only [List.length_set, List.length_append, List.length_cons, List.length_nil, List.length_replicate]; omega))
      refine TL.op (yq (y_idx (k := k12_1) (ev_t rfl) (ev_t rfl) (by omega) slT_25 (ri_arg hreqs) hb45)) rfl rfl rfl ?_
      refine TL.op (yq (y_ldi (ev_t rfl) one_3 (ri_arg hreqs) hb45)) rfl rfl rfl ?_
      have hb46 : ((F_spec_l6Nearest m k11_1 (reqs.getD k12_1 0))).toNat < k11_1.length := (by first | omega | (simp only [List.length_set, List.length_append, List.length_cons, List.length_nil, List.length_replicate]; omega))
      refine TL.op (yq (y_idx (k := ((F_spec_l6Nearest m k11_1 (reqs.getD k12_1 0))).toNat) (ev_t rfl) (ev_t rfl) (by omega) slT_25 (ri_row 0 rfl) hb46)) rfl rfl rfl ?_
      refine TL.storeI 0 (ev_t rfl) (ev_t rfl) one_3 rfl hb46 ?_
      refine TL.nil ?_
      refine TN.seq ?_
      refine TC.seq ?_
      refine TC.region ?_
      refine TL.op (yq (y_move (ev_t rfl))) rfl rfl rfl ?_
      refine TL.callr (ι := Value) (vs := [r10_1]) (fun i => i) (fun i => [rowI 3 i (F_spec_l6Sort (k11_1.set (((F_spec_l6Nearest m k11_1 (reqs.getD k12_1 0))).toNat) (reqs.getD k12_1 0)))]) en_96 ⟨(ev_t rfl), trivial⟩ rfl (fun w hw => spec_l6Sort_ok w r10_1 (k11_1.set (((F_spec_l6Nearest m k11_1 (reqs.getD k12_1 0))).toNat) (reqs.getD k12_1 0)) ((ri_row 0 rfl) w hw) (by first | assumption | omega | grind)) (fun r12_1 => ?_)
      refine TL.op (yq (y_assign (ev_t rfl))) rfl rfl rfl ?_
      refine TL.nil ?_
      refine TN.seq ?_
      refine TC.region ?_
      refine TL.op (yq (y_move (ev_t rfl))) rfl rfl rfl ?_
      refine TL.op (yq (y_move (ev_t rfl))) rfl rfl rfl ?_
      refine TL.callr (ι := Value) (vs := [r12_1]) (fun i => i) (fun i => [rowI 3 i (F_spec_l6Sort (k11_1.set (((F_spec_l6Nearest m k11_1 (reqs.getD k12_1 0))).toNat) (reqs.getD k12_1 0)))]) en_69 ⟨(ev_t rfl), trivial⟩ rfl (fun w hw => spec_l1Own_ok w r12_1 (F_spec_l6Sort (k11_1.set (((F_spec_l6Nearest m k11_1 (reqs.getD k12_1 0))).toNat) (reqs.getD k12_1 0))) ((ri_row 0 rfl) w hw) (by first | assumption | omega | grind)) (fun r13_2 => ?_)
      refine TL.buildU slT_22 (ev_t rfl) (fun w hw => ((ri_row 0 rfl) w hw).ln) rfl (fun v13_3 => ?_)
      refine TL.appendT 5 1 rfl (ev_t rfl) (ev_t rfl) rfl rfl slT_22 (rd_row 0 rfl) (by first | omega | (simp [-List.getD_eq_getElem?_getD] <;> omega)) rfl (fun v13_4 => ?_)
      refine TL.op (yq (y_assign (ev_t rfl))) rfl rfl rfl ?_
      refine TL.nil ?_
      refine TN.blockN ?_
      refine TN.seq ?_
      refine TC.region ?_
      refine TL.op (yq (y_move (ev_t rfl))) rfl rfl rfl ?_
      refine TL.op (yq (y_add (ev_t rfl) ev_c (by unfold In64; omega))) rfl rfl rfl ?_
      refine TL.op (yq (y_assign (ev_t rfl))) rfl rfl rfl ?_
      refine TL.nil ?_
      exact TN.hand (mf1, (k9_1 ++ [(F_spec_l6Sort (k11_1.set (((F_spec_l6Nearest m k11_1 (reqs.getD k12_1 0))).toNat) (reqs.getD k12_1 0)))]), k10_1 + ((m.getD (((k11_1.getD (((F_spec_l6Nearest m k11_1 (reqs.getD k12_1 0))).toNat) 0)).toNat) []).getD (((reqs.getD k12_1 0)).toNat) 0), (F_spec_l6Sort (k11_1.set (((F_spec_l6Nearest m k11_1 (reqs.getD k12_1 0))).toNat) (reqs.getD k12_1 0))), (k12_1 + 1), v13_4, (uk9_1 ++ [r13_2]), r12_1, true) ⟨(by first | omega | (simp [-List.getD_eq_getElem?_getD] <;> omega)), (by first | omega | (simp [-List.getD_eq_getElem?_getD] <;> omega)), (by first | omega | (simp [-List.getD_eq_getElem?_getD] <;> omega)), hcm, (by first | omega | (simp [-List.getD_eq_getElem?_getD] <;> omega)), (fun h => by cases h), (by omega), hL1⟩ (Nat.lt_succ_self _) ⟨rfl, rfl, rfl, rfl, rfl, rfl, trivial⟩ (fun w hw => Hp.sublist hw (.cons _ (.cons _ (.cons_cons _ (.cons _ (.cons _ (.cons_cons _ (.cons_cons _ .slnil))))))))
    · rw [bif_neg h37] at hL1
      have q38 := (of_decide_eq_false h37)
      refine TC.exit ?_
      refine TN.thenE ?_
      refine TN.thenE ?_
      rw [← hL1, elim_next] at hF
      try dsimp only at hF
      refine TN.blockH ?_
      refine TN.seq ?_
      refine TC.seq ?_
      refine TC.region ?_
      refine TL.op (yq (y_move (ev_t rfl))) rfl rfl rfl ?_
      refine TL.op (yq (y_move (ev_t rfl))) rfl rfl rfl ?_
      refine TL.op (yq (y_assign (ev_t rfl))) rfl rfl rfl ?_
      refine TL.op (yq (y_assign (ev_t rfl))) rfl rfl rfl ?_
      refine TL.op (yq (y_assign ev_c)) rfl rfl rfl ?_
      refine TL.nil ?_
      refine TN.seq ?_
      refine TC.ret ?_
      subst hF
      exact TN.ret3 rfl (ev_t rfl) (ev_t rfl) (ev_t rfl) (fun w' hw => ⟨(vk9_1, uk9_1), rfl, Hp.sublist hw (.cons _ (.cons_cons _ (.cons _ .slnil)))⟩)

set_option maxRecDepth 4000 in
set_option maxHeartbeats 1000000 in
theorem laws_FnExactGreedyServers_ok (w : World) (vm : Value) (um : List Value) (m : List (List Int)) (hm : RII w vm um m) (vstart : Value) (start : List Int) (hstart : RI w vstart start) (vreqs : Value) (reqs : List Int) (hreqs : RI w vreqs reqs)  :
    Calls Try.prog 14 ([(.agg #[vm]), vstart, vreqs] : List Value).toArray w (Ret (.bool (F_laws_FnExactGreedyServers m start reqs)) (Hp w [])) := by
  obtain ⟨rz, hF⟩ : ∃ rz, (F_laws_FnExactGreedyServers m start reqs) = rz := ⟨_, rfl⟩
  rw [hF]
  unfold F_laws_FnExactGreedyServers at hF
  have hta := toIntS_eq start
  have htb := toIntS_eq reqs
  have hut := greedy_total (F_laws_toMetric m) (F_laws_toIntS start) (F_laws_toIntS reqs)
  have hmt := markIntSS_total (F_impl_GreedyServers (F_laws_toMetric m) (F_laws_toIntS start) (F_laws_toIntS reqs)).1 1
  have hk1 := markMetric_fst (F_laws_toMetric m) 1
  have hk2 := markIntS_fst (F_laws_toIntS start) (F_laws_markMetric (F_laws_toMetric m) 1).1
  have hlen_m := argT_len hm
  have hlen_start := arg_len hstart
  have hlen_reqs := arg_len hreqs
  refine calls_tc Try.func14 rfl rfl rfl ?_
  change TC _ _ _ _ (Hp w []) [(0, (.agg #[vm])), (1, vstart), (2, vreqs)]
  refine TC.seq ?_
  refine TC.region ?_
  refine TL.box (ev_t rfl) rfl (fun g0_0 => ?_)
  refine TL.op (yq (y_assign ev_c)) rfl rfl rfl ?_
  refine TL.nil ?_
  refine TN.seq ?_
  refine TC.seq ?_
  refine TC.seq ?_
  refine TC.region ?_
  refine TL.op (yq (y_move (ev_t rfl))) rfl rfl rfl ?_
  refine TL.op (yq (y_len (ev_t rfl) Try.underlying25 (fun w hw => ((ri_arg hstart) w hw).ln))) rfl rfl rfl ?_
  refine TL.op (yq (y_gtr (ev_t rfl) ev_c)) rfl rfl rfl ?_
  refine TL.nil ?_
  refine TN.seq ?_
  refine TC.cond (b := decide (1048576 < (start.length : Int))) (ev_t rfl) (fun h27 => ?_) (fun h27 => ?_)
  · rw [bif_pos h27] at hF
    have q28 := (of_decide_eq_true h27)
    refine TC.seq ?_
    refine TC.region ?_
    refine TL.op (yq (y_assign ev_c)) rfl rfl rfl ?_
    refine TL.nil ?_
    refine TN.seq ?_
    refine TC.ret ?_
    refine TN.thenR ?_
    subst hF
    exact TN.ret1 rfl (ev_t rfl) (fun w' hw => ⟨rfl, Hp.sublist hw (List.nil_sublist _)⟩)
  · rw [bif_neg h27] at hF
    have q28 := (of_decide_eq_false h27)
    refine TC.skip ?_
    refine TN.seq ?_
    refine TC.seq ?_
    refine TC.seq ?_
    refine TC.region ?_
    refine TL.op (yq (y_move (ev_t rfl))) rfl rfl rfl ?_
    refine TL.op (yq (y_len (ev_t rfl) Try.underlying25 (fun w hw => ((ri_arg hreqs) w hw).ln))) rfl rfl rfl ?_
    refine TL.op (yq (y_gtr (ev_t rfl) ev_c)) rfl rfl rfl ?_
    refine TL.nil ?_
    refine TN.seq ?_
    refine TC.cond (b := decide (1048576 < (reqs.length : Int))) (ev_t rfl) (fun h29 => ?_) (fun h29 => ?_)
    · rw [bif_pos h29] at hF
      have q30 := (of_decide_eq_true h29)
      refine TC.seq ?_
      refine TC.region ?_
      refine TL.op (yq (y_assign ev_c)) rfl rfl rfl ?_
      refine TL.nil ?_
      refine TN.seq ?_
      refine TC.ret ?_
      refine TN.thenR ?_
      subst hF
      exact TN.ret1 rfl (ev_t rfl) (fun w' hw => ⟨rfl, Hp.sublist hw (List.nil_sublist _)⟩)
    · rw [bif_neg h29] at hF
      have q30 := (of_decide_eq_false h29)
      refine TC.skip ?_
      refine TN.seq ?_
      refine TC.seq ?_
      refine TC.region ?_
      refine TL.op (yq (y_assign ev_c)) rfl rfl rfl ?_
      refine TL.nil ?_
      refine TN.seq ?_
      refine TC.seq ?_
      refine TC.region ?_
      refine TL.op (yq (y_ldagg (cs := [vm]) 0 (ev_t rfl) agg_24 rfl)) rfl rfl rfl ?_
      refine TL.op (yq (y_move (ev_t rfl))) rfl rfl rfl ?_
      refine TL.op (y_call (vs := [(.agg #[vm]), (.int .i64 1048576)]) (v := (.int .i64 (F_laws_szMetric m 1048576))) en_15 ⟨(ev_t rfl), (ev_t rfl), trivial⟩ (fun w hw => laws_szMetric_ok w vm um m ((rii_arg hm) w hw) 1048576 (by first | assumption | omega | grind) (by first | assumption | omega | grind))) rfl rfl rfl ?_
      refine TL.op (yq (y_assign (ev_t rfl))) rfl rfl rfl ?_
      refine TL.nil ?_
      refine TN.seq ?_
      refine TC.seq ?_
      refine TC.seq ?_
      refine TC.region ?_
      refine TL.op (yq (y_move (ev_t rfl))) rfl rfl rfl ?_
      refine TL.op (yq (y_lss (ev_t rfl) ev_c)) rfl rfl rfl ?_
      refine TL.nil ?_
      refine TN.seq ?_
      refine TC.cond (b := decide ((F_laws_szMetric m 1048576) < 0)) (ev_t rfl) (fun h31 => ?_) (fun h31 => ?_)
      · rw [bif_pos h31] at hF
        have q32 := (of_decide_eq_true h31)
        refine TC.seq ?_
        refine TC.region ?_
        refine TL.op (yq (y_assign ev_c)) rfl rfl rfl ?_
        refine TL.nil ?_
        refine TN.seq ?_
        refine TC.ret ?_
        refine TN.thenR ?_
        subst hF
        exact TN.ret1 rfl (ev_t rfl) (fun w' hw => ⟨rfl, Hp.sublist hw (List.nil_sublist _)⟩)
      · rw [bif_neg h31] at hF
        have q32 := (of_decide_eq_false h31)
        have hsz := szMetric_t (m := m) (left := 1048576) (by omega)
        have hsz1 : ∀ i, (m.getD i []).length ≤ 1048576 := fun i => by have := hsz.2 i; omega
        have hsz2 : m.length + total m ≤ 1048576 := by have := hsz.1; omega
        have htm := toMetric_eq m
        refine TC.skip ?_
        refine TN.seq ?_
        refine TC.seq ?_
        refine TC.region ?_
        refine TL.op (yq (y_ldagg (cs := [vm]) 0 (ev_t rfl) agg_24 rfl)) rfl rfl rfl ?_
        refine TL.callr (ι := Value × List Value) (vs := [(.agg #[vm])]) (fun i => (.agg #[i.1])) (fun i => [tabI 25 3 i.1 i.2 (F_laws_toMetric m)]) en_17 ⟨(ev_t rfl), trivial⟩ rfl (fun w hw => laws_toMetric_ok w vm um m ((rii_arg hm) w hw) (by first | assumption | omega | grind) (by first | assumption | omega | grind)) (fun r9_1 => ?_)
        refine TL.op (yq (y_move (ev_t rfl))) rfl rfl rfl ?_
        refine TL.callr (ι := Value) (vs := [vstart]) (fun i => i) (fun i => [rowI 3 i (F_laws_toIntS start)]) en_18 ⟨(ev_t rfl), trivial⟩ rfl (fun w hw => laws_toIntS_ok w vstart start ((ri_arg hstart) w hw) (by first | assumption | omega | grind)) (fun r9_3 => ?_)
        refine TL.op (yq (y_move (ev_t rfl))) rfl rfl rfl ?_
        refine TL.callr (ι := Value) (vs := [vreqs]) (fun i => i) (fun i => [rowI 3 i (F_laws_toIntS reqs)]) en_18 ⟨(ev_t rfl), trivial⟩ rfl (fun w hw => laws_toIntS_ok w vreqs reqs ((ri_arg hreqs) w hw) (by first | assumption | omega | grind)) (fun r9_5 => ?_)
        refine TL.callr (ι := Value × List Value) (vs := [(.agg #[r9_1.1]), r9_3, r9_5]) (fun i => (.tuple #[i.1, (.int .i64 ((F_spec_GreedyServers (F_laws_toMetric m) (F_laws_toIntS start) (F_laws_toIntS reqs)).2.1)), (.bool ((F_spec_GreedyServers (F_laws_toMetric m) (F_laws_toIntS start) (F_laws_toIntS reqs)).2.2))])) (fun i => [tabI 25 3 i.1 i.2 ((F_spec_GreedyServers (F_laws_toMetric m) (F_laws_toIntS start) (F_laws_toIntS reqs)).1)]) en_51 ⟨(ev_t rfl), (ev_t rfl), (ev_t rfl), trivial⟩ rfl (fun w hw => spec_GreedyServers_ok w r9_1.1 r9_1.2 (F_laws_toMetric m) ((rii_tab 2 rfl) w hw) r9_3 (F_laws_toIntS start) ((ri_row 1 rfl) w hw) r9_5 (F_laws_toIntS reqs) ((ri_row 0 rfl) w hw)) (fun r9_6 => ?_)
        refine TL.op (yq (y_move (ev_t rfl))) rfl rfl rfl ?_
        refine TL.op (yq (y_extract (ev_t rfl) rfl)) rfl rfl rfl ?_
        refine TL.op (yq (y_extract (ev_t rfl) rfl)) rfl rfl rfl ?_
        refine TL.op (yq (y_extract (ev_t rfl) rfl)) rfl rfl rfl ?_
        refine TL.op (yq (y_assign (ev_t rfl))) rfl rfl rfl ?_
        refine TL.op (yq (y_assign (ev_t rfl))) rfl rfl rfl ?_
        refine TL.op (yq (y_assign (ev_t rfl))) rfl rfl rfl ?_
        refine TL.nil ?_
        refine TN.seq ?_
        refine TC.seq ?_
        refine TC.region ?_
        refine TL.op (yq (y_ldagg (cs := [vm]) 4 (ev_t rfl) agg_24 rfl)) rfl rfl rfl ?_
        refine TL.callr (ι := Value × List Value) (vs := [(.agg #[vm])]) (fun i => (.agg #[i.1])) (fun i => [tabI 25 3 i.1 i.2 (F_laws_toMetric m)]) en_17 ⟨(ev_t rfl), trivial⟩ rfl (fun w hw => laws_toMetric_ok w vm um m ((rii_arg hm) w hw) (by first | assumption | omega | grind) (by first | assumption | omega | grind)) (fun r10_1 => ?_)
        refine TL.alloc (u := (.agg #[(.slice none 0 0)])) (by kernel_rfl) rfl (fun g10_2 => ?_)
        refine TL.storeAgg (cs := [(.slice none 0 0)]) (us := [r10_1.1]) 0 (ev_t rfl) (ev_t rfl) agg_29 rfl rfl (fun w hw => (ocs_cons (ln_one ((fun w hw => ((rii_tab 1 rfl) w hw).1) w hw).ln) ocs_nil)) ?_
        refine TL.nil ?_
        refine TN.seq ?_
        refine TC.seq ?_
        refine TC.region ?_
        refine TL.op (yq (y_move (ev_t rfl))) rfl rfl rfl ?_
        refine TL.callr (ι := Value) (vs := [vstart]) (fun i => i) (fun i => [rowI 3 i (F_laws_toIntS start)]) en_18 ⟨(ev_t rfl), trivial⟩ rfl (fun w hw => laws_toIntS_ok w vstart start ((ri_arg hstart) w hw) (by first | assumption | omega | grind)) (fun r11_1 => ?_)
        refine TL.op (yq (y_assign (ev_t rfl))) rfl rfl rfl ?_
        refine TL.nil ?_
        refine TN.seq ?_
        refine TC.seq ?_
        refine TC.region ?_
        refine TL.op (yq (y_move (ev_t rfl))) rfl rfl rfl ?_
        refine TL.callr (ι := Value) (vs := [vreqs]) (fun i => i) (fun i => [rowI 3 i (F_laws_toIntS reqs)]) en_18 ⟨(ev_t rfl), trivial⟩ rfl (fun w hw => laws_toIntS_ok w vreqs reqs ((ri_arg hreqs) w hw) (by first | assumption | omega | grind)) (fun r12_1 => ?_)
        refine TL.op (yq (y_assign (ev_t rfl))) rfl rfl rfl ?_
        refine TL.nil ?_
        refine TN.seq ?_
        refine TC.seq ?_
        refine TC.region ?_
        refine TL.op (yq (y_ldagg (cs := [r10_1.1]) 2 (ev_t rfl) agg_29 rfl)) rfl rfl rfl ?_
        refine TL.op (yq (y_move (ev_t rfl))) rfl rfl rfl ?_
        refine TL.op (yq (y_move (ev_t rfl))) rfl rfl rfl ?_
        refine TL.callr (ι := Value × List Value) (vs := [(.agg #[r10_1.1]), r11_1, r12_1]) (fun i => (.tuple #[i.1, (.int .i64 ((F_impl_GreedyServers (F_laws_toMetric m) (F_laws_toIntS start) (F_laws_toIntS reqs)).2.1)), (.bool ((F_impl_GreedyServers (F_laws_toMetric m) (F_laws_toIntS start) (F_laws_toIntS reqs)).2.2))])) (fun i => [tabI 25 3 i.1 i.2 ((F_impl_GreedyServers (F_laws_toMetric m) (F_laws_toIntS start) (F_laws_toIntS reqs)).1)]) en_52 ⟨(ev_t rfl), (ev_t rfl), (ev_t rfl), trivial⟩ rfl (fun w hw => impl_GreedyServers_ok w r10_1.1 r10_1.2 (F_laws_toMetric m) ((rii_tab 3 rfl) w hw) r11_1 (F_laws_toIntS start) ((ri_row 1 rfl) w hw) r12_1 (F_laws_toIntS reqs) ((ri_row 0 rfl) w hw)) (fun r13_3 => ?_)
        refine TL.op (yq (y_move (ev_t rfl))) rfl rfl rfl ?_
        refine TL.op (yq (y_extract (ev_t rfl) rfl)) rfl rfl rfl ?_
        refine TL.op (yq (y_extract (ev_t rfl) rfl)) rfl rfl rfl ?_
        refine TL.op (yq (y_extract (ev_t rfl) rfl)) rfl rfl rfl ?_
        refine TL.op (yq (y_assign (ev_t rfl))) rfl rfl rfl ?_
        refine TL.op (yq (y_assign (ev_t rfl))) rfl rfl rfl ?_
        refine TL.op (yq (y_assign (ev_t rfl))) rfl rfl rfl ?_
        refine TL.nil ?_
        refine TN.seq ?_
        refine TC.seq ?_
        refine TC.seq ?_
        refine TC.region ?_
        refine TL.op (yq (y_move (ev_t rfl))) rfl rfl rfl ?_
        refine TL.op (yq (y_move (ev_t rfl))) rfl rfl rfl ?_
        refine TL.op (y_call (vs := [r13_3.1, r9_6.1]) (v := (.bool (F_laws_eqIntSS ((F_impl_GreedyServers (F_laws_toMetric m) (F_laws_toIntS start) (F_laws_toIntS reqs)).1) ((F_spec_GreedyServers (F_laws_toMetric m) (F_laws_toIntS start) (F_laws_toIntS reqs)).1)))) en_31 ⟨(ev_t rfl), (ev_t rfl), trivial⟩ (fun w hw => laws_eqIntSS_ok w r13_3.1 r13_3.2 ((F_impl_GreedyServers (F_laws_toMetric m) (F_laws_toIntS start) (F_laws_toIntS reqs)).1) ((rii_tab 0 rfl) w hw) r9_6.1 r9_6.2 ((F_spec_GreedyServers (F_laws_toMetric m) (F_laws_toIntS start) (F_laws_toIntS reqs)).1) ((rii_tab 5 rfl) w hw))) rfl rfl rfl ?_
        refine TL.op (yq (y_not (ev_t rfl))) rfl rfl rfl ?_
        refine TL.op (yq (y_move (ev_t rfl))) rfl rfl rfl ?_
        refine TL.opw (w_f rfl rfl rfl) (fun hg => yq (y_move (ev_t rfl))) rfl rfl ?_
        refine TL.opw (w_f rfl rfl rfl) (fun hg => yq (y_move (ev_t rfl))) rfl rfl ?_
        refine TL.opw (w_f rfl rfl rfl) (fun hg => yq (y_neq (ev_g rfl hg) (ev_g rfl hg))) rfl rfl ?_
        refine TL.op (yq (y_or (ev_t rfl) (fun hq => (ev_g rfl hq)))) rfl rfl rfl ?_
        refine TL.op (yq (y_move (ev_t rfl))) rfl rfl rfl ?_
        refine TL.opw (w_f rfl rfl rfl) (fun hg => yq (y_move (ev_t rfl))) rfl rfl ?_
        refine TL.opw (w_f rfl rfl rfl) (fun hg => yq (y_move (ev_t rfl))) rfl rfl ?_
        refine TL.opw (w_f rfl rfl rfl) (fun hg => yq (y_bneq (ev_g rfl hg) (ev_g rfl hg) Try.underlying4)) rfl rfl ?_
        refine TL.op (yq (y_or (ev_t rfl) (fun hq => (ev_g rfl hq)))) rfl rfl rfl ?_
        refine TL.nil ?_
        refine TN.seq ?_
        refine TC.cond (b := (((!(F_laws_eqIntSS ((F_impl_GreedyServers (F_laws_toMetric m) (F_laws_toIntS start) (F_laws_toIntS reqs)).1) ((F_spec_GreedyServers (F_laws_toMetric m) (F_laws_toIntS start) (F_laws_toIntS reqs)).1))) || (!decide ((F_impl_GreedyServers (F_laws_toMetric m) (F_laws_toIntS start) (F_laws_toIntS reqs)).2.1 = (F_spec_GreedyServers (F_laws_toMetric m) (F_laws_toIntS start) (F_laws_toIntS reqs)).2.1))) || (((F_impl_GreedyServers (F_laws_toMetric m) (F_laws_toIntS start) (F_laws_toIntS reqs)).2.2) != ((F_spec_GreedyServers (F_laws_toMetric m) (F_laws_toIntS start) (F_laws_toIntS reqs)).2.2)))) (ev_t rfl) (fun h33 => ?_) (fun h33 => ?_)
        · rw [bif_pos h33] at hF
          have q34 := ((or_t h33).imp (fun h => ((or_t h).imp (fun h => (not_t h)) (fun h => (of_decide_eq_false (not_t h))))) (fun h => h))
          refine TC.seq ?_
          refine TC.region ?_
          refine TL.op (yq (y_assign ev_c)) rfl rfl rfl ?_
          refine TL.nil ?_
          refine TN.seq ?_
          refine TC.ret ?_
          refine TN.thenR ?_
          subst hF
          exact TN.ret1 rfl (ev_t rfl) (fun w' hw => ⟨rfl, Hp.sublist hw (List.nil_sublist _)⟩)
        · rw [bif_neg h33] at hF
          have q34 := (and_imp (or_f h33) (fun h => (and_imp (or_f h) (fun h => (not_f h)) (fun h => (of_decide_eq_true (not_f h))))) (fun h => h))
          refine TC.skip ?_
          refine TN.seq ?_
          refine TC.seq ?_
          refine TC.seq ?_
          refine TC.regionH 5 (Hp w [tabI 25 3 r13_3.1 r13_3.2 ((F_impl_GreedyServers (F_laws_toMetric m) (F_laws_toIntS start) (F_laws_toIntS reqs)).1), rowI 3 r12_1 (F_laws_toIntS reqs), rowI 3 r11_1 (F_laws_toIntS start), .blk g10_2 29 [r10_1.1], tabI 25 3 r10_1.1 r10_1.2 (F_laws_toMetric m), tabI 25 3 r9_6.1 r9_6.2 ((F_spec_GreedyServers (F_laws_toMetric m) (F_laws_toIntS start) (F_laws_toIntS reqs)).1), rowI 3 r9_5 (F_laws_toIntS reqs), rowI 3 r9_3 (F_laws_toIntS start), tabI 25 3 r9_1.1 r9_1.2 (F_laws_toMetric m), .blk g0_0 24 [vm]]) rfl (by kernel_rfl) dr_hp (fun w hw => hw) ?_
          refine TH.take 0 rfl (by kernel_rfl) (y_ldagg (cs := [r10_1.1]) 3 (ev_t rfl) agg_29 rfl) rfl rfl rfl ?_
          refine TH.take 1 rfl (by kernel_rfl) (y_ldagg (cs := [vm]) 9 (ev_t rfl) agg_24 rfl) rfl rfl rfl ?_
          refine TH.loud 2 rfl (by kernel_rfl) ?_
          refine TL.callr (ι := Value × List Value) (vs := [(.agg #[vm])]) (fun i => (.agg #[i.1])) (fun i => [tabI 25 3 i.1 i.2 (F_laws_toMetric m)]) en_17 ⟨(ev_t rfl), trivial⟩ rfl (fun w hw => laws_toMetric_ok w vm um m ((rii_arg hm) w hw) (by first | assumption | omega | grind) (by first | assumption | omega | grind)) (fun r16_2 => ?_)
          refine TL.nil ?_
          refine TH.back (fun w hw => Hp.sublist hw (.cons _ (.cons_cons _ (.cons_cons _ (.cons_cons _ (.cons_cons _ (.cons_cons _ (.cons_cons _ (.cons_cons _ (.cons_cons _ (.cons_cons _ (.cons_cons _ .slnil)))))))))))) ?_
          refine TH.loud 3 rfl (by kernel_rfl) ?_
          refine TL.op (y_call (vs := [(.agg #[r10_1.1]), (.agg #[r16_2.1])]) (v := (.bool (F_laws_eqMetric (F_laws_toMetric m) (F_laws_toMetric m)))) en_20 ⟨(ev_t rfl), (ev_t rfl), trivial⟩ (fun w hw => laws_eqMetric_ok w r10_1.1 r10_1.2 (F_laws_toMetric m) ((rii_tab 5 rfl) w hw) r16_2.1 r16_2.2 (F_laws_toMetric m) ((rii_tab 0 rfl) w hw))) rfl rfl rfl ?_
          refine TL.nil ?_
          refine TH.back (fun w hw => Hp.sublist hw (.cons _ (.cons_cons _ (.cons_cons _ (.cons_cons _ (.cons_cons _ (.cons_cons _ (.cons_cons _ (.cons_cons _ (.cons_cons _ (.cons_cons _ (.cons_cons _ .slnil)))))))))))) ?_
          refine TH.take 4 rfl (by kernel_rfl) (y_not (ev_t rfl)) rfl rfl rfl ?_
          refine TH.done (by kernel_rfl) ?_
          refine TN.seq ?_
          refine TC.cond (b := !(F_laws_eqMetric (F_laws_toMetric m) (F_laws_toMetric m))) (ev_t rfl) (fun h35 => ?_) (fun h35 => ?_)
          · rw [bif_pos h35] at hF
            have q36 := (not_t h35)
            refine TC.seq ?_
            refine TC.region ?_
            refine TL.op (yq (y_assign ev_c)) rfl rfl rfl ?_
            refine TL.nil ?_
            refine TN.seq ?_
            refine TC.ret ?_
            refine TN.thenR ?_
            subst hF
            exact TN.ret1 rfl (ev_t rfl) (fun w' hw => ⟨rfl, Hp.sublist hw (List.nil_sublist _)⟩)
          · rw [bif_neg h35] at hF
            have q36 := (not_f h35)
            refine TC.skip ?_
            refine TN.seq ?_
            refine TC.seq ?_
            refine TC.seq ?_
            refine TC.region ?_
            refine TL.op (yq (y_move (ev_t rfl))) rfl rfl rfl ?_
            refine TL.op (yq (y_move (ev_t rfl))) rfl rfl rfl ?_
            refine TL.callr (ι := Value) (vs := [vstart]) (fun i => i) (fun i => [rowI 3 i (F_laws_toIntS start)]) en_18 ⟨(ev_t rfl), trivial⟩ rfl (fun w hw => laws_toIntS_ok w vstart start ((ri_arg hstart) w hw) (by first | assumption | omega | grind)) (fun r18_2 => ?_)
            refine TL.op (y_call (vs := [r11_1, r18_2]) (v := (.bool (F_laws_eqIntS (F_laws_toIntS start) (F_laws_toIntS start)))) en_21 ⟨(ev_t rfl), (ev_t rfl), trivial⟩ (fun w hw => laws_eqIntS_ok w r11_1 (F_laws_toIntS start) ((ri_row 4 rfl) w hw) r18_2 (F_laws_toIntS start) ((ri_row 0 rfl) w hw))) rfl rfl rfl ?_
            refine TL.op (yq (y_not (ev_t rfl))) rfl rfl rfl ?_
            refine TL.nil ?_
            refine TN.seq ?_
            refine TC.cond (b := !(F_laws_eqIntS (F_laws_toIntS start) (F_laws_toIntS start))) (ev_t rfl) (fun h37 => ?_) (fun h37 => ?_)
            · rw [bif_pos h37] at hF
              have q38 := (not_t h37)
              refine TC.seq ?_
              refine TC.region ?_
              refine TL.op (yq (y_assign ev_c)) rfl rfl rfl ?_
              refine TL.nil ?_
              refine TN.seq ?_
              refine TC.ret ?_
              refine TN.thenR ?_
              subst hF
              exact TN.ret1 rfl (ev_t rfl) (fun w' hw => ⟨rfl, Hp.sublist hw (List.nil_sublist _)⟩)
            · rw [bif_neg h37] at hF
              have q38 := (not_f h37)
              refine TC.skip ?_
              refine TN.seq ?_
              refine TC.seq ?_
              refine TC.seq ?_
              refine TC.region ?_
              refine TL.op (yq (y_move (ev_t rfl))) rfl rfl rfl ?_
              refine TL.op (yq (y_move (ev_t rfl))) rfl rfl rfl ?_
              refine TL.callr (ι := Value) (vs := [vreqs]) (fun i => i) (fun i => [rowI 3 i (F_laws_toIntS reqs)]) en_18 ⟨(ev_t rfl), trivial⟩ rfl (fun w hw => laws_toIntS_ok w vreqs reqs ((ri_arg hreqs) w hw) (by first | assumption | omega | grind)) (fun r20_2 => ?_)
              refine TL.op (y_call (vs := [r12_1, r20_2]) (v := (.bool (F_laws_eqIntS (F_laws_toIntS reqs) (F_laws_toIntS reqs)))) en_21 ⟨(ev_t rfl), (ev_t rfl), trivial⟩ (fun w hw => laws_eqIntS_ok w r12_1 (F_laws_toIntS reqs) ((ri_row 4 rfl) w hw) r20_2 (F_laws_toIntS reqs) ((ri_row 0 rfl) w hw))) rfl rfl rfl ?_
              refine TL.op (yq (y_not (ev_t rfl))) rfl rfl rfl ?_
              refine TL.nil ?_
              refine TN.seq ?_
              refine TC.cond (b := !(F_laws_eqIntS (F_laws_toIntS reqs) (F_laws_toIntS reqs))) (ev_t rfl) (fun h39 => ?_) (fun h39 => ?_)
              · rw [bif_pos h39] at hF
                have q40 := (not_t h39)
                refine TC.seq ?_
                refine TC.region ?_
                refine TL.op (yq (y_assign ev_c)) rfl rfl rfl ?_
                refine TL.nil ?_
                refine TN.seq ?_
                refine TC.ret ?_
                refine TN.thenR ?_
                subst hF
                exact TN.ret1 rfl (ev_t rfl) (fun w' hw => ⟨rfl, Hp.sublist hw (List.nil_sublist _)⟩)
              · rw [bif_neg h39] at hF
                have q40 := (not_f h39)
                refine TC.skip ?_
                refine TN.seq ?_
                refine TC.seq ?_
                refine TC.region ?_
                refine TL.op (yq (y_assign ev_c)) rfl rfl rfl ?_
                refine TL.nil ?_
                refine TN.seq ?_
                refine TC.seq ?_
                refine TC.region ?_
                refine TL.op (yq (y_ldagg (cs := [r10_1.1]) 6 (ev_t rfl) agg_29 rfl)) rfl rfl rfl ?_
                refine TL.op (yq (y_move (ev_t rfl))) rfl rfl rfl ?_
                refine TL.callm (ι := Unit) 7 (vs := [(.agg #[r10_1.1]), (.int .i64 1)]) (fun _ => (.int .i64 ((F_laws_markMetric (F_laws_toMetric m) 1).1))) (fun _ => tabI 25 3 r10_1.1 r10_1.2 ((F_laws_markMetric (F_laws_toMetric m) 1).2)) en_26 ⟨(ev_t rfl), (ev_t rfl), trivial⟩ rfl rfl (fun w1 fr1 hw => laws_markMetric_ok w w1 fr1 r10_1.1 r10_1.2 (F_laws_toMetric m) hw 1 (by first | assumption | omega | grind) (by first | assumption | omega | grind)) (fun _ => ?_)
                refine TL.op (yq (y_assign (ev_t rfl))) rfl rfl rfl ?_
                refine TL.nil ?_
                refine TN.seq ?_
                refine TC.seq ?_
                refine TC.region ?_
                refine TL.op (yq (y_move (ev_t rfl))) rfl rfl rfl ?_
                refine TL.op (yq (y_move (ev_t rfl))) rfl rfl rfl ?_
                refine TL.callm (ι := Unit) 5 (vs := [r11_1, (.int .i64 ((F_laws_markMetric (F_laws_toMetric m) 1).1))]) (fun _ => (.int .i64 ((F_laws_markIntS (F_laws_toIntS start) ((F_laws_markMetric (F_laws_toMetric m) 1).1)).1))) (fun _ => rowI 3 r11_1 ((F_laws_markIntS (F_laws_toIntS start) ((F_laws_markMetric (F_laws_toMetric m) 1).1)).2)) en_27 ⟨(ev_t rfl), (ev_t rfl), trivial⟩ rfl rfl (fun w1 fr1 hw => laws_markIntS_ok w w1 fr1 r11_1 (F_laws_toIntS start) hw ((F_laws_markMetric (F_laws_toMetric m) 1).1) (by first | assumption | omega | grind) (by first | assumption | omega | grind)) (fun _ => ?_)
                refine TL.op (yq (y_assign (ev_t rfl))) rfl rfl rfl ?_
                refine TL.nil ?_
                refine TN.seq ?_
                refine TC.seq ?_
                refine TC.region ?_
                refine TL.op (yq (y_move (ev_t rfl))) rfl rfl rfl ?_
                refine TL.op (yq (y_move (ev_t rfl))) rfl rfl rfl ?_
                refine TL.callm (ι := Unit) 4 (vs := [r12_1, (.int .i64 ((F_laws_markIntS (F_laws_toIntS start) ((F_laws_markMetric (F_laws_toMetric m) 1).1)).1))]) (fun _ => (.int .i64 ((F_laws_markIntS (F_laws_toIntS reqs) ((F_laws_markIntS (F_laws_toIntS start) ((F_laws_markMetric (F_laws_toMetric m) 1).1)).1)).1))) (fun _ => rowI 3 r12_1 ((F_laws_markIntS (F_laws_toIntS reqs) ((F_laws_markIntS (F_laws_toIntS start) ((F_laws_markMetric (F_laws_toMetric m) 1).1)).1)).2)) en_27 ⟨(ev_t rfl), (ev_t rfl), trivial⟩ rfl rfl (fun w1 fr1 hw => laws_markIntS_ok w w1 fr1 r12_1 (F_laws_toIntS reqs) hw ((F_laws_markIntS (F_laws_toIntS start) ((F_laws_markMetric (F_laws_toMetric m) 1).1)).1) (by first | assumption | omega | grind) (by first | assumption | omega | grind)) (fun _ => ?_)
                refine TL.op (yq (y_assign (ev_t rfl))) rfl rfl rfl ?_
                refine TL.nil ?_
                refine TN.seq ?_
                refine TC.seq ?_
                refine TC.seq ?_
                refine TC.region ?_
                refine TL.op (yq (y_move (ev_t rfl))) rfl rfl rfl ?_
                refine TL.op (yq (y_lss (ev_t rfl) ev_c)) rfl rfl rfl ?_
                refine TL.op (yq (y_move (ev_t rfl))) rfl rfl rfl ?_
                refine TL.opw (w_f rfl rfl rfl) (fun hg => yq (y_move (ev_t rfl))) rfl rfl ?_
                refine TL.opw (w_f rfl rfl rfl) (fun hg => yq (y_move (ev_t rfl))) rfl rfl ?_
                refine TL.opw (w_f rfl rfl rfl) (fun hg => y_call (vs := [r13_3.1, r9_6.1]) (v := (.bool (F_laws_eqIntSS ((F_impl_GreedyServers (F_laws_toMetric m) (F_laws_toIntS start) (F_laws_toIntS reqs)).1) ((F_spec_GreedyServers (F_laws_toMetric m) (F_laws_toIntS start) (F_laws_toIntS reqs)).1)))) en_31 ⟨(ev_g rfl hg), (ev_g rfl hg), trivial⟩ (fun w hw => laws_eqIntSS_ok w r13_3.1 r13_3.2 ((F_impl_GreedyServers (F_laws_toMetric m) (F_laws_toIntS start) (F_laws_toIntS reqs)).1) ((rii_tab 3 rfl) w hw) r9_6.1 r9_6.2 ((F_spec_GreedyServers (F_laws_toMetric m) (F_laws_toIntS start) (F_laws_toIntS reqs)).1) ((rii_tab 8 rfl) w hw))) rfl rfl ?_
                refine TL.opw (w_f rfl rfl rfl) (fun hg => yq (y_not (ev_g rfl hg))) rfl rfl ?_
                refine TL.op (yq (y_or (ev_t rfl) (fun hq => (ev_g rfl hq)))) rfl rfl rfl ?_
                refine TL.op (yq (y_move (ev_t rfl))) rfl rfl rfl ?_
                refine TL.opw (w_f rfl rfl rfl) (fun hg => yq (y_move (ev_t rfl))) rfl rfl ?_
                refine TL.opw (w_f rfl rfl rfl) (fun hg => yq (y_move (ev_t rfl))) rfl rfl ?_
                refine TL.opw (w_f rfl rfl rfl) (fun hg => yq (y_neq (ev_g rfl hg) (ev_g rfl hg))) rfl rfl ?_
                refine TL.op (yq (y_or (ev_t rfl) (fun hq => (ev_g rfl hq)))) rfl rfl rfl ?_
                refine TL.op (yq (y_move (ev_t rfl))) rfl rfl rfl ?_
                refine TL.opw (w_f rfl rfl rfl) (fun hg => yq (y_move (ev_t rfl))) rfl rfl ?_
                refine TL.opw (w_f rfl rfl rfl) (fun hg => yq (y_move (ev_t rfl))) rfl rfl ?_
                refine TL.opw (w_f rfl rfl rfl) (fun hg => yq (y_bneq (ev_g rfl hg) (ev_g rfl hg) Try.underlying4)) rfl rfl ?_
                refine TL.op (yq (y_or (ev_t rfl) (fun hq => (ev_g rfl hq)))) rfl rfl rfl ?_
                refine TL.nil ?_
                refine TN.seq ?_
                refine TC.cond (b := ((((decide ((F_laws_markIntS (F_laws_toIntS reqs) ((F_laws_markIntS (F_laws_toIntS start) ((F_laws_markMetric (F_laws_toMetric m) 1).1)).1)).1 < 0)) || (!(F_laws_eqIntSS ((F_impl_GreedyServers (F_laws_toMetric m) (F_laws_toIntS start) (F_laws_toIntS reqs)).1) ((F_spec_GreedyServers (F_laws_toMetric m) (F_laws_toIntS start) (F_laws_toIntS reqs)).1)))) || (!decide ((F_impl_GreedyServers (F_laws_toMetric m) (F_laws_toIntS start) (F_laws_toIntS reqs)).2.1 = (F_spec_GreedyServers (F_laws_toMetric m) (F_laws_toIntS start) (F_laws_toIntS reqs)).2.1))) || (((F_impl_GreedyServers (F_laws_toMetric m) (F_laws_toIntS start) (F_laws_toIntS reqs)).2.2) != ((F_spec_GreedyServers (F_laws_toMetric m) (F_laws_toIntS start) (F_laws_toIntS reqs)).2.2)))) (ev_t rfl) (fun h41 => ?_) (fun h41 => ?_)
                · rw [bif_pos h41] at hF
                  have q42 := ((or_t h41).imp (fun h => ((or_t h).imp (fun h => ((or_t h).imp (fun h => (of_decide_eq_true h)) (fun h => (not_t h)))) (fun h => (of_decide_eq_false (not_t h))))) (fun h => h))
                  refine TC.seq ?_
                  refine TC.region ?_
                  refine TL.op (yq (y_assign ev_c)) rfl rfl rfl ?_
                  refine TL.nil ?_
                  refine TN.seq ?_
                  refine TC.ret ?_
                  refine TN.thenR ?_
                  subst hF
                  exact TN.ret1 rfl (ev_t rfl) (fun w' hw => ⟨rfl, Hp.sublist hw (List.nil_sublist _)⟩)
                · rw [bif_neg h41] at hF
                  have q42 := (and_imp (or_f h41) (fun h => (and_imp (or_f h) (fun h => (and_imp (or_f h) (fun h => (of_decide_eq_false h)) (fun h => (not_f h)))) (fun h => (of_decide_eq_true (not_f h))))) (fun h => h))
                  refine TC.skip ?_
                  refine TN.seq ?_
                  refine TC.seq ?_
                  refine TC.region ?_
                  refine TL.op (yq (y_assign ev_c)) rfl rfl rfl ?_
                  refine TL.nil ?_
                  refine TN.seq ?_
                  refine TC.seq ?_
                  refine TC.region ?_
                  refine TL.op (yq (y_move (ev_t rfl))) rfl rfl rfl ?_
                  refine TL.op (yq (y_move (ev_t rfl))) rfl rfl rfl ?_
                  refine TL.callm (ι := Unit) 3 (vs := [r13_3.1, (.int .i64 1)]) (fun _ => (.int .i64 ((F_laws_markIntSS ((F_impl_GreedyServers (F_laws_toMetric m) (F_laws_toIntS start) (F_laws_toIntS reqs)).1) 1).1))) (fun _ => tabI 25 3 r13_3.1 r13_3.2 ((F_laws_markIntSS ((F_impl_GreedyServers (F_laws_toMetric m) (F_laws_toIntS start) (F_laws_toIntS reqs)).1) 1).2)) en_32 ⟨(ev_t rfl), (ev_t rfl), trivial⟩ rfl rfl (fun w1 fr1 hw => laws_markIntSS_ok w w1 fr1 r13_3.1 r13_3.2 ((F_impl_GreedyServers (F_laws_toMetric m) (F_laws_toIntS start) (F_laws_toIntS reqs)).1) hw 1 (by first | assumption | omega | grind) (by first | assumption | omega | grind)) (fun _ => ?_)
                  refine TL.op (yq (y_assign (ev_t rfl))) rfl rfl rfl ?_
                  refine TL.nil ?_
                  refine TN.seq ?_
                  refine TC.seq ?_
                  refine TC.region ?_
                  refine TL.op (yq (y_assign ev_c)) rfl rfl rfl ?_
                  refine TL.nil ?_
                  refine TN.seq ?_
                  refine TC.seq ?_
                  refine TC.region ?_
                  refine TL.op (yq (y_move (ev_t rfl))) rfl rfl rfl ?_
                  refine TL.op (yq (y_move (ev_t rfl))) rfl rfl rfl ?_
                  refine TL.op (y_call (vs := [r13_3.1, (.int .i64 1)]) (v := (.int .i64 (F_laws_heldIntSS ((F_laws_markIntSS ((F_impl_GreedyServers (F_laws_toMetric m) (F_laws_toIntS start) (F_laws_toIntS reqs)).1) 1).2) 1))) en_33 ⟨(ev_t rfl), (ev_t rfl), trivial⟩ (fun w hw => laws_heldIntSS_ok w r13_3.1 r13_3.2 ((F_laws_markIntSS ((F_impl_GreedyServers (F_laws_toMetric m) (F_laws_toIntS start) (F_laws_toIntS reqs)).1) 1).2) ((rii_tab 3 rfl) w hw) 1 (by first | assumption | omega | grind) (by first | assumption | omega | grind))) rfl rfl rfl ?_
                  refine TL.op (yq (y_assign (ev_t rfl))) rfl rfl rfl ?_
                  refine TL.nil ?_
                  refine TN.seq ?_
                  refine TC.seq ?_
                  refine TC.seq ?_
                  refine TC.region ?_
                  refine TL.op (yq (y_move (ev_t rfl))) rfl rfl rfl ?_
                  refine TL.op (yq (y_lss (ev_t rfl) ev_c)) rfl rfl rfl ?_
                  refine TL.nil ?_
                  refine TN.seq ?_
                  refine TC.cond (b := decide ((F_laws_heldIntSS ((F_laws_markIntSS ((F_impl_GreedyServers (F_laws_toMetric m) (F_laws_toIntS start) (F_laws_toIntS reqs)).1) 1).2) 1) < 0)) (ev_t rfl) (fun h43 => ?_) (fun h43 => ?_)
                  · rw [bif_pos h43] at hF
                    have q44 := (of_decide_eq_true h43)
                    refine TC.seq ?_
                    refine TC.region ?_
                    refine TL.op (yq (y_assign ev_c)) rfl rfl rfl ?_
                    refine TL.nil ?_
                    refine TN.seq ?_
                    refine TC.ret ?_
                    refine TN.thenR ?_
                    subst hF
                    exact TN.ret1 rfl (ev_t rfl) (fun w' hw => ⟨rfl, Hp.sublist hw (List.nil_sublist _)⟩)
                  · rw [bif_neg h43] at hF
                    have q44 := (of_decide_eq_false h43)
                    refine TC.skip ?_
                    refine TN.seq ?_
                    refine TC.seq ?_
                    refine TC.seq ?_
                    refine TC.region ?_
                    refine TL.op (yq (y_move (ev_t rfl))) rfl rfl rfl ?_
                    refine TL.op (yq (y_move (ev_t rfl))) rfl rfl rfl ?_
                    refine TL.op (yq (y_neq (ev_t rfl) (ev_t rfl))) rfl rfl rfl ?_
                    refine TL.nil ?_
                    refine TN.seq ?_
                    refine TC.cond (b := !decide ((F_laws_heldIntSS ((F_laws_markIntSS ((F_impl_GreedyServers (F_laws_toMetric m) (F_laws_toIntS start) (F_laws_toIntS reqs)).1) 1).2) 1) = (F_laws_markIntSS ((F_impl_GreedyServers (F_laws_toMetric m) (F_laws_toIntS start) (F_laws_toIntS reqs)).1) 1).1)) (ev_t rfl) (fun h45 => ?_) (fun h45 => ?_)
                    · rw [bif_pos h45] at hF
                      have q46 := (of_decide_eq_false (not_t h45))
                      refine TC.seq ?_
                      refine TC.region ?_
                      refine TL.op (yq (y_assign ev_c)) rfl rfl rfl ?_
                      refine TL.nil ?_
                      refine TN.seq ?_
                      refine TC.ret ?_
                      refine TN.thenR ?_
                      subst hF
                      exact TN.ret1 rfl (ev_t rfl) (fun w' hw => ⟨rfl, Hp.sublist hw (List.nil_sublist _)⟩)
                    · rw [bif_neg h45] at hF
                      have q46 := (of_decide_eq_true (not_f h45))
                      refine TC.skip ?_
                      refine TN.seq ?_
                      refine TC.seq ?_
                      refine TC.region ?_
                      refine TL.op (yq (y_ldagg (cs := [vm]) 12 (ev_t rfl) agg_24 rfl)) rfl rfl rfl ?_
                      refine TL.callr (ι := Value × List Value) (vs := [(.agg #[vm])]) (fun i => (.agg #[i.1])) (fun i => [tabI 25 3 i.1 i.2 (F_laws_toMetric m)]) en_17 ⟨(ev_t rfl), trivial⟩ rfl (fun w hw => laws_toMetric_ok w vm um m ((rii_arg hm) w hw) (by first | assumption | omega | grind) (by first | assumption | omega | grind)) (fun r36_1 => ?_)
                      refine TL.op (yq (y_move (ev_t rfl))) rfl rfl rfl ?_
                      refine TL.callr (ι := Value) (vs := [vstart]) (fun i => i) (fun i => [rowI 3 i (F_laws_toIntS start)]) en_18 ⟨(ev_t rfl), trivial⟩ rfl (fun w hw => laws_toIntS_ok w vstart start ((ri_arg hstart) w hw) (by first | assumption | omega | grind)) (fun r36_3 => ?_)
                      refine TL.op (yq (y_move (ev_t rfl))) rfl rfl rfl ?_
                      refine TL.callr (ι := Value) (vs := [vreqs]) (fun i => i) (fun i => [rowI 3 i (F_laws_toIntS reqs)]) en_18 ⟨(ev_t rfl), trivial⟩ rfl (fun w hw => laws_toIntS_ok w vreqs reqs ((ri_arg hreqs) w hw) (by first | assumption | omega | grind)) (fun r36_5 => ?_)
                      refine TL.callr (ι := Value × List Value) (vs := [(.agg #[r36_1.1]), r36_3, r36_5]) (fun i => (.tuple #[i.1, (.int .i64 ((F_impl_GreedyServers (F_laws_toMetric m) (F_laws_toIntS start) (F_laws_toIntS reqs)).2.1)), (.bool ((F_impl_GreedyServers (F_laws_toMetric m) (F_laws_toIntS start) (F_laws_toIntS reqs)).2.2))])) (fun i => [tabI 25 3 i.1 i.2 ((F_impl_GreedyServers (F_laws_toMetric m) (F_laws_toIntS start) (F_laws_toIntS reqs)).1)]) en_52 ⟨(ev_t rfl), (ev_t rfl), (ev_t rfl), trivial⟩ rfl (fun w hw => impl_GreedyServers_ok w r36_1.1 r36_1.2 (F_laws_toMetric m) ((rii_tab 2 rfl) w hw) r36_3 (F_laws_toIntS start) ((ri_row 1 rfl) w hw) r36_5 (F_laws_toIntS reqs) ((ri_row 0 rfl) w hw)) (fun r36_6 => ?_)
                      refine TL.op (yq (y_move (ev_t rfl))) rfl rfl rfl ?_
                      refine TL.op (yq (y_extract (ev_t rfl) rfl)) rfl rfl rfl ?_
                      refine TL.op (yq (y_extract (ev_t rfl) rfl)) rfl rfl rfl ?_
                      refine TL.op (yq (y_extract (ev_t rfl) rfl)) rfl rfl rfl ?_
                      refine TL.op (yq (y_assign (ev_t rfl))) rfl rfl rfl ?_
                      refine TL.op (yq (y_assign (ev_t rfl))) rfl rfl rfl ?_
                      refine TL.op (yq (y_assign (ev_t rfl))) rfl rfl rfl ?_
                      refine TL.nil ?_
                      refine TN.seq ?_
                      refine TC.seq ?_
                      refine TC.seq ?_
                      refine TC.region ?_
                      refine TL.op (yq (y_move (ev_t rfl))) rfl rfl rfl ?_
                      refine TL.op (yq (y_move (ev_t rfl))) rfl rfl rfl ?_
                      refine TL.op (y_call (vs := [r36_6.1, r9_6.1]) (v := (.bool (F_laws_eqIntSS ((F_impl_GreedyServers (F_laws_toMetric m) (F_laws_toIntS start) (F_laws_toIntS reqs)).1) ((F_spec_GreedyServers (F_laws_toMetric m) (F_laws_toIntS start) (F_laws_toIntS reqs)).1)))) en_31 ⟨(ev_t rfl), (ev_t rfl), trivial⟩ (fun w hw => laws_eqIntSS_ok w r36_6.1 r36_6.2 ((F_impl_GreedyServers (F_laws_toMetric m) (F_laws_toIntS start) (F_laws_toIntS reqs)).1) ((rii_tab 0 rfl) w hw) r9_6.1 r9_6.2 ((F_spec_GreedyServers (F_laws_toMetric m) (F_laws_toIntS start) (F_laws_toIntS reqs)).1) ((rii_tab 12 rfl) w hw))) rfl rfl rfl ?_
                      refine TL.op (yq (y_not (ev_t rfl))) rfl rfl rfl ?_
                      refine TL.op (yq (y_move (ev_t rfl))) rfl rfl rfl ?_
                      refine TL.opw (w_f rfl rfl rfl) (fun hg => yq (y_move (ev_t rfl))) rfl rfl ?_
                      refine TL.opw (w_f rfl rfl rfl) (fun hg => yq (y_move (ev_t rfl))) rfl rfl ?_
                      refine TL.opw (w_f rfl rfl rfl) (fun hg => yq (y_neq (ev_g rfl hg) (ev_g rfl hg))) rfl rfl ?_
                      refine TL.op (yq (y_or (ev_t rfl) (fun hq => (ev_g rfl hq)))) rfl rfl rfl ?_
                      refine TL.op (yq (y_move (ev_t rfl))) rfl rfl rfl ?_
                      refine TL.opw (w_f rfl rfl rfl) (fun hg => yq (y_move (ev_t rfl))) rfl rfl ?_
                      refine TL.opw (w_f rfl rfl rfl) (fun hg => yq (y_move (ev_t rfl))) rfl rfl ?_
                      refine TL.opw (w_f rfl rfl rfl) (fun hg => yq (y_bneq (ev_g rfl hg) (ev_g rfl hg) Try.underlying4)) rfl rfl ?_
                      refine TL.op (yq (y_or (ev_t rfl) (fun hq => (ev_g rfl hq)))) rfl rfl rfl ?_
                      refine TL.nil ?_
                      refine TN.seq ?_
                      refine TC.condF (ev_t rfl) h33 ?_
                      refine TC.skip ?_
                      refine TN.seq ?_
                      refine TC.seq ?_
                      refine TC.region ?_
                      refine TL.op (yq (y_assign ev_c)) rfl rfl rfl ?_
                      refine TL.nil ?_
                      refine TN.seq ?_
                      refine TC.seq ?_
                      refine TC.region ?_
                      refine TL.op (yq (y_move (ev_t rfl))) rfl rfl rfl ?_
                      refine TL.op (yq (y_move (ev_t rfl))) rfl rfl rfl ?_
                      refine TL.op (y_call (vs := [r13_3.1, (.int .i64 1)]) (v := (.int .i64 (F_laws_heldIntSS ((F_laws_markIntSS ((F_impl_GreedyServers (F_laws_toMetric m) (F_laws_toIntS start) (F_laws_toIntS reqs)).1) 1).2) 1))) en_33 ⟨(ev_t rfl), (ev_t rfl), trivial⟩ (fun w hw => laws_heldIntSS_ok w r13_3.1 r13_3.2 ((F_laws_markIntSS ((F_impl_GreedyServers (F_laws_toMetric m) (F_laws_toIntS start) (F_laws_toIntS reqs)).1) 1).2) ((rii_tab 7 rfl) w hw) 1 (by first | assumption | omega | grind) (by first | assumption | omega | grind))) rfl rfl rfl ?_
                      refine TL.op (yq (y_assign (ev_t rfl))) rfl rfl rfl ?_
                      refine TL.nil ?_
                      refine TN.seq ?_
                      refine TC.seq ?_
                      refine TC.seq ?_
                      refine TC.region ?_
                      refine TL.op (yq (y_move (ev_t rfl))) rfl rfl rfl ?_
                      refine TL.op (yq (y_lss (ev_t rfl) ev_c)) rfl rfl rfl ?_
                      refine TL.nil ?_
                      refine TN.seq ?_
                      refine TC.condF (ev_t rfl) h43 ?_
                      refine TC.skip ?_
                      refine TN.seq ?_
                      refine TC.seq ?_
                      refine TC.seq ?_
                      refine TC.region ?_
                      refine TL.op (yq (y_move (ev_t rfl))) rfl rfl rfl ?_
                      refine TL.op (yq (y_move (ev_t rfl))) rfl rfl rfl ?_
                      refine TL.op (yq (y_neq (ev_t rfl) (ev_t rfl))) rfl rfl rfl ?_
                      refine TL.nil ?_
                      refine TN.seq ?_
                      refine TC.condF (ev_t rfl) h45 ?_
                      refine TC.skip ?_
                      refine TN.seq ?_
                      refine TC.seq ?_
                      refine TC.region ?_
                      refine TL.op (yq (y_assign ev_c)) rfl rfl rfl ?_
                      refine TL.nil ?_
                      refine TN.seq ?_
                      refine TC.ret ?_
                      subst hF
                      exact TN.ret1 rfl (ev_t rfl) (fun w' hw => ⟨rfl, Hp.sublist hw (List.nil_sublist _)⟩)


end Go.Proofs.Ytcfjjnajeccbhaa
