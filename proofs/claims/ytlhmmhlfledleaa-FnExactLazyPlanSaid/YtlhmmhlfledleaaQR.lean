/-
  Walks of functions of the program: each computes its plain function. No condition but the bounds that are typed.
-/
import Derived.Test.YtlhmmhlfledleaaQ4
import Derived.Test.YtlhmmhlfledleaaLawLazy
namespace Go.Proofs.Ytlhmmhlfledleaa
open Go Go.RowKit

set_option maxRecDepth 4000 in
set_option maxHeartbeats 1000000 in
theorem impl_goneBy_1_ok (w : World) (item : Int) (gafter : Nat) (vafter : Value) (after : List Int) (hrafter : RI w vafter after) (hafter : CellAt w gafter vafter)  :
    Calls Try.prog 104 ([(.int .i64 item), (.pointer (some ⟨gafter, 0, none⟩))] : List Value).toArray w (Ret (.bool (F_impl_goneBy_1 item after)) (Hp w [])) := by
  obtain ⟨rz, hF⟩ : ∃ rz, (F_impl_goneBy_1 item after) = rz := ⟨_, rfl⟩
  rw [hF]
  unfold F_impl_goneBy_1 at hF
  refine calls_tc Try.func104 rfl rfl rfl ?_
  change TC _ _ _ _ (Hp w []) [(0, (.int .i64 item)), (1, (.pointer (some ⟨gafter, 0, none⟩)))]
  refine TC.seq ?_
  refine TC.region ?_
  refine TL.op (yq (y_assign ev_c)) rfl rfl rfl ?_
  refine TL.nil ?_
  refine TN.seq ?_
  refine TC.seq ?_
  refine TC.region ?_
  refine TL.op (yq (y_ldc (ev_t rfl) one_22 hafter)) rfl rfl rfl ?_
  refine TL.op (yq (y_move (ev_t rfl))) rfl rfl rfl ?_
  refine TL.op (y_call (vs := [vafter, (.int .i64 item)]) (v := (.bool (F_slices_Contains_Sint_int after item))) en_74 ⟨(ev_t rfl), (ev_t rfl), trivial⟩ (fun w hw => slices_Contains_Sint_int_ok w vafter after ((ri_arg hrafter) w hw) item)) rfl rfl rfl ?_
  refine TL.op (yq (y_assign (ev_t rfl))) rfl rfl rfl ?_
  refine TL.nil ?_
  refine TN.seq ?_
  refine TC.ret ?_
  subst hF
  exact TN.ret1 rfl (ev_t rfl) (fun w' hw => ⟨rfl, hw⟩)

set_option maxRecDepth 4000 in
set_option maxHeartbeats 1000000 in
theorem impl_goneBy_ok (w : World) (vbefore : Value) (before : List Int) (hbefore : RI w vbefore before) (vafter : Value) (after : List Int) (hafter : RI w vafter after) (hp0 : before.length ≤ 1000) :
    Calls Try.prog 59 ([vbefore, vafter] : List Value).toArray w (fun e w' => ∃ i : Value, e = .returned i ∧ Hp w [rowI 3 i (F_impl_goneBy before after)] w') := by
  obtain ⟨rz, hF⟩ : ∃ rz, (F_impl_goneBy before after) = rz := ⟨_, rfl⟩
  rw [hF]
  unfold F_impl_goneBy at hF
  have hdl := deleteFunc_len before (fun item => F_impl_goneBy_1 item after)
  have hlen_before := arg_len hbefore
  have hlen_after := arg_len hafter
  refine calls_tc Try.func59 rfl rfl rfl ?_
  change TC _ _ _ _ (Hp w []) [(0, vbefore), (1, vafter)]
  refine TC.seq ?_
  refine TC.region ?_
  refine TL.boxS (ev_t rfl) (fun w hw => ((ri_arg hafter) w hw).ln) rfl (fun g0_0 => ?_)
  refine TL.op (yq (y_assign ev_c)) rfl rfl rfl ?_
  refine TL.nil ?_
  refine TN.seq ?_
  refine TC.seq ?_
  refine TC.region ?_
  refine TL.op (yq (y_move (ev_t rfl))) rfl rfl rfl ?_
  refine TL.callr (ι := Value) (vs := [vbefore]) (fun i => i) (fun i => [rowI 3 i before]) en_103 ⟨(ev_t rfl), trivial⟩ rfl (fun w hw => slices_Clone_Sint_int_ok w vbefore before ((ri_arg hbefore) w hw) (by first | assumption | omega | grind)) (fun r1_1 => ?_)
  refine TL.op (yq (y_mkf (us := [(.pointer (some ⟨g0_0, 0, none⟩))]) ⟨(ev_t rfl), trivial⟩)) rfl rfl rfl ?_
  refine TL.callmR (ι := Value) 0 (vs := [r1_1, (.func (.func 104) #[] ([(.pointer (some ⟨g0_0, 0, none⟩))] : List Value).toArray)]) (fun i => i) (fun i => rowI 3 i (F_slices_DeleteFunc_Sint_int before (fun item => F_impl_goneBy_1 item after))) en_101 ⟨(ev_t rfl), (ev_t rfl), trivial⟩ rfl rfl (fun w1 _ hw => slices_DeleteFunc_Sint_int_ok w w1 _ r1_1 before hw 104 [(.pointer (some ⟨g0_0, 0, none⟩))] (fun item => F_impl_goneBy_1 item after) en_104 (fun w2 _ hw2 item => impl_goneBy_1_ok w2 item g0_0 vafter after ((ri_arg hafter) w2 hw2) (cell_blk 1 rfl rfl hw2 (Below.refl _ _)))) (fun r1_3 => ?_)
  refine TL.callr (ι := Value) (vs := [r1_3]) (fun i => i) (fun i => [rowI 3 i (F_impl_rising (F_slices_DeleteFunc_Sint_int before (fun item => F_impl_goneBy_1 item after)))]) en_91 ⟨(ev_t rfl), trivial⟩ rfl (fun w hw => impl_rising_ok w r1_3 (F_slices_DeleteFunc_Sint_int before (fun item => F_impl_goneBy_1 item after)) ((ri_row 0 rfl) w hw) (by first | assumption | omega | grind)) (fun r1_4 => ?_)
  refine TL.op (yq (y_assign (ev_t rfl))) rfl rfl rfl ?_
  refine TL.nil ?_
  refine TN.seq ?_
  refine TC.ret ?_
  subst hF
  exact TN.ret1 rfl (ev_t rfl) (fun w' hw => ⟨r1_4, rfl, Hp.sublist hw (.cons_cons _ (.cons _ (.cons _ .slnil)))⟩)

set_option maxRecDepth 4000 in
set_option maxHeartbeats 1000000 in
theorem impl_LazyPlan_1_ok (w : World) (ix : Int) (vcache : Value) (cache : List Int) (hcache : RI w vcache cache) (gcaches : Nat) (vcaches : Value) (ucaches : List Value) (caches : List (List Int)) (hrcaches : RII w vcaches ucaches caches) (hcaches : CellAt w gcaches vcaches) (hp0 : LzPre ix cache caches) :
    Calls Try.prog 58 ([(.int .i64 ix), vcache, (.pointer (some ⟨gcaches, 0, none⟩))] : List Value).toArray w (Ret (.int .i64 (F_impl_LazyPlan_1 ix cache caches)) (Hp w [])) := by
  obtain ⟨rz, hF⟩ : ∃ rz, (F_impl_LazyPlan_1 ix cache caches) = rz := ⟨_, rfl⟩
  rw [hF]
  unfold F_impl_LazyPlan_1 at hF
  have hlz := hp0.i0
  have hlz1 := hp0.i1
  have hlz2 := hp0.small
  have hlz3 := hp0.some
  have hlen_cache := arg_len hcache
  refine calls_tc Try.func58 rfl rfl rfl ?_
  change TC _ _ _ _ (Hp w []) [(0, (.int .i64 ix)), (1, vcache), (2, (.pointer (some ⟨gcaches, 0, none⟩)))]
  refine TC.seq ?_
  refine TC.region ?_
  refine TL.op (yq (y_assign ev_c)) rfl rfl rfl ?_
  refine TL.nil ?_
  refine TN.seq ?_
  refine TC.seq ?_
  refine TC.region ?_
  refine TL.op (yq (y_move (ev_t rfl))) rfl rfl rfl ?_
  refine TL.op (yq (y_ldc (ev_t rfl) one_33 hcaches)) rfl rfl rfl ?_
  refine TL.op (yq (y_move (ev_t rfl))) rfl rfl rfl ?_
  have hb4 : (ix).toNat < caches.length := (by first | omega | (simp only [List.length_set, List.length_append, List.length_cons, List.length_nil, List.length_replicate]; omega) | (rw [sortI_length]; simp only [List.length_cons, List.length_nil]; omega))
  refine TL.op (yq (y_idx (k := (ix).toNat) (ev_t rfl) (ev_t rfl) (by first | omega | simp) slT_33 (fun w hw => ((rii_arg hrcaches) w hw).1) hb4)) rfl rfl rfl ?_
  have ha5 := hrcaches.row (i := (ix).toNat) hb4
  refine TL.op (yq (y_ldA (ev_t rfl) one_22 (rii_arg hrcaches) hb4)) rfl rfl rfl ?_
  refine TL.callr (ι := Value) (vs := [vcache, (ucaches.getD ((ix).toNat) undef)]) (fun i => i) (fun i => [rowI 3 i (F_impl_goneBy cache (caches.getD ((ix).toNat) []))]) en_59 ⟨(ev_t rfl), (ev_t rfl), trivial⟩ rfl (fun w hw => impl_goneBy_ok w vcache cache ((ri_arg hcache) w hw) (ucaches.getD ((ix).toNat) undef) (caches.getD ((ix).toNat) []) ((ri_arg ha5) w hw) (by first | assumption | omega | grind)) (fun r1_5 => ?_)
  have hb6 : 0 < (F_impl_goneBy cache (caches.getD ((ix).toNat) [])).length := (by first | omega | (simp only [List.length_set, List.length_append, List.length_cons, List.length_nil, List.length_replicate]; omega) | (rw [sortI_length]; simp only [List.length_cons, List.length_nil]; omega))
  refine TL.op (yq (y_idx (k := 0) (ev_t rfl) ev_c (by first | omega | simp) slT_22 (ri_row 0 rfl) hb6)) rfl rfl rfl ?_
  refine TL.op (yq (y_ldi (ev_t rfl) one_3 (ri_row 0 rfl) hb6)) rfl rfl rfl ?_
  refine TL.op (yq (y_assign (ev_t rfl))) rfl rfl rfl ?_
  refine TL.nil ?_
  refine TN.seq ?_
  refine TC.ret ?_
  subst hF
  exact TN.ret1 rfl (ev_t rfl) (fun w' hw => ⟨rfl, Hp.sublist hw (List.nil_sublist _)⟩)

set_option maxRecDepth 4000 in
set_option maxHeartbeats 1000000 in
theorem impl_LazyPlan_ok (w : World) (k : Int) (n : Int) (vreqs : Value) (reqs : List Int) (hreqs : RI w vreqs reqs) (vplan : Value) (plan : List Int) (hplan : RI w vplan plan)  :
    Calls Try.prog 31 ([(.int .i64 k), (.int .i64 n), vreqs, vplan] : List Value).toArray w (fun e w' => ∃ i : Value, e = .returned (.tuple #[i, (.bool ((F_impl_LazyPlan k n reqs plan).2))]) ∧ Hp w [rowI 3 i ((F_impl_LazyPlan k n reqs plan).1)] w') := by
  obtain ⟨rz, hF⟩ : ∃ rz, (F_impl_LazyPlan k n reqs plan) = rz := ⟨_, rfl⟩
  rw [hF]
  unfold F_impl_LazyPlan at hF
  have hlen_reqs := arg_len hreqs
  have hlen_plan := arg_len hplan
  refine calls_tc Try.func31 rfl rfl rfl ?_
  change TC _ _ _ _ (Hp w []) [(0, (.int .i64 k)), (1, (.int .i64 n)), (2, vreqs), (3, vplan)]
  refine TC.seq ?_
  refine TC.region ?_
  refine TL.op (yq (y_assign ev_c)) rfl rfl rfl ?_
  refine TL.op (yq (y_assign ev_c)) rfl rfl rfl ?_
  refine TL.nil ?_
  refine TN.seq ?_
  refine TC.seq ?_
  refine TC.region ?_
  refine TL.op (yq (y_move (ev_t rfl))) rfl rfl rfl ?_
  refine TL.op (yq (y_move (ev_t rfl))) rfl rfl rfl ?_
  refine TL.op (yq (y_move (ev_t rfl))) rfl rfl rfl ?_
  refine TL.op (yq (y_move (ev_t rfl))) rfl rfl rfl ?_
  refine TL.callr (ι := Value × List Value) (vs := [(.int .i64 k), (.int .i64 n), vreqs, vplan]) (fun i => (.tuple #[i.1, (.bool ((F_impl_PlanCaches k n reqs plan).2))])) (fun i => [tabI 22 3 i.1 i.2 ((F_impl_PlanCaches k n reqs plan).1)]) en_24 ⟨(ev_t rfl), (ev_t rfl), (ev_t rfl), (ev_t rfl), trivial⟩ rfl (fun w hw => impl_PlanCaches_ok w k n vreqs reqs ((ri_arg hreqs) w hw) vplan plan ((ri_arg hplan) w hw)) (fun r1_4 => ?_)
  refine TL.op (yq (y_move (ev_t rfl))) rfl rfl rfl ?_
  refine TL.op (yq (y_extract (ev_t rfl) rfl)) rfl rfl rfl ?_
  refine TL.op (yq (y_extract (ev_t rfl) rfl)) rfl rfl rfl ?_
  refine TL.alloc (u := (.slice none 0 0)) (by kernel_rfl) rfl (fun g1_8 => ?_)
  refine TL.storeB 0 (ev_t rfl) (ev_t rfl) one_33 rfl (by first | decide | simp) (fun w hw => (ln_one ((fun w hw => ((rii_tab 1 rfl) w hw).1) w hw).ln)) ?_
  refine TL.op (yq (y_assign (ev_t rfl))) rfl rfl rfl ?_
  refine TL.nil ?_
  refine TN.seq ?_
  refine TC.seq ?_
  refine TC.seq ?_
  refine TC.region ?_
  refine TL.op (yq (y_move (ev_t rfl))) rfl rfl rfl ?_
  refine TL.op (yq (y_not (ev_t rfl))) rfl rfl rfl ?_
  refine TL.nil ?_
  refine TN.seq ?_
  refine TC.cond (b := !((F_impl_PlanCaches k n reqs plan).2)) (ev_t rfl) (fun h3 => ?_) (fun h3 => ?_)
  · rw [bif_pos h3] at hF
    have q4 := (not_t h3)
    refine TC.seq ?_
    refine TC.region ?_
    refine TL.op (yq (y_assign ev_c)) rfl rfl rfl ?_
    refine TL.op (yq (y_assign ev_c)) rfl rfl rfl ?_
    refine TL.nil ?_
    refine TN.seq ?_
    refine TC.ret ?_
    refine TN.thenR ?_
    subst hF
    refine TN.cls (fun w hw => hw.nil 3 1) ?_
    exact TN.ret2 rfl (ev_t rfl) (ev_t rfl) (fun w' hw => ⟨(.slice none 0 0), rfl, Hp.sublist hw (.cons_cons _ (.cons _ (.cons _ .slnil)))⟩)
  · rw [bif_neg h3] at hF
    have q4 := (not_f h3)
    have hok := q4
    have hpl := planCaches_pl hok
    refine TC.skip ?_
    refine TN.seq ?_
    refine TC.seq ?_
    refine TC.region ?_
    refine TL.op (yq (y_move (ev_t rfl))) rfl rfl rfl ?_
    refine TL.op (yq (y_move (ev_t rfl))) rfl rfl rfl ?_
    refine TL.op (yq (y_mkf (us := [(.pointer (some ⟨g1_8, 0, none⟩))]) ⟨(ev_t rfl), trivial⟩)) rfl rfl rfl ?_
    refine TL.callr (ι := Value) (vs := [(.int .i64 k), vreqs, (.func (.func 58) #[] ([(.pointer (some ⟨g1_8, 0, none⟩))] : List Value).toArray)]) (fun i => i) (fun i => [rowI 3 i (F_impl_planBy k reqs (fun ix cache => F_impl_LazyPlan_1 ix cache ((F_impl_PlanCaches k n reqs plan).1)))]) en_57 ⟨(ev_t rfl), (ev_t rfl), (ev_t rfl), trivial⟩ rfl (fun w hw => impl_planBy_ok w k vreqs reqs ((ri_arg hreqs) w hw) 58 [(.pointer (some ⟨g1_8, 0, none⟩))] (fun ix cache => F_impl_LazyPlan_1 ix cache ((F_impl_PlanCaches k n reqs plan).1)) en_58 (fun w2 hb ix vcache cache hcache hd0 => impl_LazyPlan_1_ok w2 ix vcache cache hcache g1_8 r1_4.1 r1_4.2 ((F_impl_PlanCaches k n reqs plan).1) (((rii_tab 1 rfl) w hw).below hb) (cell_blk 0 rfl rfl hw hb) (by exact lz_pre hok hd0)) (by first | assumption | omega | grind)) (fun r4_3 => ?_)
    refine TL.op (yq (y_assign (ev_t rfl))) rfl rfl rfl ?_
    refine TL.op (yq (y_assign ev_c)) rfl rfl rfl ?_
    refine TL.nil ?_
    refine TN.seq ?_
    refine TC.ret ?_
    subst hF
    exact TN.ret2 rfl (ev_t rfl) (ev_t rfl) (fun w' hw => ⟨r4_3, rfl, Hp.sublist hw (.cons_cons _ (.cons _ (.cons _ .slnil)))⟩)

set_option maxRecDepth 4000 in
set_option maxHeartbeats 1000000 in
theorem spec_l5Lazy_ok (w : World) (k : Int) (vreqs : Value) (reqs : List Int) (hreqs : RI w vreqs reqs) (vcaches : Value) (ucaches : List Value) (caches : List (List Int)) (hcaches : RII w vcaches ucaches caches) (hp0 : CacheOk k reqs caches) (hp1 : reqs.length ≤ 1000) :
    Calls Try.prog 56 ([(.int .i64 k), vreqs, vcaches] : List Value).toArray w (fun e w' => ∃ i : Value, e = .returned i ∧ Hp w [rowI 3 i (F_spec_l5Lazy k reqs caches)] w') := by
  obtain ⟨rz, hF⟩ : ∃ rz, (F_spec_l5Lazy k reqs caches) = rz := ⟨_, rfl⟩
  rw [hF]
  unfold F_spec_l5Lazy at hF
  have hcl := hp0.len
  have hlen_reqs := arg_len hreqs
  have hlen_caches := argT_len hcaches
  refine calls_tc Try.func56 rfl rfl rfl ?_
  change TC _ _ _ _ (Hp w []) [(0, (.int .i64 k)), (1, vreqs), (2, vcaches)]
  refine TC.seq ?_
  refine TC.region ?_
  refine TL.op (yq (y_assign ev_c)) rfl rfl rfl ?_
  refine TL.nil ?_
  refine TN.seq ?_
  refine TC.seq ?_
  refine TC.region ?_
  refine TL.buildI (zs := []) (qs := []) slT_22 rfl trivial rfl (by decide) rfl (fun v1_0 => ?_)
  refine TL.buildI (zs := []) (qs := []) slT_22 rfl trivial rfl (by decide) rfl (fun v1_1 => ?_)
  refine TL.op (yq (y_assign (ev_t rfl))) rfl rfl rfl ?_
  refine TL.op (yq (y_assign (ev_t rfl))) rfl rfl rfl ?_
  refine TL.nil ?_
  refine TN.seq ?_
  refine TC.seq ?_
  refine TC.seq ?_
  refine TC.region ?_
  refine TL.op (yq (y_assign ev_c)) rfl rfl rfl ?_
  refine TL.nil ?_
  refine TN.seq ?_
  refine TC.block ?_
  obtain ⟨c32, hc33⟩ : ∃ c, F_spec_l5Lazy_L1 k reqs caches ((reqs.length - 0) + 1) (([] : List Int), ([] : List Int), 0) = c := ⟨_, rfl⟩
  rw [hc33] at hF
  refine TC.loop (ι := Nat × List Int × List Int × Nat × Value × Value) (fun (fu1, plan1, now1, i1, vplan1, vnow1) => [(0, (.int .i64 k)), (1, vreqs), (2, vcaches), (7, vplan1), (8, vnow1), (9, (.int .i64 (i1 : Int)))]) (fun (fu1, plan1, now1, i1, vplan1, vnow1) => Hp w [rowI 3 vnow1 now1, rowI 3 vplan1 plan1]) (fun (fu1, plan1, now1, i1, vplan1, vnow1) => (i1 ≤ reqs.length) ∧ (now1.length ≤ i1) ∧ (plan1.length ≤ i1) ∧ (Rise now1) ∧ reqs.length - i1 < fu1 ∧ F_spec_l5Lazy_L1 k reqs caches fu1 (plan1, now1, i1) = c32) (fun (fu1, plan1, now1, i1, vplan1, vnow1) => fu1) ((reqs.length - 0) + 1, ([] : List Int), ([] : List Int), 0, v1_0, v1_1) ⟨(by first | omega | (simp [-List.getD_eq_getElem?_getD] <;> omega)), (by first | omega | (simp [-List.getD_eq_getElem?_getD] <;> omega)), (by first | omega | (simp [-List.getD_eq_getElem?_getD] <;> omega)), List.Pairwise.nil, (by omega), hc33⟩ ⟨rfl, rfl, rfl, rfl, rfl, rfl, trivial⟩ (fun w hw => hw) ?_
  rintro ⟨fu1, plan1, now1, i1, vplan1, vnow1⟩ hJ1
  obtain ⟨hi1_0, hi1_1, hi1_2, hi1_3, hmu1, hL1⟩ : (i1 ≤ reqs.length) ∧ (now1.length ≤ i1) ∧ (plan1.length ≤ i1) ∧ (Rise now1) ∧ reqs.length - i1 < fu1 ∧ F_spec_l5Lazy_L1 k reqs caches fu1 (plan1, now1, i1) = c32 := hJ1
  change TC _ _ _ _ (Hp w [rowI 3 vnow1 now1, rowI 3 vplan1 plan1]) [(0, (.int .i64 k)), (1, vreqs), (2, vcaches), (7, vplan1), (8, vnow1), (9, (.int .i64 (i1 : Int)))]
  obtain ⟨mf1, rfl⟩ : ∃ m, fu1 = m + 1 := ⟨fu1 - 1, by omega⟩
  rw [F_spec_l5Lazy_L1_s] at hL1
  have hp1 := l1Put_len now1 (reqs.getD i1 0)
  refine TC.seq ?_
  refine TC.seq ?_
  refine TC.region ?_
  refine TL.op (yq (y_move (ev_t rfl))) rfl rfl rfl ?_
  refine TL.op (yq (y_move (ev_t rfl))) rfl rfl rfl ?_
  refine TL.op (yq (y_len (ev_t rfl) Try.underlying22 (fun w hw => ((ri_arg hreqs) w hw).ln))) rfl rfl rfl ?_
  refine TL.op (yq (y_lss (ev_t rfl) (ev_t rfl))) rfl rfl rfl ?_
  refine TL.nil ?_
  refine TN.seq ?_
  refine TC.cond (b := decide ((i1 : Int) < (reqs.length : Int))) (ev_t rfl) (fun h34 => ?_) (fun h34 => ?_)
  · rw [bif_pos h34] at hL1
    have q35 := (of_decide_eq_true h34)
    refine TC.skip ?_
    refine TN.seq ?_
    refine TC.seq ?_
    refine TC.block ?_
    refine TC.seq ?_
    refine TC.region ?_
    refine TL.op (yq (y_assign ev_c)) rfl rfl rfl ?_
    refine TL.nil ?_
    refine TN.seq ?_
    refine TC.seq ?_
    refine TC.seq ?_
    refine TC.region ?_
    refine TL.op (yq (y_move (ev_t rfl))) rfl rfl rfl ?_
    refine TL.op (yq (y_move (ev_t rfl))) rfl rfl rfl ?_
    refine TL.op (yq (y_move (ev_t rfl))) rfl rfl rfl ?_
    have hb36 : i1 < reqs.length := (by first | omega | (simp only [List.length_set, List.length_append, List.length_cons, List.length_nil, List.length_replicate]; omega) | (rw [sortI_length]; simp only [List.length_cons, List.length_nil]; omega))
    refine TL.op (yq (y_idx (k := i1) (ev_t rfl) (ev_t rfl) (by first | omega | simp) slT_22 (ri_arg hreqs) hb36)) rfl rfl rfl ?_
    refine TL.op (yq (y_ldi (ev_t rfl) one_3 (ri_arg hreqs) hb36)) rfl rfl rfl ?_
    refine TL.op (y_call (vs := [vnow1, (.int .i64 (reqs.getD i1 0))]) (v := (.bool (F_spec_l1Has now1 (reqs.getD i1 0)))) en_70 ⟨(ev_t rfl), (ev_t rfl), trivial⟩ (fun w hw => spec_l1Has_ok w vnow1 now1 ((ri_row 0 rfl) w hw) (reqs.getD i1 0))) rfl rfl rfl ?_
    refine TL.op (yq (y_not (ev_t rfl))) rfl rfl rfl ?_
    refine TL.op (yq (y_move (ev_t rfl))) rfl rfl rfl ?_
    refine TL.opw (w_t rfl rfl rfl) (fun hg => yq (y_move (ev_t rfl))) rfl rfl ?_
    refine TL.opw (w_t rfl rfl rfl) (fun hg => yq (y_len (ev_g rfl hg) Try.underlying22 (fun w hw => ((ri_row 0 rfl) w hw).ln))) rfl rfl ?_
    refine TL.opw (w_t rfl rfl rfl) (fun hg => yq (y_move (ev_t rfl))) rfl rfl ?_
    refine TL.opw (w_t rfl rfl rfl) (fun hg => yq (y_eql (ev_g rfl hg) (ev_g rfl hg))) rfl rfl ?_
    refine TL.op (yq (y_and (ev_t rfl) (fun hq => (ev_g rfl hq)))) rfl rfl rfl ?_
    refine TL.nil ?_
    refine TN.seq ?_
    refine TC.cond (b := ((!(F_spec_l1Has now1 (reqs.getD i1 0))) && (decide ((now1.length : Int) = k)))) (ev_t rfl) (fun h37 => ?_) (fun h37 => ?_)
    · rw [bif_pos h37] at hL1
      have q38 := (and_imp (and_t h37) (fun h => (l1Has_f (not_t h))) (fun h => (of_decide_eq_true h)))
      have hx := lazy_some hp0 hi1_3 q38.1 q38.2 (by omega)
      refine TC.seq ?_
      refine TC.region ?_
      refine TL.op (yq (y_assign ev_c)) rfl rfl rfl ?_
      refine TL.nil ?_
      refine TN.seq ?_
      refine TC.seq ?_
      refine TC.block ?_
      obtain ⟨c39, hc40⟩ : ∃ c, F_spec_l5Lazy_L2 caches now1 i1 ((now1.length - 0) + 1) 0 = c := ⟨_, rfl⟩
      rw [hc40] at hL1
      refine TC.loop (ι := Nat × Nat) (fun (fu2, j2) => [(0, (.int .i64 k)), (1, vreqs), (2, vcaches), (7, vplan1), (8, vnow1), (9, (.int .i64 (i1 : Int))), (11, (.int .i64 (j2 : Int)))]) (fun (fu2, j2) => Hp w [rowI 3 vnow1 now1, rowI 3 vplan1 plan1]) (fun (fu2, j2) => (∃ q, j2 ≤ q ∧ q < now1.length ∧ now1.getD q 0 ∉ caches.getD i1 []) ∧ now1.length - j2 < fu2 ∧ F_spec_l5Lazy_L2 caches now1 i1 fu2 j2 = c39) (fun (fu2, j2) => fu2) ((now1.length - 0) + 1, 0) ⟨hx, (by omega), hc40⟩ ⟨rfl, rfl, rfl, rfl, rfl, rfl, rfl, trivial⟩ (fun w hw => hw) ?_
      rintro ⟨fu2, j2⟩ hJ2
      obtain ⟨hi2_0, hmu2, hL2⟩ : (∃ q, j2 ≤ q ∧ q < now1.length ∧ now1.getD q 0 ∉ caches.getD i1 []) ∧ now1.length - j2 < fu2 ∧ F_spec_l5Lazy_L2 caches now1 i1 fu2 j2 = c39 := hJ2
      change TC _ _ _ _ (Hp w [rowI 3 vnow1 now1, rowI 3 vplan1 plan1]) [(0, (.int .i64 k)), (1, vreqs), (2, vcaches), (7, vplan1), (8, vnow1), (9, (.int .i64 (i1 : Int))), (11, (.int .i64 (j2 : Int)))]
      obtain ⟨mf2, rfl⟩ : ∃ m, fu2 = m + 1 := ⟨fu2 - 1, by omega⟩
      rw [F_spec_l5Lazy_L2_s] at hL2
      have hjl := lazy_lt hi2_0
      refine TC.seq ?_
      refine TC.seq ?_
      refine TC.regionQ (by kernel_rfl) (by kernel_rfl) dr_hp ?_
      refine TQ.op (yq (y_move (ev_t rfl))) rfl rfl rfl ?_
      refine TQ.op (yq (y_move (ev_t rfl))) rfl rfl rfl ?_
      have hb41 : i1 < caches.length := (by first | omega | (simp only [List.length_set, List.length_append, List.length_cons, List.length_nil, List.length_replicate]; omega) | (rw [sortI_length]; simp only [List.length_cons, List.length_nil]; omega))
      refine TQ.op (yq (y_idx (k := i1) (ev_t rfl) (ev_t rfl) (by first | omega | simp) slT_33 (fun w hw => ((rii_arg hcaches) w hw).1) hb41)) rfl rfl rfl ?_
      have ha42 := hcaches.row (i := i1) hb41
      refine TQ.op (yq (y_ldA (ev_t rfl) one_22 (rii_arg hcaches) hb41)) rfl rfl rfl ?_
      refine TQ.op (yq (y_move (ev_t rfl))) rfl rfl rfl ?_
      refine TQ.op (yq (y_move (ev_t rfl))) rfl rfl rfl ?_
      have hb43 : j2 < now1.length := (by first | omega | (simp only [List.length_set, List.length_append, List.length_cons, List.length_nil, List.length_replicate]; omega) | (rw [sortI_length]; simp only [List.length_cons, List.length_nil]; omega))
      refine TQ.op (yq (y_idx (k := j2) (ev_t rfl) (ev_t rfl) (by first | omega | simp) slT_22 (ri_row 0 rfl) hb43)) rfl rfl rfl ?_
      refine TQ.op (yq (y_ldi (ev_t rfl) one_3 (ri_row 0 rfl) hb43)) rfl rfl rfl ?_
      refine TQ.op (y_call (vs := [(ucaches.getD i1 undef), (.int .i64 (now1.getD j2 0))]) (v := (.bool (F_spec_l1Has (caches.getD i1 []) (now1.getD j2 0)))) en_70 ⟨(ev_t rfl), (ev_t rfl), trivial⟩ (fun w hw => spec_l1Has_ok w (ucaches.getD i1 undef) (caches.getD i1 []) ((ri_arg ha42) w hw) (now1.getD j2 0))) rfl rfl rfl ?_
      refine TQ.nil ?_
      refine TN.seq ?_
      refine TC.cond (b := (F_spec_l1Has (caches.getD i1 []) (now1.getD j2 0))) (ev_t rfl) (fun h44 => ?_) (fun h44 => ?_)
      · rw [bif_pos h44] at hL2
        have q45 := h44
        have hin := q45
        refine TC.skip ?_
        refine TN.seq ?_
        refine TC.block ?_
        refine TC.region ?_
        refine TL.op (yq (y_move (ev_t rfl))) rfl rfl rfl ?_
        refine TL.op (yq (y_add (ev_t rfl) ev_c (by unfold In64; omega))) rfl rfl rfl ?_
        refine TL.op (yq (y_assign (ev_t rfl))) rfl rfl rfl ?_
        refine TL.nil ?_
        refine TN.blockN ?_
        exact TN.hand (mf2, (j2 + 1)) ⟨(lazy_step hi2_0 hin), (by omega), hL2⟩ (Nat.lt_succ_self _) ⟨rfl, rfl, rfl, rfl, rfl, rfl, rfl, trivial⟩ (fun w hw => hw)
      · rw [bif_neg h44] at hL2
        have q45 := (l1Has_f h44)
        refine TC.exit ?_
        refine TN.thenE ?_
        refine TN.thenE ?_
        rw [← hL2, elim_next] at hL1
        try dsimp only at hL1
        have hjl2 := lazy_lt hi2_0
        have hol := l5Out_len now1 (now1.getD j2 0)
        have hp2 := l1Put_len (F_spec_l5Out now1 (now1.getD j2 0)) (reqs.getD i1 0)
        refine TN.blockH ?_
        refine TN.seq ?_
        refine TC.seq ?_
        refine TC.region ?_
        refine TL.op (yq (y_move (ev_t rfl))) rfl rfl rfl ?_
        refine TL.op (yq (y_move (ev_t rfl))) rfl rfl rfl ?_
        have hb46 : j2 < now1.length := (by first | omega | (simp only [List.length_set, List.length_append, List.length_cons, List.length_nil, List.length_replicate]; omega) | (rw [sortI_length]; simp only [List.length_cons, List.length_nil]; omega))
        refine TL.op (yq (y_idx (k := j2) (ev_t rfl) (ev_t rfl) (by first | omega | simp) slT_22 (ri_row 0 rfl) hb46)) rfl rfl rfl ?_
        refine TL.op (yq (y_ldi (ev_t rfl) one_3 (ri_row 0 rfl) hb46)) rfl rfl rfl ?_
        refine TL.op (yq (y_assign (ev_t rfl))) rfl rfl rfl ?_
        refine TL.nil ?_
        refine TN.seq ?_
        refine TC.region ?_
        refine TL.op (yq (y_move (ev_t rfl))) rfl rfl rfl ?_
        refine TL.op (yq (y_move (ev_t rfl))) rfl rfl rfl ?_
        refine TL.callr (ι := Value) (vs := [vnow1, (.int .i64 (now1.getD j2 0))]) (fun i => i) (fun i => [rowI 3 i (F_spec_l5Out now1 (now1.getD j2 0))]) en_84 ⟨(ev_t rfl), (ev_t rfl), trivial⟩ rfl (fun w hw => spec_l5Out_ok w vnow1 now1 ((ri_row 0 rfl) w hw) (now1.getD j2 0) (by first | assumption | omega | grind)) (fun r11_2 => ?_)
        refine TL.op (yq (y_assign (ev_t rfl))) rfl rfl rfl ?_
        refine TL.nil ?_
        refine TN.seq ?_
        refine TC.seq ?_
        refine TC.region ?_
        refine TL.op (yq (y_move (ev_t rfl))) rfl rfl rfl ?_
        refine TL.op (yq (y_move (ev_t rfl))) rfl rfl rfl ?_
        refine TL.op (yq (y_move (ev_t rfl))) rfl rfl rfl ?_
        have hb47 : i1 < reqs.length := (by first | omega | (simp only [List.length_set, List.length_append, List.length_cons, List.length_nil, List.length_replicate]; omega) | (rw [sortI_length]; simp only [List.length_cons, List.length_nil]; omega))
        refine TL.op (yq (y_idx (k := i1) (ev_t rfl) (ev_t rfl) (by first | omega | simp) slT_22 (ri_arg hreqs) hb47)) rfl rfl rfl ?_
        refine TL.op (yq (y_ldi (ev_t rfl) one_3 (ri_arg hreqs) hb47)) rfl rfl rfl ?_
        refine TL.callmR (ι := Value) 0 (vs := [r11_2, (.int .i64 (reqs.getD i1 0))]) (fun i => i) (fun i => rowI 3 i (F_spec_l1Put (F_spec_l5Out now1 (now1.getD j2 0)) (reqs.getD i1 0))) en_85 ⟨(ev_t rfl), (ev_t rfl), trivial⟩ rfl rfl (fun w1 _ hw => spec_l1Put_ok w w1 _ r11_2 (F_spec_l5Out now1 (now1.getD j2 0)) hw (reqs.getD i1 0) (by first | assumption | omega | grind)) (fun r12_5 => ?_)
        refine TL.op (yq (y_assign (ev_t rfl))) rfl rfl rfl ?_
        refine TL.nil ?_
        refine TN.seq ?_
        refine TC.region ?_
        refine TL.op (yq (y_move (ev_t rfl))) rfl rfl rfl ?_
        refine TL.op (yq (y_move (ev_t rfl))) rfl rfl rfl ?_
        refine TL.buildI (zs := [.tmp 58]) (qs := [(now1.getD j2 0)]) slT_22 rfl ⟨(ev_t rfl), trivial⟩ rfl (by decide) rfl (fun v13_2 => ?_)
        refine TL.appendI 3 (ev_t rfl) (ev_t rfl) rfl slT_22 (ri_row 0 rfl) (by first | omega | (simp [-List.getD_eq_getElem?_getD] <;> omega)) rfl (fun v13_3 => ?_)
        refine TL.op (yq (y_assign (ev_t rfl))) rfl rfl rfl ?_
        refine TL.nil ?_
        refine TN.blockN ?_
        refine TN.seq ?_
        refine TC.region ?_
        refine TL.op (yq (y_move (ev_t rfl))) rfl rfl rfl ?_
        refine TL.op (yq (y_add (ev_t rfl) ev_c (by unfold In64; omega))) rfl rfl rfl ?_
        refine TL.op (yq (y_assign (ev_t rfl))) rfl rfl rfl ?_
        refine TL.nil ?_
        exact TN.hand (mf1, (plan1 ++ ([(now1.getD j2 0)])), (F_spec_l1Put (F_spec_l5Out now1 (now1.getD j2 0)) (reqs.getD i1 0)), (i1 + 1), v13_3, r12_5) ⟨(by first | omega | (simp [-List.getD_eq_getElem?_getD] <;> omega)), (by first | omega | (simp [-List.getD_eq_getElem?_getD] <;> omega)), (by first | omega | (simp [-List.getD_eq_getElem?_getD] <;> omega)), (by first | exact (put_rise hi1_3 _).1 | exact (put_rise (out_rise hi1_3 _) _).1), (by omega), hL1⟩ (Nat.lt_succ_self _) ⟨rfl, rfl, rfl, rfl, rfl, rfl, trivial⟩ (fun w hw => Hp.sublist hw (.cons _ (.cons_cons _ (.cons _ (.cons_cons _ .slnil)))))
    · rw [bif_neg h37] at hL1
      have q38 := ((and_f h37).imp (fun h => (not_f h)) (fun h => (of_decide_eq_false h)))
      refine TC.skip ?_
      refine TN.seq ?_
      refine TC.seq ?_
      refine TC.region ?_
      refine TL.op (yq (y_move (ev_t rfl))) rfl rfl rfl ?_
      refine TL.op (yq (y_move (ev_t rfl))) rfl rfl rfl ?_
      refine TL.op (yq (y_move (ev_t rfl))) rfl rfl rfl ?_
      have hb48 : i1 < reqs.length := (by first | omega | (simp only [List.length_set, List.length_append, List.length_cons, List.length_nil, List.length_replicate]; omega) | (rw [sortI_length]; simp only [List.length_cons, List.length_nil]; omega))
      refine TL.op (yq (y_idx (k := i1) (ev_t rfl) (ev_t rfl) (by first | omega | simp) slT_22 (ri_arg hreqs) hb48)) rfl rfl rfl ?_
      refine TL.op (yq (y_ldi (ev_t rfl) one_3 (ri_arg hreqs) hb48)) rfl rfl rfl ?_
      refine TL.callmR (ι := Value) 0 (vs := [vnow1, (.int .i64 (reqs.getD i1 0))]) (fun i => i) (fun i => rowI 3 i (F_spec_l1Put now1 (reqs.getD i1 0))) en_85 ⟨(ev_t rfl), (ev_t rfl), trivial⟩ rfl rfl (fun w1 _ hw => spec_l1Put_ok w w1 _ vnow1 now1 hw (reqs.getD i1 0) (by first | assumption | omega | grind)) (fun r12_5 => ?_)
      refine TL.op (yq (y_assign (ev_t rfl))) rfl rfl rfl ?_
      refine TL.nil ?_
      refine TN.seq ?_
      refine TC.region ?_
      refine TL.op (yq (y_move (ev_t rfl))) rfl rfl rfl ?_
      refine TL.op (yq (y_move (ev_t rfl))) rfl rfl rfl ?_
      refine TL.buildI (zs := [.tmp 58]) (qs := [-1]) slT_22 rfl ⟨(ev_t rfl), trivial⟩ rfl (by decide) rfl (fun v13_2 => ?_)
      refine TL.appendI 2 (ev_t rfl) (ev_t rfl) rfl slT_22 (ri_row 0 rfl) (by first | omega | (simp [-List.getD_eq_getElem?_getD] <;> omega)) rfl (fun v13_3 => ?_)
      refine TL.op (yq (y_assign (ev_t rfl))) rfl rfl rfl ?_
      refine TL.nil ?_
      refine TN.blockN ?_
      refine TN.seq ?_
      refine TC.region ?_
      refine TL.op (yq (y_move (ev_t rfl))) rfl rfl rfl ?_
      refine TL.op (yq (y_add (ev_t rfl) ev_c (by unfold In64; omega))) rfl rfl rfl ?_
      refine TL.op (yq (y_assign (ev_t rfl))) rfl rfl rfl ?_
      refine TL.nil ?_
      exact TN.hand (mf1, (plan1 ++ ([-1])), (F_spec_l1Put now1 (reqs.getD i1 0)), (i1 + 1), v13_3, r12_5) ⟨(by first | omega | (simp [-List.getD_eq_getElem?_getD] <;> omega)), (by first | omega | (simp [-List.getD_eq_getElem?_getD] <;> omega)), (by first | omega | (simp [-List.getD_eq_getElem?_getD] <;> omega)), (by first | exact (put_rise hi1_3 _).1 | exact (put_rise (out_rise hi1_3 _) _).1), (by omega), hL1⟩ (Nat.lt_succ_self _) ⟨rfl, rfl, rfl, rfl, rfl, rfl, trivial⟩ (fun w hw => Hp.sublist hw (.cons _ (.cons_cons _ (.cons_cons _ .slnil))))
  · rw [bif_neg h34] at hL1
    have q35 := (of_decide_eq_false h34)
    refine TC.exit ?_
    refine TN.thenE ?_
    refine TN.thenE ?_
    rw [← hL1, elim_next] at hF
    try dsimp only at hF
    refine TN.blockH ?_
    refine TN.seq ?_
    refine TC.seq ?_
    refine TC.region ?_
    refine TL.op (yq (y_move (ev_t rfl))) rfl rfl rfl ?_
    refine TL.op (yq (y_assign (ev_t rfl))) rfl rfl rfl ?_
    refine TL.nil ?_
    refine TN.seq ?_
    refine TC.ret ?_
    subst hF
    exact TN.ret1 rfl (ev_t rfl) (fun w' hw => ⟨vplan1, rfl, Hp.sublist hw (.cons _ (.cons_cons _ .slnil))⟩)

set_option maxRecDepth 4000 in
set_option maxHeartbeats 1000000 in
theorem spec_LazyPlan_ok (w : World) (k : Int) (n : Int) (vreqs : Value) (reqs : List Int) (hreqs : RI w vreqs reqs) (vplan : Value) (plan : List Int) (hplan : RI w vplan plan)  :
    Calls Try.prog 30 ([(.int .i64 k), (.int .i64 n), vreqs, vplan] : List Value).toArray w (fun e w' => ∃ i : Value, e = .returned (.tuple #[i, (.bool ((F_spec_LazyPlan k n reqs plan).2))]) ∧ Hp w [rowI 3 i ((F_spec_LazyPlan k n reqs plan).1)] w') := by
  obtain ⟨rz, hF⟩ : ∃ rz, (F_spec_LazyPlan k n reqs plan) = rz := ⟨_, rfl⟩
  rw [hF]
  unfold F_spec_LazyPlan at hF
  have hlen_reqs := arg_len hreqs
  have hlen_plan := arg_len hplan
  refine calls_tc Try.func30 rfl rfl rfl ?_
  change TC _ _ _ _ (Hp w []) [(0, (.int .i64 k)), (1, (.int .i64 n)), (2, vreqs), (3, vplan)]
  refine TC.seq ?_
  refine TC.region ?_
  refine TL.op (yq (y_assign ev_c)) rfl rfl rfl ?_
  refine TL.op (yq (y_assign ev_c)) rfl rfl rfl ?_
  refine TL.nil ?_
  refine TN.seq ?_
  refine TC.seq ?_
  refine TC.seq ?_
  refine TC.region ?_
  refine TL.op (yq (y_move (ev_t rfl))) rfl rfl rfl ?_
  refine TL.op (yq (y_move (ev_t rfl))) rfl rfl rfl ?_
  refine TL.op (yq (y_move (ev_t rfl))) rfl rfl rfl ?_
  refine TL.op (y_call (vs := [(.int .i64 k), (.int .i64 n), vreqs]) (v := (.bool (F_spec_l5Takes k n reqs))) en_44 ⟨(ev_t rfl), (ev_t rfl), (ev_t rfl), trivial⟩ (fun w hw => spec_l5Takes_ok w k n vreqs reqs ((ri_arg hreqs) w hw))) rfl rfl rfl ?_
  refine TL.op (yq (y_not (ev_t rfl))) rfl rfl rfl ?_
  refine TL.op (yq (y_move (ev_t rfl))) rfl rfl rfl ?_
  refine TL.opw (w_f rfl rfl rfl) (fun hg => yq (y_move (ev_t rfl))) rfl rfl ?_
  refine TL.opw (w_f rfl rfl rfl) (fun hg => yq (y_move (ev_t rfl))) rfl rfl ?_
  refine TL.opw (w_f rfl rfl rfl) (fun hg => yq (y_move (ev_t rfl))) rfl rfl ?_
  refine TL.opw (w_f rfl rfl rfl) (fun hg => y_call (vs := [(.int .i64 n), vreqs, vplan]) (v := (.bool (F_spec_l5Plan n reqs plan))) en_45 ⟨(ev_g rfl hg), (ev_g rfl hg), (ev_g rfl hg), trivial⟩ (fun w hw => spec_l5Plan_ok w n vreqs reqs ((ri_arg hreqs) w hw) vplan plan ((ri_arg hplan) w hw) (by have hgf := (l5Takes_t (not_f (not_t hg))); first | assumption | omega | (have hq := hgf.n6; omega) | (have hq := hgf.1.n6; omega) | grind))) rfl rfl ?_
  refine TL.opw (w_f rfl rfl rfl) (fun hg => yq (y_not (ev_g rfl hg))) rfl rfl ?_
  refine TL.op (yq (y_or (ev_t rfl) (fun hq => (ev_g rfl hq)))) rfl rfl rfl ?_
  refine TL.nil ?_
  refine TN.seq ?_
  refine TC.cond (b := ((!(F_spec_l5Takes k n reqs)) || (!(F_spec_l5Plan n reqs plan)))) (ev_t rfl) (fun h5 => ?_) (fun h5 => ?_)
  · rw [bif_pos h5] at hF
    have q6 := ((or_t h5).imp (fun h => (not_t h)) (fun h => (not_t h)))
    refine TC.seq ?_
    refine TC.region ?_
    refine TL.buildI (zs := []) (qs := []) slT_22 rfl trivial rfl (by decide) rfl (fun v2_0 => ?_)
    refine TL.op (yq (y_assign (ev_t rfl))) rfl rfl rfl ?_
    refine TL.op (yq (y_assign ev_c)) rfl rfl rfl ?_
    refine TL.nil ?_
    refine TN.seq ?_
    refine TC.ret ?_
    refine TN.thenR ?_
    subst hF
    exact TN.ret2 rfl (ev_t rfl) (ev_t rfl) (fun w' hw => ⟨v2_0, rfl, hw⟩)
  · rw [bif_neg h5] at hF
    have q6 := (and_imp (or_f h5) (fun h => (l5Takes_t (not_f h))) (fun h => (l5Plan_t (not_f h))))
    refine TC.skip ?_
    refine TN.seq ?_
    refine TC.seq ?_
    refine TC.region ?_
    refine TL.op (yq (y_move (ev_t rfl))) rfl rfl rfl ?_
    refine TL.op (yq (y_move (ev_t rfl))) rfl rfl rfl ?_
    refine TL.op (yq (y_move (ev_t rfl))) rfl rfl rfl ?_
    refine TL.callr (ι := Value × List Value) (vs := [(.int .i64 k), vreqs, vplan]) (fun i => (.tuple #[i.1, (.int .i64 ((F_spec_l5Run k reqs plan).2.1)), (.bool ((F_spec_l5Run k reqs plan).2.2))])) (fun i => [tabI 22 3 i.1 i.2 ((F_spec_l5Run k reqs plan).1)]) en_46 ⟨(ev_t rfl), (ev_t rfl), (ev_t rfl), trivial⟩ rfl (fun w hw => spec_l5Run_ok w k vreqs reqs ((ri_arg hreqs) w hw) vplan plan ((ri_arg hplan) w hw) (by first | assumption | omega | grind) (by first | assumption | omega | grind)) (fun r3_3 => ?_)
    refine TL.op (yq (y_move (ev_t rfl))) rfl rfl rfl ?_
    refine TL.op (yq (y_extract (ev_t rfl) rfl)) rfl rfl rfl ?_
    refine TL.op (yq (y_extract (ev_t rfl) rfl)) rfl rfl rfl ?_
    refine TL.op (yq (y_extract (ev_t rfl) rfl)) rfl rfl rfl ?_
    refine TL.op (yq (y_assign (ev_t rfl))) rfl rfl rfl ?_
    refine TL.op (yq (y_assign (ev_t rfl))) rfl rfl rfl ?_
    refine TL.op (yq (y_assign (ev_t rfl))) rfl rfl rfl ?_
    refine TL.nil ?_
    refine TN.seq ?_
    refine TC.seq ?_
    refine TC.seq ?_
    refine TC.region ?_
    refine TL.op (yq (y_move (ev_t rfl))) rfl rfl rfl ?_
    refine TL.op (yq (y_not (ev_t rfl))) rfl rfl rfl ?_
    refine TL.nil ?_
    refine TN.seq ?_
    refine TC.cond (b := !((F_spec_l5Run k reqs plan).2.2)) (ev_t rfl) (fun h7 => ?_) (fun h7 => ?_)
    · rw [bif_pos h7] at hF
      have q8 := (not_t h7)
      refine TC.seq ?_
      refine TC.region ?_
      refine TL.buildI (zs := []) (qs := []) slT_22 rfl trivial rfl (by decide) rfl (fun v5_0 => ?_)
      refine TL.op (yq (y_assign (ev_t rfl))) rfl rfl rfl ?_
      refine TL.op (yq (y_assign ev_c)) rfl rfl rfl ?_
      refine TL.nil ?_
      refine TN.seq ?_
      refine TC.ret ?_
      refine TN.thenR ?_
      subst hF
      exact TN.ret2 rfl (ev_t rfl) (ev_t rfl) (fun w' hw => ⟨v5_0, rfl, Hp.sublist hw (.cons_cons _ (.cons _ .slnil))⟩)
    · rw [bif_neg h7] at hF
      have q8 := (not_f h7)
      have hrc := run_cacheOk q8
      refine TC.skip ?_
      refine TN.seq ?_
      refine TC.seq ?_
      refine TC.region ?_
      refine TL.op (yq (y_move (ev_t rfl))) rfl rfl rfl ?_
      refine TL.op (yq (y_move (ev_t rfl))) rfl rfl rfl ?_
      refine TL.op (yq (y_move (ev_t rfl))) rfl rfl rfl ?_
      refine TL.callr (ι := Value) (vs := [(.int .i64 k), vreqs, r3_3.1]) (fun i => i) (fun i => [rowI 3 i (F_spec_l5Lazy k reqs ((F_spec_l5Run k reqs plan).1))]) en_56 ⟨(ev_t rfl), (ev_t rfl), (ev_t rfl), trivial⟩ rfl (fun w hw => spec_l5Lazy_ok w k vreqs reqs ((ri_arg hreqs) w hw) r3_3.1 r3_3.2 ((F_spec_l5Run k reqs plan).1) ((rii_tab 0 rfl) w hw) (by first | assumption | omega | grind) (by first | assumption | omega | grind)) (fun r6_3 => ?_)
      refine TL.op (yq (y_assign (ev_t rfl))) rfl rfl rfl ?_
      refine TL.op (yq (y_assign ev_c)) rfl rfl rfl ?_
      refine TL.nil ?_
      refine TN.seq ?_
      refine TC.ret ?_
      subst hF
      exact TN.ret2 rfl (ev_t rfl) (ev_t rfl) (fun w' hw => ⟨r6_3, rfl, Hp.sublist hw (.cons_cons _ (.cons _ .slnil))⟩)


end Go.Proofs.Ytlhmmhlfledleaa
