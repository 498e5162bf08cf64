/-
  Walks of functions of the program: each computes its plain function. No condition but the bounds that are typed.
-/
import Derived.Test.YtlhmmhlfledleaaQ3
namespace Go.Proofs.Ytlhmmhlfledleaa
open Go Go.RowKit
set_option linter.unusedVariables false

set_option maxRecDepth 4000 in
set_option maxHeartbeats 1000000 in
theorem impl_farthest_ok (w : World) (i : Int) (vreqs : Value) (reqs : List Int) (hreqs : RI w vreqs reqs) (vcache : Value) (cache : List Int) (hcache : RI w vcache cache) (hp0 : 0 ≤ i ∧ i < reqs.length) :
    Calls Try.prog 95 ([(.int .i64 i), vreqs, vcache] : List Value).toArray w (Ret (.int .i64 (F_impl_farthest i reqs cache)) (Hp w [])) := by
  obtain ⟨rz, hF⟩ : ∃ rz, (F_impl_farthest i reqs cache) = rz := ⟨_, rfl⟩
  rw [hF]
  unfold F_impl_farthest at hF
  have hlen_reqs := arg_len hreqs
  have hlen_cache := arg_len hcache
  refine calls_tc Try.func95 rfl rfl rfl ?_
  change TC _ _ _ _ (Hp w []) [(0, (.int .i64 i)), (1, vreqs), (2, vcache)]
  refine TC.seq ?_
  refine TC.region ?_
  refine TL.op (yq (y_assign ev_c)) rfl rfl rfl ?_
  refine TL.nil ?_
  refine TN.seq ?_
  refine TC.seq ?_
  refine TC.region ?_
  refine TL.op (yq (y_assign ev_c)) rfl rfl rfl ?_
  refine TL.op (yq (y_assign ev_c)) rfl rfl rfl ?_
  refine TL.nil ?_
  refine TN.seq ?_
  refine TC.seq ?_
  refine TC.seq ?_
  refine TC.region ?_
  refine TL.op (yq (y_move (ev_t rfl))) rfl rfl rfl ?_
  refine TL.op (yq (y_len (ev_t rfl) Try.underlying22 (fun w hw => ((ri_arg hcache) w hw).ln))) rfl rfl rfl ?_
  refine TL.op (yq (y_move ev_c)) rfl rfl rfl ?_
  refine TL.nil ?_
  refine TN.seq ?_
  refine TC.block ?_
  obtain ⟨c19, hc20⟩ : ∃ c, F_impl_farthest_L1 i reqs cache ((cache.length - 0) + 1) ((-1), (-1), 0) = c := ⟨_, rfl⟩
  rw [hc20] at hF
  refine TC.loop (ι := Nat × Int × Int × Nat) (fun (fu1, best1, far1, k14_1) => [(0, (.int .i64 i)), (1, vreqs), (7, (.int .i64 best1)), (8, (.int .i64 far1)), (12, vcache), (13, (.int .i64 (cache.length : Int))), (14, (.int .i64 (k14_1 : Int)))]) (fun (fu1, best1, far1, k14_1) => Hp w []) (fun (fu1, best1, far1, k14_1) => (k14_1 ≤ cache.length) ∧ cache.length - k14_1 < fu1 ∧ F_impl_farthest_L1 i reqs cache fu1 (best1, far1, k14_1) = c19) (fun (fu1, best1, far1, k14_1) => fu1) ((cache.length - 0) + 1, -1, -1, 0) ⟨(by first | omega | (simp [-List.getD_eq_getElem?_getD] <;> omega)), (by omega), hc20⟩ ⟨rfl, rfl, rfl, rfl, rfl, rfl, rfl, trivial⟩ (fun w hw => hw) ?_
  rintro ⟨fu1, best1, far1, k14_1⟩ hJ1
  obtain ⟨hi1_0, hmu1, hL1⟩ : (k14_1 ≤ cache.length) ∧ cache.length - k14_1 < fu1 ∧ F_impl_farthest_L1 i reqs cache fu1 (best1, far1, k14_1) = c19 := hJ1
  change TC _ _ _ _ (Hp w []) [(0, (.int .i64 i)), (1, vreqs), (7, (.int .i64 best1)), (8, (.int .i64 far1)), (12, vcache), (13, (.int .i64 (cache.length : Int))), (14, (.int .i64 (k14_1 : Int)))]
  obtain ⟨mf1, rfl⟩ : ∃ m, fu1 = m + 1 := ⟨fu1 - 1, by omega⟩
  rw [F_impl_farthest_L1_s] at hL1
  refine TC.seq ?_
  refine TC.region ?_
  refine TL.op (yq (y_lss (ev_t rfl) (ev_t rfl))) rfl rfl rfl ?_
  refine TL.nil ?_
  refine TN.seq ?_
  refine TC.seq ?_
  refine TC.cond (b := decide ((k14_1 : Int) < (cache.length : Int))) (ev_t rfl) (fun h21 => ?_) (fun h21 => ?_)
  · rw [bif_pos h21] at hL1
    have q22 := (of_decide_eq_true h21)
    refine TC.skip ?_
    refine TN.seq ?_
    refine TC.seq ?_
    refine TC.block ?_
    refine TC.seq ?_
    refine TC.region ?_
    have hb23 : k14_1 < cache.length := (by first | omega | (simp only [List.length_set, List.length_append, List.length_cons, List.length_nil, List.length_replicate]; omega) | (rw [sortI_length]; simp only [List.length_cons, List.length_nil]; omega))
    refine TL.op (yq (y_idx (k := k14_1) (ev_t rfl) (ev_t rfl) (by first | omega | simp) slT_22 (ri_arg hcache) hb23)) rfl rfl rfl ?_
    refine TL.op (yq (y_ldi (ev_t rfl) one_3 (ri_arg hcache) hb23)) rfl rfl rfl ?_
    refine TL.op (yq (y_assign (ev_t rfl))) rfl rfl rfl ?_
    refine TL.nil ?_
    refine TN.seq ?_
    refine TC.seq ?_
    refine TC.region ?_
    refine TL.op (yq (y_move (ev_t rfl))) rfl rfl rfl ?_
    refine TL.op (yq (y_move (ev_t rfl))) rfl rfl rfl ?_
    refine TL.op (yq (y_add (ev_t rfl) ev_c (by unfold In64; omega))) rfl rfl rfl ?_
    have hs24 : (i + 1).toNat ≤ reqs.length := (by first | omega | (simp only [List.length_set, List.length_append, List.length_cons, List.length_nil, List.length_replicate]; omega) | (rw [sortI_length]; simp only [List.length_cons, List.length_nil]; omega))
    have hs25 : reqs.length ≤ reqs.length := (by first | omega | (simp only [List.length_set, List.length_append, List.length_cons, List.length_nil, List.length_replicate]; omega) | (rw [sortI_length]; simp only [List.length_cons, List.length_nil]; omega))
    refine TL.op (yq (y_slice_lo (ev_t rfl) (ev_t rfl) (lo := (i + 1).toNat) (by omega) slT_22 (ri_arg hreqs) hs24)) rfl rfl rfl ?_
    refine TL.op (yq (y_move (ev_t rfl))) rfl rfl rfl ?_
    refine TL.op (y_call (vs := [(resl vreqs ((i + 1).toNat) reqs.length 1), (.int .i64 (cache.getD k14_1 0))]) (v := (.int .i64 (F_slices_Index_Sint_int ((reqs.take reqs.length).drop ((i + 1).toNat)) (cache.getD k14_1 0)))) en_89 ⟨(ev_t rfl), (ev_t rfl), trivial⟩ (fun w hw => slices_Index_Sint_int_ok w (resl vreqs ((i + 1).toNat) reqs.length 1) ((reqs.take reqs.length).drop ((i + 1).toNat)) ((fun w hw => ri_resl ((ri_arg hreqs) w hw) hs24 hs25) w hw) (cache.getD k14_1 0))) rfl rfl rfl ?_
    refine TL.op (yq (y_assign (ev_t rfl))) rfl rfl rfl ?_
    refine TL.nil ?_
    refine TN.seq ?_
    refine TC.seq ?_
    refine TC.seq ?_
    refine TC.region ?_
    refine TL.op (yq (y_move (ev_t rfl))) rfl rfl rfl ?_
    refine TL.op (yq (y_lss (ev_t rfl) ev_c)) rfl rfl rfl ?_
    refine TL.nil ?_
    refine TN.seq ?_
    refine TC.cond (b := decide ((F_slices_Index_Sint_int ((reqs.take reqs.length).drop ((i + 1).toNat)) (cache.getD k14_1 0)) < 0)) (ev_t rfl) (fun h26 => ?_) (fun h26 => ?_)
    · rw [bif_pos h26] at hL1
      have q27 := (of_decide_eq_true h26)
      refine TC.seq ?_
      refine TC.region ?_
      refine TL.op (yq (y_move (ev_t rfl))) rfl rfl rfl ?_
      refine TL.op (yq (y_assign (ev_t rfl))) rfl rfl rfl ?_
      refine TL.nil ?_
      refine TN.seq ?_
      refine TC.ret ?_
      refine TN.thenR ?_
      refine TN.blockR ?_
      refine TN.thenR ?_
      refine TN.thenR ?_
      rw [← hL1, elim_ret] at hF
      refine TN.blockR ?_
      refine TN.thenR ?_
      subst hF
      exact TN.ret1 rfl (ev_t rfl) (fun w' hw => ⟨rfl, hw⟩)
    · rw [bif_neg h26] at hL1
      have q27 := (of_decide_eq_false h26)
      refine TC.skip ?_
      refine TN.seq ?_
      refine TC.seq ?_
      refine TC.region ?_
      refine TL.op (yq (y_move (ev_t rfl))) rfl rfl rfl ?_
      refine TL.op (yq (y_move (ev_t rfl))) rfl rfl rfl ?_
      refine TL.op (yq (y_gtr (ev_t rfl) (ev_t rfl))) rfl rfl rfl ?_
      refine TL.nil ?_
      refine TN.seq ?_
      refine TC.cond (b := decide (far1 < (F_slices_Index_Sint_int ((reqs.take reqs.length).drop ((i + 1).toNat)) (cache.getD k14_1 0)))) (ev_t rfl) (fun h28 => ?_) (fun h28 => ?_)
      · rw [bif_pos h28] at hL1
        have q29 := (of_decide_eq_true h28)
        refine TC.region ?_
        refine TL.op (yq (y_move (ev_t rfl))) rfl rfl rfl ?_
        refine TL.op (yq (y_move (ev_t rfl))) rfl rfl rfl ?_
        refine TL.op (yq (y_assign (ev_t rfl))) rfl rfl rfl ?_
        refine TL.op (yq (y_assign (ev_t rfl))) rfl rfl rfl ?_
        refine TL.nil ?_
        refine TN.blockN ?_
        refine TN.seq ?_
        refine TC.region ?_
        refine TL.op (yq (y_add (ev_t rfl) ev_c (by unfold In64; omega))) rfl rfl rfl ?_
        refine TL.op (yq (y_move (ev_t rfl))) rfl rfl rfl ?_
        refine TL.nil ?_
        exact TN.hand (mf1, (cache.getD k14_1 0), (F_slices_Index_Sint_int ((reqs.take reqs.length).drop ((i + 1).toNat)) (cache.getD k14_1 0)), (k14_1 + 1)) ⟨(by first | omega | (simp [-List.getD_eq_getElem?_getD] <;> omega)), (by omega), hL1⟩ (Nat.lt_succ_self _) ⟨rfl, rfl, rfl, rfl, rfl, rfl, rfl, trivial⟩ (fun w hw => hw)
      · rw [bif_neg h28] at hL1
        have q29 := (of_decide_eq_false h28)
        refine TC.skip ?_
        refine TN.blockN ?_
        refine TN.seq ?_
        refine TC.region ?_
        refine TL.op (yq (y_add (ev_t rfl) ev_c (by unfold In64; omega))) rfl rfl rfl ?_
        refine TL.op (yq (y_move (ev_t rfl))) rfl rfl rfl ?_
        refine TL.nil ?_
        exact TN.hand (mf1, best1, far1, (k14_1 + 1)) ⟨(by first | omega | (simp [-List.getD_eq_getElem?_getD] <;> omega)), (by omega), hL1⟩ (Nat.lt_succ_self _) ⟨rfl, rfl, rfl, rfl, rfl, rfl, rfl, trivial⟩ (fun w hw => hw)
  · rw [bif_neg h21] at hL1
    have q22 := (of_decide_eq_false h21)
    refine TC.exit ?_
    refine TN.thenE ?_
    refine TN.thenE ?_
    rw [← hL1, elim_next] at hF
    try dsimp only at hF
    refine TN.blockH ?_
    refine TN.seq ?_
    refine TC.seq ?_
    refine TC.region ?_
    refine TL.op (yq (y_move (ev_t rfl))) rfl rfl rfl ?_
    refine TL.op (yq (y_assign (ev_t rfl))) rfl rfl rfl ?_
    refine TL.nil ?_
    refine TN.seq ?_
    refine TC.ret ?_
    subst hF
    exact TN.ret1 rfl (ev_t rfl) (fun w' hw => ⟨rfl, hw⟩)

set_option maxRecDepth 4000 in
set_option maxHeartbeats 1000000 in
theorem impl_farthestPlan_1_ok (w : World) (i : Int) (vcache : Value) (cache : List Int) (hcache : RI w vcache cache) (greqs : Nat) (vreqs : Value) (reqs : List Int) (hrreqs : RI w vreqs reqs) (hreqs : CellAt w greqs vreqs) (hp0 : 0 ≤ i ∧ i < reqs.length) :
    Calls Try.prog 94 ([(.int .i64 i), vcache, (.pointer (some ⟨greqs, 0, none⟩))] : List Value).toArray w (Ret (.int .i64 (F_impl_farthestPlan_1 i cache reqs)) (Hp w [])) := by
  obtain ⟨rz, hF⟩ : ∃ rz, (F_impl_farthestPlan_1 i cache reqs) = rz := ⟨_, rfl⟩
  rw [hF]
  unfold F_impl_farthestPlan_1 at hF
  have hlen_cache := arg_len hcache
  refine calls_tc Try.func94 rfl rfl rfl ?_
  change TC _ _ _ _ (Hp w []) [(0, (.int .i64 i)), (1, vcache), (2, (.pointer (some ⟨greqs, 0, none⟩)))]
  refine TC.seq ?_
  refine TC.region ?_
  refine TL.op (yq (y_assign ev_c)) rfl rfl rfl ?_
  refine TL.nil ?_
  refine TN.seq ?_
  refine TC.seq ?_
  refine TC.region ?_
  refine TL.op (yq (y_move (ev_t rfl))) rfl rfl rfl ?_
  refine TL.op (yq (y_ldc (ev_t rfl) one_22 hreqs)) rfl rfl rfl ?_
  refine TL.op (yq (y_move (ev_t rfl))) rfl rfl rfl ?_
  refine TL.op (y_call (vs := [(.int .i64 i), vreqs, vcache]) (v := (.int .i64 (F_impl_farthest i reqs cache))) en_95 ⟨(ev_t rfl), (ev_t rfl), (ev_t rfl), trivial⟩ (fun w hw => impl_farthest_ok w i vreqs reqs ((ri_arg hrreqs) w hw) vcache cache ((ri_arg hcache) w hw) (by first | assumption | omega | grind))) rfl rfl rfl ?_
  refine TL.op (yq (y_assign (ev_t rfl))) rfl rfl rfl ?_
  refine TL.nil ?_
  refine TN.seq ?_
  refine TC.ret ?_
  subst hF
  exact TN.ret1 rfl (ev_t rfl) (fun w' hw => ⟨rfl, hw⟩)

set_option maxRecDepth 4000 in
set_option maxHeartbeats 1000000 in
theorem impl_farthestPlan_ok (w : World) (k : Int) (vreqs : Value) (reqs : List Int) (hreqs : RI w vreqs reqs) (hp0 : reqs.length ≤ 1000) :
    Calls Try.prog 51 ([(.int .i64 k), vreqs] : List Value).toArray w (fun e w' => ∃ i : Value, e = .returned i ∧ Hp w [rowI 3 i (F_impl_farthestPlan k reqs)] w') := by
  obtain ⟨rz, hF⟩ : ∃ rz, (F_impl_farthestPlan k reqs) = rz := ⟨_, rfl⟩
  rw [hF]
  unfold F_impl_farthestPlan at hF
  have hlen_reqs := arg_len hreqs
  refine calls_tc Try.func51 rfl rfl rfl ?_
  change TC _ _ _ _ (Hp w []) [(0, (.int .i64 k)), (1, vreqs)]
  refine TC.seq ?_
  refine TC.region ?_
  refine TL.boxS (ev_t rfl) (fun w hw => ((ri_arg hreqs) w hw).ln) rfl (fun g0_0 => ?_)
  refine TL.op (yq (y_assign ev_c)) rfl rfl rfl ?_
  refine TL.nil ?_
  refine TN.seq ?_
  refine TC.seq ?_
  refine TC.region ?_
  refine TL.op (yq (y_move (ev_t rfl))) rfl rfl rfl ?_
  refine TL.op (yq (y_ldb 0 (ev_t rfl) one_22 rfl rfl)) rfl rfl rfl ?_
  refine TL.op (yq (y_mkf (us := [(.pointer (some ⟨g0_0, 0, none⟩))]) ⟨(ev_t rfl), trivial⟩)) rfl rfl rfl ?_
  refine TL.callr (ι := Value) (vs := [(.int .i64 k), vreqs, (.func (.func 94) #[] ([(.pointer (some ⟨g0_0, 0, none⟩))] : List Value).toArray)]) (fun i => i) (fun i => [rowI 3 i (F_impl_planBy k reqs (fun i cache => F_impl_farthestPlan_1 i cache reqs))]) en_57 ⟨(ev_t rfl), (ev_t rfl), (ev_t rfl), trivial⟩ rfl (fun w hw => impl_planBy_ok w k vreqs reqs ((ri_arg hreqs) w hw) 94 [(.pointer (some ⟨g0_0, 0, none⟩))] (fun i cache => F_impl_farthestPlan_1 i cache reqs) en_94 (fun w2 hb i vcache cache hcache hd0 => impl_farthestPlan_1_ok w2 i vcache cache hcache g0_0 vreqs reqs (((ri_arg hreqs) w hw).below hb) (cell_blk 0 rfl rfl hw hb) (by exact hd0.bd)) (by first | assumption | omega | grind)) (fun r1_3 => ?_)
  refine TL.op (yq (y_assign (ev_t rfl))) rfl rfl rfl ?_
  refine TL.nil ?_
  refine TN.seq ?_
  refine TC.ret ?_
  subst hF
  exact TN.ret1 rfl (ev_t rfl) (fun w' hw => ⟨r1_3, rfl, Hp.sublist hw (.cons_cons _ (.cons _ .slnil))⟩)

set_option maxRecDepth 4000 in
set_option maxHeartbeats 1000000 in
theorem impl_FarthestPlan_ok (w : World) (k : Int) (n : Int) (vreqs : Value) (reqs : List Int) (hreqs : RI w vreqs reqs)  :
    Calls Try.prog 18 ([(.int .i64 k), (.int .i64 n), vreqs] : List Value).toArray w (fun e w' => ∃ i : Value, e = .returned (.tuple #[i, (.bool ((F_impl_FarthestPlan k n reqs).2))]) ∧ Hp w [rowI 3 i ((F_impl_FarthestPlan k n reqs).1)] w') := by
  obtain ⟨rz, hF⟩ : ∃ rz, (F_impl_FarthestPlan k n reqs) = rz := ⟨_, rfl⟩
  rw [hF]
  unfold F_impl_FarthestPlan at hF
  have hlen_reqs := arg_len hreqs
  refine calls_tc Try.func18 rfl rfl rfl ?_
  change TC _ _ _ _ (Hp w []) [(0, (.int .i64 k)), (1, (.int .i64 n)), (2, vreqs)]
  refine TC.seq ?_
  refine TC.region ?_
  refine TL.op (yq (y_assign ev_c)) rfl rfl rfl ?_
  refine TL.op (yq (y_assign ev_c)) rfl rfl rfl ?_
  refine TL.nil ?_
  refine TN.seq ?_
  refine TC.seq ?_
  refine TC.seq ?_
  refine TC.region ?_
  refine TL.op (yq (y_move (ev_t rfl))) rfl rfl rfl ?_
  refine TL.op (yq (y_move (ev_t rfl))) rfl rfl rfl ?_
  refine TL.op (yq (y_move (ev_t rfl))) rfl rfl rfl ?_
  refine TL.op (y_call (vs := [(.int .i64 k), (.int .i64 n), vreqs]) (v := (.bool (F_impl_isPaging k n reqs))) en_50 ⟨(ev_t rfl), (ev_t rfl), (ev_t rfl), trivial⟩ (fun w hw => impl_isPaging_ok w k n vreqs reqs ((ri_arg hreqs) w hw))) rfl rfl rfl ?_
  refine TL.op (yq (y_not (ev_t rfl))) rfl rfl rfl ?_
  refine TL.nil ?_
  refine TN.seq ?_
  refine TC.cond (b := !(F_impl_isPaging k n reqs)) (ev_t rfl) (fun h3 => ?_) (fun h3 => ?_)
  · rw [bif_pos h3] at hF
    have q4 := (not_t h3)
    refine TC.seq ?_
    refine TC.region ?_
    refine TL.op (yq (y_assign ev_c)) rfl rfl rfl ?_
    refine TL.op (yq (y_assign ev_c)) rfl rfl rfl ?_
    refine TL.nil ?_
    refine TN.seq ?_
    refine TC.ret ?_
    refine TN.thenR ?_
    subst hF
    refine TN.cls (fun w hw => hw.nil 3 1) ?_
    exact TN.ret2 rfl (ev_t rfl) (ev_t rfl) (fun w' hw => ⟨(.slice none 0 0), rfl, hw⟩)
  · rw [bif_neg h3] at hF
    have q4 := (isPaging_t (not_f h3))
    refine TC.skip ?_
    refine TN.seq ?_
    refine TC.seq ?_
    refine TC.region ?_
    refine TL.op (yq (y_move (ev_t rfl))) rfl rfl rfl ?_
    refine TL.op (yq (y_move (ev_t rfl))) rfl rfl rfl ?_
    refine TL.callr (ι := Value) (vs := [(.int .i64 k), vreqs]) (fun i => i) (fun i => [rowI 3 i (F_impl_farthestPlan k reqs)]) en_51 ⟨(ev_t rfl), (ev_t rfl), trivial⟩ rfl (fun w hw => impl_farthestPlan_ok w k vreqs reqs ((ri_arg hreqs) w hw) (by first | assumption | omega | grind)) (fun r3_2 => ?_)
    refine TL.op (yq (y_assign (ev_t rfl))) rfl rfl rfl ?_
    refine TL.op (yq (y_assign ev_c)) rfl rfl rfl ?_
    refine TL.nil ?_
    refine TN.seq ?_
    refine TC.ret ?_
    subst hF
    exact TN.ret2 rfl (ev_t rfl) (ev_t rfl) (fun w' hw => ⟨r3_2, rfl, hw⟩)

set_option maxRecDepth 4000 in
set_option maxHeartbeats 1000000 in
theorem spec_l5Use_ok (w : World) (vreqs : Value) (reqs : List Int) (hreqs : RI w vreqs reqs) (at_ : Int) (page : Int) (hp0 : -1 ≤ at_ ∧ at_ < reqs.length) (hp1 : reqs.length ≤ 1000) :
    Calls Try.prog 128 ([vreqs, (.int .i64 at_), (.int .i64 page)] : List Value).toArray w (Ret (.int .i64 (F_spec_l5Use reqs at_ page)) (Hp w [])) := by
  obtain ⟨rz, hF⟩ : ∃ rz, (F_spec_l5Use reqs at_ page) = rz := ⟨_, rfl⟩
  rw [hF]
  unfold F_spec_l5Use at hF
  have hlen_reqs := arg_len hreqs
  refine calls_tc Try.func128 rfl rfl rfl ?_
  change TC _ _ _ _ (Hp w []) [(0, vreqs), (1, (.int .i64 at_)), (2, (.int .i64 page))]
  refine TC.seq ?_
  refine TC.region ?_
  refine TL.op (yq (y_assign ev_c)) rfl rfl rfl ?_
  refine TL.nil ?_
  refine TN.seq ?_
  refine TC.seq ?_
  refine TC.region ?_
  refine TL.op (yq (y_move (ev_t rfl))) rfl rfl rfl ?_
  refine TL.op (yq (y_add (ev_t rfl) ev_c (by unfold In64; omega))) rfl rfl rfl ?_
  refine TL.op (yq (y_assign (ev_t rfl))) rfl rfl rfl ?_
  refine TL.nil ?_
  refine TN.seq ?_
  refine TC.seq ?_
  refine TC.block ?_
  obtain ⟨c5, hc6⟩ : ∃ c, F_spec_l5Use_L1 reqs page (((reqs.length - (at_ + 1)).toNat) + 1) (at_ + 1) = c := ⟨_, rfl⟩
  rw [hc6] at hF
  refine TC.loop (ι := Nat × Int) (fun (fu1, i1) => [(0, vreqs), (2, (.int .i64 page)), (7, (.int .i64 i1))]) (fun (fu1, i1) => Hp w []) (fun (fu1, i1) => (0 ≤ i1) ∧ (i1 ≤ reqs.length) ∧ (reqs.length - i1).toNat < fu1 ∧ F_spec_l5Use_L1 reqs page fu1 i1 = c5) (fun (fu1, i1) => fu1) (((reqs.length - (at_ + 1)).toNat) + 1, at_ + 1) ⟨(by first | omega | (simp [-List.getD_eq_getElem?_getD] <;> omega)), (by first | omega | (simp [-List.getD_eq_getElem?_getD] <;> omega)), (by omega), hc6⟩ ⟨rfl, rfl, rfl, trivial⟩ (fun w hw => hw) ?_
  rintro ⟨fu1, i1⟩ hJ1
  obtain ⟨hi1_0, hi1_1, hmu1, hL1⟩ : (0 ≤ i1) ∧ (i1 ≤ reqs.length) ∧ (reqs.length - i1).toNat < fu1 ∧ F_spec_l5Use_L1 reqs page fu1 i1 = c5 := hJ1
  change TC _ _ _ _ (Hp w []) [(0, vreqs), (2, (.int .i64 page)), (7, (.int .i64 i1))]
  obtain ⟨mf1, rfl⟩ : ∃ m, fu1 = m + 1 := ⟨fu1 - 1, by omega⟩
  rw [F_spec_l5Use_L1_s] at hL1
  refine TC.seq ?_
  refine TC.seq ?_
  refine TC.region ?_
  refine TL.op (yq (y_move (ev_t rfl))) rfl rfl rfl ?_
  refine TL.op (yq (y_move (ev_t rfl))) rfl rfl rfl ?_
  refine TL.op (yq (y_len (ev_t rfl) Try.underlying22 (fun w hw => ((ri_arg hreqs) w hw).ln))) rfl rfl rfl ?_
  refine TL.op (yq (y_lss (ev_t rfl) (ev_t rfl))) rfl rfl rfl ?_
  refine TL.op (yq (y_move (ev_t rfl))) rfl rfl rfl ?_
  refine TL.opw (w_t rfl rfl rfl) (fun hg => yq (y_move (ev_t rfl))) rfl rfl ?_
  refine TL.opw (w_t rfl rfl rfl) (fun hg => yq (y_move (ev_t rfl))) rfl rfl ?_
  refine TL.opw (w_t rfl rfl rfl) (fun hg => yq (y_idx (k := (i1).toNat) (ev_g rfl hg) (ev_g rfl hg) (by first | omega | simp) slT_22 (ri_arg hreqs) (show (i1).toNat < reqs.length by have hgf := (of_decide_eq_true hg); omega))) rfl rfl ?_
  refine TL.opw (w_t rfl rfl rfl) (fun hg => yq (y_ldi (ev_g rfl hg) one_3 (ri_arg hreqs) (show (i1).toNat < reqs.length by have hgf := (of_decide_eq_true hg); omega))) rfl rfl ?_
  refine TL.opw (w_t rfl rfl rfl) (fun hg => yq (y_move (ev_t rfl))) rfl rfl ?_
  refine TL.opw (w_t rfl rfl rfl) (fun hg => yq (y_neq (ev_g rfl hg) (ev_g rfl hg))) rfl rfl ?_
  refine TL.op (yq (y_and (ev_t rfl) (fun hq => (ev_g rfl hq)))) rfl rfl rfl ?_
  refine TL.nil ?_
  refine TN.seq ?_
  refine TC.cond (b := ((decide (i1 < (reqs.length : Int))) && (!decide ((reqs.getD ((i1).toNat) 0) = page)))) (ev_t rfl) (fun h7 => ?_) (fun h7 => ?_)
  · rw [bif_pos h7] at hL1
    have q8 := (and_imp (and_t h7) (fun h => (of_decide_eq_true h)) (fun h => (of_decide_eq_false (not_t h))))
    refine TC.skip ?_
    refine TN.seq ?_
    refine TC.block ?_
    refine TC.region ?_
    refine TL.op (yq (y_move (ev_t rfl))) rfl rfl rfl ?_
    refine TL.op (yq (y_add (ev_t rfl) ev_c (by unfold In64; omega))) rfl rfl rfl ?_
    refine TL.op (yq (y_assign (ev_t rfl))) rfl rfl rfl ?_
    refine TL.nil ?_
    refine TN.blockN ?_
    exact TN.hand (mf1, i1 + 1) ⟨(by first | omega | (simp [-List.getD_eq_getElem?_getD] <;> omega)), (by first | omega | (simp [-List.getD_eq_getElem?_getD] <;> omega)), (by omega), hL1⟩ (Nat.lt_succ_self _) ⟨rfl, rfl, rfl, trivial⟩ (fun w hw => hw)
  · rw [bif_neg h7] at hL1
    have q8 := ((and_f h7).imp (fun h => (of_decide_eq_false h)) (fun h => (of_decide_eq_true (not_f h))))
    refine TC.exit ?_
    refine TN.thenE ?_
    refine TN.thenE ?_
    rw [← hL1, elim_next] at hF
    try dsimp only at hF
    refine TN.blockH ?_
    refine TN.seq ?_
    refine TC.seq ?_
    refine TC.region ?_
    refine TL.op (yq (y_move (ev_t rfl))) rfl rfl rfl ?_
    refine TL.op (yq (y_assign (ev_t rfl))) rfl rfl rfl ?_
    refine TL.nil ?_
    refine TN.seq ?_
    refine TC.ret ?_
    subst hF
    exact TN.ret1 rfl (ev_t rfl) (fun w' hw => ⟨rfl, hw⟩)

set_option maxRecDepth 4000 in
set_option maxHeartbeats 1000000 in
theorem spec_l5Farthest_ok (w : World) (vreqs : Value) (reqs : List Int) (hreqs : RI w vreqs reqs) (at_ : Int) (vnow : Value) (now : List Int) (hnow : RI w vnow now) (hp0 : 0 ≤ at_ ∧ at_ < reqs.length) (hp1 : reqs.length ≤ 1000) (hp2 : 1 ≤ now.length) :
    Calls Try.prog 92 ([vreqs, (.int .i64 at_), vnow] : List Value).toArray w (Ret (.int .i64 (F_spec_l5Farthest reqs at_ now)) (Hp w [])) := by
  obtain ⟨rz, hF⟩ : ∃ rz, (F_spec_l5Farthest reqs at_ now) = rz := ⟨_, rfl⟩
  rw [hF]
  unfold F_spec_l5Farthest at hF
  have hlen_reqs := arg_len hreqs
  have hlen_now := arg_len hnow
  refine calls_tc Try.func92 rfl rfl rfl ?_
  change TC _ _ _ _ (Hp w []) [(0, vreqs), (1, (.int .i64 at_)), (2, vnow)]
  refine TC.seq ?_
  refine TC.region ?_
  refine TL.op (yq (y_assign ev_c)) rfl rfl rfl ?_
  refine TL.nil ?_
  refine TN.seq ?_
  refine TC.seq ?_
  refine TC.region ?_
  refine TL.op (yq (y_move (ev_t rfl))) rfl rfl rfl ?_
  have hb14 : 0 < now.length := (by first | omega | (simp only [List.length_set, List.length_append, List.length_cons, List.length_nil, List.length_replicate]; omega) | (rw [sortI_length]; simp only [List.length_cons, List.length_nil]; omega))
  refine TL.op (yq (y_idx (k := 0) (ev_t rfl) ev_c (by first | omega | simp) slT_22 (ri_arg hnow) hb14)) rfl rfl rfl ?_
  refine TL.op (yq (y_ldi (ev_t rfl) one_3 (ri_arg hnow) hb14)) rfl rfl rfl ?_
  refine TL.op (yq (y_assign (ev_t rfl))) rfl rfl rfl ?_
  refine TL.nil ?_
  refine TN.seq ?_
  refine TC.seq ?_
  refine TC.seq ?_
  refine TC.region ?_
  refine TL.op (yq (y_assign ev_c)) rfl rfl rfl ?_
  refine TL.nil ?_
  refine TN.seq ?_
  refine TC.block ?_
  obtain ⟨c15, hc16⟩ : ∃ c, F_spec_l5Farthest_L1 reqs at_ now ((now.length - 1) + 1) ((now.getD 0 0), 1) = c := ⟨_, rfl⟩
  rw [hc16] at hF
  refine TC.loop (ι := Nat × Int × Nat) (fun (fu1, best1, i1) => [(0, vreqs), (1, (.int .i64 at_)), (2, vnow), (7, (.int .i64 best1)), (8, (.int .i64 (i1 : Int)))]) (fun (fu1, best1, i1) => Hp w []) (fun (fu1, best1, i1) => (i1 ≤ max now.length 1) ∧ now.length - i1 < fu1 ∧ F_spec_l5Farthest_L1 reqs at_ now fu1 (best1, i1) = c15) (fun (fu1, best1, i1) => fu1) ((now.length - 1) + 1, (now.getD 0 0), 1) ⟨(by first | omega | (simp [-List.getD_eq_getElem?_getD] <;> omega)), (by omega), hc16⟩ ⟨rfl, rfl, rfl, rfl, rfl, trivial⟩ (fun w hw => hw) ?_
  rintro ⟨fu1, best1, i1⟩ hJ1
  obtain ⟨hi1_0, hmu1, hL1⟩ : (i1 ≤ max now.length 1) ∧ now.length - i1 < fu1 ∧ F_spec_l5Farthest_L1 reqs at_ now fu1 (best1, i1) = c15 := hJ1
  change TC _ _ _ _ (Hp w []) [(0, vreqs), (1, (.int .i64 at_)), (2, vnow), (7, (.int .i64 best1)), (8, (.int .i64 (i1 : Int)))]
  obtain ⟨mf1, rfl⟩ : ∃ m, fu1 = m + 1 := ⟨fu1 - 1, by omega⟩
  rw [F_spec_l5Farthest_L1_s] at hL1
  refine TC.seq ?_
  refine TC.seq ?_
  refine TC.region ?_
  refine TL.op (yq (y_move (ev_t rfl))) rfl rfl rfl ?_
  refine TL.op (yq (y_move (ev_t rfl))) rfl rfl rfl ?_
  refine TL.op (yq (y_len (ev_t rfl) Try.underlying22 (fun w hw => ((ri_arg hnow) w hw).ln))) rfl rfl rfl ?_
  refine TL.op (yq (y_lss (ev_t rfl) (ev_t rfl))) rfl rfl rfl ?_
  refine TL.nil ?_
  refine TN.seq ?_
  refine TC.cond (b := decide ((i1 : Int) < (now.length : Int))) (ev_t rfl) (fun h17 => ?_) (fun h17 => ?_)
  · rw [bif_pos h17] at hL1
    have q18 := (of_decide_eq_true h17)
    refine TC.skip ?_
    refine TN.seq ?_
    refine TC.seq ?_
    refine TC.block ?_
    refine TC.seq ?_
    refine TC.region ?_
    refine TL.op (yq (y_move (ev_t rfl))) rfl rfl rfl ?_
    refine TL.op (yq (y_move (ev_t rfl))) rfl rfl rfl ?_
    refine TL.op (yq (y_move (ev_t rfl))) rfl rfl rfl ?_
    refine TL.op (yq (y_move (ev_t rfl))) rfl rfl rfl ?_
    have hb19 : i1 < now.length := (by first | omega | (simp only [List.length_set, List.length_append, List.length_cons, List.length_nil, List.length_replicate]; omega) | (rw [sortI_length]; simp only [List.length_cons, List.length_nil]; omega))
    refine TL.op (yq (y_idx (k := i1) (ev_t rfl) (ev_t rfl) (by first | omega | simp) slT_22 (ri_arg hnow) hb19)) rfl rfl rfl ?_
    refine TL.op (yq (y_ldi (ev_t rfl) one_3 (ri_arg hnow) hb19)) rfl rfl rfl ?_
    refine TL.op (y_call (vs := [vreqs, (.int .i64 at_), (.int .i64 (now.getD i1 0))]) (v := (.int .i64 (F_spec_l5Use reqs at_ (now.getD i1 0)))) en_128 ⟨(ev_t rfl), (ev_t rfl), (ev_t rfl), trivial⟩ (fun w hw => spec_l5Use_ok w vreqs reqs ((ri_arg hreqs) w hw) at_ (now.getD i1 0) (by first | assumption | omega | grind) (by first | assumption | omega | grind))) rfl rfl rfl ?_
    refine TL.op (yq (y_move (ev_t rfl))) rfl rfl rfl ?_
    refine TL.op (yq (y_move (ev_t rfl))) rfl rfl rfl ?_
    refine TL.op (yq (y_move (ev_t rfl))) rfl rfl rfl ?_
    refine TL.op (y_call (vs := [vreqs, (.int .i64 at_), (.int .i64 best1)]) (v := (.int .i64 (F_spec_l5Use reqs at_ best1))) en_128 ⟨(ev_t rfl), (ev_t rfl), (ev_t rfl), trivial⟩ (fun w hw => spec_l5Use_ok w vreqs reqs ((ri_arg hreqs) w hw) at_ best1 (by first | assumption | omega | grind) (by first | assumption | omega | grind))) rfl rfl rfl ?_
    refine TL.op (yq (y_gtr (ev_t rfl) (ev_t rfl))) rfl rfl rfl ?_
    refine TL.nil ?_
    refine TN.seq ?_
    refine TC.cond (b := decide ((F_spec_l5Use reqs at_ best1) < (F_spec_l5Use reqs at_ (now.getD i1 0)))) (ev_t rfl) (fun h20 => ?_) (fun h20 => ?_)
    · rw [bif_pos h20] at hL1
      have q21 := (of_decide_eq_true h20)
      refine TC.region ?_
      refine TL.op (yq (y_move (ev_t rfl))) rfl rfl rfl ?_
      refine TL.op (yq (y_move (ev_t rfl))) rfl rfl rfl ?_
      have hb22 : i1 < now.length := (by first | omega | (simp only [List.length_set, List.length_append, List.length_cons, List.length_nil, List.length_replicate]; omega) | (rw [sortI_length]; simp only [List.length_cons, List.length_nil]; omega))
      refine TL.op (yq (y_idx (k := i1) (ev_t rfl) (ev_t rfl) (by first | omega | simp) slT_22 (ri_arg hnow) hb22)) rfl rfl rfl ?_
      refine TL.op (yq (y_ldi (ev_t rfl) one_3 (ri_arg hnow) hb22)) rfl rfl rfl ?_
      refine TL.op (yq (y_assign (ev_t rfl))) rfl rfl rfl ?_
      refine TL.nil ?_
      refine TN.blockN ?_
      refine TN.seq ?_
      refine TC.region ?_
      refine TL.op (yq (y_move (ev_t rfl))) rfl rfl rfl ?_
      refine TL.op (yq (y_add (ev_t rfl) ev_c (by unfold In64; omega))) rfl rfl rfl ?_
      refine TL.op (yq (y_assign (ev_t rfl))) rfl rfl rfl ?_
      refine TL.nil ?_
      exact TN.hand (mf1, (now.getD i1 0), (i1 + 1)) ⟨(by first | omega | (simp [-List.getD_eq_getElem?_getD] <;> omega)), (by omega), hL1⟩ (Nat.lt_succ_self _) ⟨rfl, rfl, rfl, rfl, rfl, trivial⟩ (fun w hw => hw)
    · rw [bif_neg h20] at hL1
      have q21 := (of_decide_eq_false h20)
      refine TC.skip ?_
      refine TN.blockN ?_
      refine TN.seq ?_
      refine TC.region ?_
      refine TL.op (yq (y_move (ev_t rfl))) rfl rfl rfl ?_
      refine TL.op (yq (y_add (ev_t rfl) ev_c (by unfold In64; omega))) rfl rfl rfl ?_
      refine TL.op (yq (y_assign (ev_t rfl))) rfl rfl rfl ?_
      refine TL.nil ?_
      exact TN.hand (mf1, best1, (i1 + 1)) ⟨(by first | omega | (simp [-List.getD_eq_getElem?_getD] <;> omega)), (by omega), hL1⟩ (Nat.lt_succ_self _) ⟨rfl, rfl, rfl, rfl, rfl, trivial⟩ (fun w hw => hw)
  · rw [bif_neg h17] at hL1
    have q18 := (of_decide_eq_false h17)
    refine TC.exit ?_
    refine TN.thenE ?_
    refine TN.thenE ?_
    rw [← hL1, elim_next] at hF
    try dsimp only at hF
    refine TN.blockH ?_
    refine TN.seq ?_
    refine TC.seq ?_
    refine TC.region ?_
    refine TL.op (yq (y_move (ev_t rfl))) rfl rfl rfl ?_
    refine TL.op (yq (y_assign (ev_t rfl))) rfl rfl rfl ?_
    refine TL.nil ?_
    refine TN.seq ?_
    refine TC.ret ?_
    subst hF
    exact TN.ret1 rfl (ev_t rfl) (fun w' hw => ⟨rfl, hw⟩)

set_option maxRecDepth 4000 in
set_option maxHeartbeats 1000000 in
theorem spec_l5FarPlan_ok (w : World) (k : Int) (vreqs : Value) (reqs : List Int) (hreqs : RI w vreqs reqs) (hp0 : reqs.length ≤ 1000) (hp1 : 1 ≤ k) :
    Calls Try.prog 49 ([(.int .i64 k), vreqs] : List Value).toArray w (fun e w' => ∃ i : Value, e = .returned i ∧ Hp w [rowI 3 i (F_spec_l5FarPlan k reqs)] w') := by
  obtain ⟨rz, hF⟩ : ∃ rz, (F_spec_l5FarPlan k reqs) = rz := ⟨_, rfl⟩
  rw [hF]
  unfold F_spec_l5FarPlan at hF
  have hlen_reqs := arg_len hreqs
  refine calls_tc Try.func49 rfl rfl rfl ?_
  change TC _ _ _ _ (Hp w []) [(0, (.int .i64 k)), (1, vreqs)]
  refine TC.seq ?_
  refine TC.region ?_
  refine TL.op (yq (y_assign ev_c)) rfl rfl rfl ?_
  refine TL.nil ?_
  refine TN.seq ?_
  refine TC.seq ?_
  refine TC.region ?_
  refine TL.buildI (zs := []) (qs := []) slT_22 rfl trivial rfl (by decide) rfl (fun v1_0 => ?_)
  refine TL.buildI (zs := []) (qs := []) slT_22 rfl trivial rfl (by decide) rfl (fun v1_1 => ?_)
  refine TL.op (yq (y_assign (ev_t rfl))) rfl rfl rfl ?_
  refine TL.op (yq (y_assign (ev_t rfl))) rfl rfl rfl ?_
  refine TL.nil ?_
  refine TN.seq ?_
  refine TC.seq ?_
  refine TC.seq ?_
  refine TC.region ?_
  refine TL.op (yq (y_assign ev_c)) rfl rfl rfl ?_
  refine TL.nil ?_
  refine TN.seq ?_
  refine TC.block ?_
  obtain ⟨c15, hc16⟩ : ∃ c, F_spec_l5FarPlan_L1 k reqs ((reqs.length - 0) + 1) (([] : List Int), ([] : List Int), 0) = c := ⟨_, rfl⟩
  rw [hc16] at hF
  refine TC.loop (ι := Nat × List Int × List Int × Nat × Value × Value) (fun (fu1, plan1, now1, i1, vplan1, vnow1) => [(0, (.int .i64 k)), (1, vreqs), (5, vplan1), (6, vnow1), (7, (.int .i64 (i1 : Int)))]) (fun (fu1, plan1, now1, i1, vplan1, vnow1) => Hp w [rowI 3 vnow1 now1, rowI 3 vplan1 plan1]) (fun (fu1, plan1, now1, i1, vplan1, vnow1) => (i1 ≤ reqs.length) ∧ (now1.length ≤ i1) ∧ (plan1.length ≤ i1) ∧ reqs.length - i1 < fu1 ∧ F_spec_l5FarPlan_L1 k reqs fu1 (plan1, now1, i1) = c15) (fun (fu1, plan1, now1, i1, vplan1, vnow1) => fu1) ((reqs.length - 0) + 1, ([] : List Int), ([] : List Int), 0, v1_0, v1_1) ⟨(by first | omega | (simp [-List.getD_eq_getElem?_getD] <;> omega)), (by first | omega | (simp [-List.getD_eq_getElem?_getD] <;> omega)), (by first | omega | (simp [-List.getD_eq_getElem?_getD] <;> omega)), (by omega), hc16⟩ ⟨rfl, rfl, rfl, rfl, rfl, trivial⟩ (fun w hw => hw) ?_
  rintro ⟨fu1, plan1, now1, i1, vplan1, vnow1⟩ hJ1
  obtain ⟨hi1_0, hi1_1, hi1_2, hmu1, hL1⟩ : (i1 ≤ reqs.length) ∧ (now1.length ≤ i1) ∧ (plan1.length ≤ i1) ∧ reqs.length - i1 < fu1 ∧ F_spec_l5FarPlan_L1 k reqs fu1 (plan1, now1, i1) = c15 := hJ1
  change TC _ _ _ _ (Hp w [rowI 3 vnow1 now1, rowI 3 vplan1 plan1]) [(0, (.int .i64 k)), (1, vreqs), (5, vplan1), (6, vnow1), (7, (.int .i64 (i1 : Int)))]
  obtain ⟨mf1, rfl⟩ : ∃ m, fu1 = m + 1 := ⟨fu1 - 1, by omega⟩
  rw [F_spec_l5FarPlan_L1_s] at hL1
  have hol := l5Out_len now1 (F_spec_l5Farthest reqs (i1 : Int) now1)
  have hp1 := l1Put_len now1 (reqs.getD i1 0)
  have hp2 := l1Put_len (F_spec_l5Out now1 (F_spec_l5Farthest reqs (i1 : Int) now1)) (reqs.getD i1 0)
  refine TC.seq ?_
  refine TC.seq ?_
  refine TC.region ?_
  refine TL.op (yq (y_move (ev_t rfl))) rfl rfl rfl ?_
  refine TL.op (yq (y_move (ev_t rfl))) rfl rfl rfl ?_
  refine TL.op (yq (y_len (ev_t rfl) Try.underlying22 (fun w hw => ((ri_arg hreqs) w hw).ln))) rfl rfl rfl ?_
  refine TL.op (yq (y_lss (ev_t rfl) (ev_t rfl))) rfl rfl rfl ?_
  refine TL.nil ?_
  refine TN.seq ?_
  refine TC.cond (b := decide ((i1 : Int) < (reqs.length : Int))) (ev_t rfl) (fun h17 => ?_) (fun h17 => ?_)
  · rw [bif_pos h17] at hL1
    have q18 := (of_decide_eq_true h17)
    refine TC.skip ?_
    refine TN.seq ?_
    refine TC.seq ?_
    refine TC.block ?_
    refine TC.seq ?_
    refine TC.region ?_
    refine TL.op (yq (y_assign ev_c)) rfl rfl rfl ?_
    refine TL.nil ?_
    refine TN.seq ?_
    refine TC.seq ?_
    refine TC.seq ?_
    refine TC.region ?_
    refine TL.op (yq (y_move (ev_t rfl))) rfl rfl rfl ?_
    refine TL.op (yq (y_move (ev_t rfl))) rfl rfl rfl ?_
    refine TL.op (yq (y_move (ev_t rfl))) rfl rfl rfl ?_
    have hb19 : i1 < reqs.length := (by first | omega | (simp only [List.length_set, List.length_append, List.length_cons, List.length_nil, List.length_replicate]; omega) | (rw [sortI_length]; simp only [List.length_cons, List.length_nil]; omega))
    refine TL.op (yq (y_idx (k := i1) (ev_t rfl) (ev_t rfl) (by first | omega | simp) slT_22 (ri_arg hreqs) hb19)) rfl rfl rfl ?_
    refine TL.op (yq (y_ldi (ev_t rfl) one_3 (ri_arg hreqs) hb19)) rfl rfl rfl ?_
    refine TL.op (y_call (vs := [vnow1, (.int .i64 (reqs.getD i1 0))]) (v := (.bool (F_spec_l1Has now1 (reqs.getD i1 0)))) en_70 ⟨(ev_t rfl), (ev_t rfl), trivial⟩ (fun w hw => spec_l1Has_ok w vnow1 now1 ((ri_row 0 rfl) w hw) (reqs.getD i1 0))) rfl rfl rfl ?_
    refine TL.op (yq (y_not (ev_t rfl))) rfl rfl rfl ?_
    refine TL.op (yq (y_move (ev_t rfl))) rfl rfl rfl ?_
    refine TL.opw (w_t rfl rfl rfl) (fun hg => yq (y_move (ev_t rfl))) rfl rfl ?_
    refine TL.opw (w_t rfl rfl rfl) (fun hg => yq (y_len (ev_g rfl hg) Try.underlying22 (fun w hw => ((ri_row 0 rfl) w hw).ln))) rfl rfl ?_
    refine TL.opw (w_t rfl rfl rfl) (fun hg => yq (y_move (ev_t rfl))) rfl rfl ?_
    refine TL.opw (w_t rfl rfl rfl) (fun hg => yq (y_eql (ev_g rfl hg) (ev_g rfl hg))) rfl rfl ?_
    refine TL.op (yq (y_and (ev_t rfl) (fun hq => (ev_g rfl hq)))) rfl rfl rfl ?_
    refine TL.nil ?_
    refine TN.seq ?_
    refine TC.cond (b := ((!(F_spec_l1Has now1 (reqs.getD i1 0))) && (decide ((now1.length : Int) = k)))) (ev_t rfl) (fun h20 => ?_) (fun h20 => ?_)
    · rw [bif_pos h20] at hL1
      have q21 := (and_imp (and_t h20) (fun h => (l1Has_f (not_t h))) (fun h => (of_decide_eq_true h)))
      refine TC.seq ?_
      refine TC.region ?_
      refine TL.op (yq (y_move (ev_t rfl))) rfl rfl rfl ?_
      refine TL.op (yq (y_move (ev_t rfl))) rfl rfl rfl ?_
      refine TL.op (yq (y_move (ev_t rfl))) rfl rfl rfl ?_
      refine TL.op (y_call (vs := [vreqs, (.int .i64 (i1 : Int)), vnow1]) (v := (.int .i64 (F_spec_l5Farthest reqs (i1 : Int) now1))) en_92 ⟨(ev_t rfl), (ev_t rfl), (ev_t rfl), trivial⟩ (fun w hw => spec_l5Farthest_ok w vreqs reqs ((ri_arg hreqs) w hw) (i1 : Int) vnow1 now1 ((ri_row 0 rfl) w hw) (by first | assumption | omega | grind) (by first | assumption | omega | grind) (by first | assumption | omega | grind))) rfl rfl rfl ?_
      refine TL.op (yq (y_assign (ev_t rfl))) rfl rfl rfl ?_
      refine TL.nil ?_
      refine TN.seq ?_
      refine TC.region ?_
      refine TL.op (yq (y_move (ev_t rfl))) rfl rfl rfl ?_
      refine TL.op (yq (y_move (ev_t rfl))) rfl rfl rfl ?_
      refine TL.callr (ι := Value) (vs := [vnow1, (.int .i64 (F_spec_l5Farthest reqs (i1 : Int) now1))]) (fun i => i) (fun i => [rowI 3 i (F_spec_l5Out now1 (F_spec_l5Farthest reqs (i1 : Int) now1))]) en_84 ⟨(ev_t rfl), (ev_t rfl), trivial⟩ rfl (fun w hw => spec_l5Out_ok w vnow1 now1 ((ri_row 0 rfl) w hw) (F_spec_l5Farthest reqs (i1 : Int) now1) (by first | assumption | omega | grind)) (fun r8_2 => ?_)
      refine TL.op (yq (y_assign (ev_t rfl))) rfl rfl rfl ?_
      refine TL.nil ?_
      refine TN.seq ?_
      refine TC.seq ?_
      refine TC.region ?_
      refine TL.op (yq (y_move (ev_t rfl))) rfl rfl rfl ?_
      refine TL.op (yq (y_move (ev_t rfl))) rfl rfl rfl ?_
      refine TL.op (yq (y_move (ev_t rfl))) rfl rfl rfl ?_
      have hb22 : i1 < reqs.length := (by first | omega | (simp only [List.length_set, List.length_append, List.length_cons, List.length_nil, List.length_replicate]; omega) | (rw [sortI_length]; simp only [List.length_cons, List.length_nil]; omega))
      refine TL.op (yq (y_idx (k := i1) (ev_t rfl) (ev_t rfl) (by first | omega | simp) slT_22 (ri_arg hreqs) hb22)) rfl rfl rfl ?_
      refine TL.op (yq (y_ldi (ev_t rfl) one_3 (ri_arg hreqs) hb22)) rfl rfl rfl ?_
      refine TL.callmR (ι := Value) 0 (vs := [r8_2, (.int .i64 (reqs.getD i1 0))]) (fun i => i) (fun i => rowI 3 i (F_spec_l1Put (F_spec_l5Out now1 (F_spec_l5Farthest reqs (i1 : Int) now1)) (reqs.getD i1 0))) en_85 ⟨(ev_t rfl), (ev_t rfl), trivial⟩ rfl rfl (fun w1 _ hw => spec_l1Put_ok w w1 _ r8_2 (F_spec_l5Out now1 (F_spec_l5Farthest reqs (i1 : Int) now1)) hw (reqs.getD i1 0) (by first | assumption | omega | grind)) (fun r9_5 => ?_)
      refine TL.op (yq (y_assign (ev_t rfl))) rfl rfl rfl ?_
      refine TL.nil ?_
      refine TN.seq ?_
      refine TC.region ?_
      refine TL.op (yq (y_move (ev_t rfl))) rfl rfl rfl ?_
      refine TL.op (yq (y_move (ev_t rfl))) rfl rfl rfl ?_
      refine TL.buildI (zs := [.tmp 44]) (qs := [(F_spec_l5Farthest reqs (i1 : Int) now1)]) slT_22 rfl ⟨(ev_t rfl), trivial⟩ rfl (by decide) rfl (fun v10_2 => ?_)
      refine TL.appendI 3 (ev_t rfl) (ev_t rfl) rfl slT_22 (ri_row 0 rfl) (by first | omega | (simp [-List.getD_eq_getElem?_getD] <;> omega)) rfl (fun v10_3 => ?_)
      refine TL.op (yq (y_assign (ev_t rfl))) rfl rfl rfl ?_
      refine TL.nil ?_
      refine TN.blockN ?_
      refine TN.seq ?_
      refine TC.region ?_
      refine TL.op (yq (y_move (ev_t rfl))) rfl rfl rfl ?_
      refine TL.op (yq (y_add (ev_t rfl) ev_c (by unfold In64; omega))) rfl rfl rfl ?_
      refine TL.op (yq (y_assign (ev_t rfl))) rfl rfl rfl ?_
      refine TL.nil ?_
      exact TN.hand (mf1, (plan1 ++ ([(F_spec_l5Farthest reqs (i1 : Int) now1)])), (F_spec_l1Put (F_spec_l5Out now1 (F_spec_l5Farthest reqs (i1 : Int) now1)) (reqs.getD i1 0)), (i1 + 1), v10_3, r9_5) ⟨(by first | omega | (simp [-List.getD_eq_getElem?_getD] <;> omega)), (by first | omega | (simp [-List.getD_eq_getElem?_getD] <;> omega)), (by first | omega | (simp [-List.getD_eq_getElem?_getD] <;> omega)), (by omega), hL1⟩ (Nat.lt_succ_self _) ⟨rfl, rfl, rfl, rfl, rfl, trivial⟩ (fun w hw => Hp.sublist hw (.cons _ (.cons_cons _ (.cons _ (.cons_cons _ .slnil)))))
    · rw [bif_neg h20] at hL1
      have q21 := ((and_f h20).imp (fun h => (not_f h)) (fun h => (of_decide_eq_false h)))
      refine TC.skip ?_
      refine TN.seq ?_
      refine TC.seq ?_
      refine TC.region ?_
      refine TL.op (yq (y_move (ev_t rfl))) rfl rfl rfl ?_
      refine TL.op (yq (y_move (ev_t rfl))) rfl rfl rfl ?_
      refine TL.op (yq (y_move (ev_t rfl))) rfl rfl rfl ?_
      have hb23 : i1 < reqs.length := (by first | omega | (simp only [List.length_set, List.length_append, List.length_cons, List.length_nil, List.length_replicate]; omega) | (rw [sortI_length]; simp only [List.length_cons, List.length_nil]; omega))
      refine TL.op (yq (y_idx (k := i1) (ev_t rfl) (ev_t rfl) (by first | omega | simp) slT_22 (ri_arg hreqs) hb23)) rfl rfl rfl ?_
      refine TL.op (yq (y_ldi (ev_t rfl) one_3 (ri_arg hreqs) hb23)) rfl rfl rfl ?_
      refine TL.callmR (ι := Value) 0 (vs := [vnow1, (.int .i64 (reqs.getD i1 0))]) (fun i => i) (fun i => rowI 3 i (F_spec_l1Put now1 (reqs.getD i1 0))) en_85 ⟨(ev_t rfl), (ev_t rfl), trivial⟩ rfl rfl (fun w1 _ hw => spec_l1Put_ok w w1 _ vnow1 now1 hw (reqs.getD i1 0) (by first | assumption | omega | grind)) (fun r9_5 => ?_)
      refine TL.op (yq (y_assign (ev_t rfl))) rfl rfl rfl ?_
      refine TL.nil ?_
      refine TN.seq ?_
      refine TC.region ?_
      refine TL.op (yq (y_move (ev_t rfl))) rfl rfl rfl ?_
      refine TL.op (yq (y_move (ev_t rfl))) rfl rfl rfl ?_
      refine TL.buildI (zs := [.tmp 44]) (qs := [-1]) slT_22 rfl ⟨(ev_t rfl), trivial⟩ rfl (by decide) rfl (fun v10_2 => ?_)
      refine TL.appendI 2 (ev_t rfl) (ev_t rfl) rfl slT_22 (ri_row 0 rfl) (by first | omega | (simp [-List.getD_eq_getElem?_getD] <;> omega)) rfl (fun v10_3 => ?_)
      refine TL.op (yq (y_assign (ev_t rfl))) rfl rfl rfl ?_
      refine TL.nil ?_
      refine TN.blockN ?_
      refine TN.seq ?_
      refine TC.region ?_
      refine TL.op (yq (y_move (ev_t rfl))) rfl rfl rfl ?_
      refine TL.op (yq (y_add (ev_t rfl) ev_c (by unfold In64; omega))) rfl rfl rfl ?_
      refine TL.op (yq (y_assign (ev_t rfl))) rfl rfl rfl ?_
      refine TL.nil ?_
      exact TN.hand (mf1, (plan1 ++ ([-1])), (F_spec_l1Put now1 (reqs.getD i1 0)), (i1 + 1), v10_3, r9_5) ⟨(by first | omega | (simp [-List.getD_eq_getElem?_getD] <;> omega)), (by first | omega | (simp [-List.getD_eq_getElem?_getD] <;> omega)), (by first | omega | (simp [-List.getD_eq_getElem?_getD] <;> omega)), (by omega), hL1⟩ (Nat.lt_succ_self _) ⟨rfl, rfl, rfl, rfl, rfl, trivial⟩ (fun w hw => Hp.sublist hw (.cons _ (.cons_cons _ (.cons_cons _ .slnil))))
  · rw [bif_neg h17] at hL1
    have q18 := (of_decide_eq_false h17)
    refine TC.exit ?_
    refine TN.thenE ?_
    refine TN.thenE ?_
    rw [← hL1, elim_next] at hF
    try dsimp only at hF
    refine TN.blockH ?_
    refine TN.seq ?_
    refine TC.seq ?_
    refine TC.region ?_
    refine TL.op (yq (y_move (ev_t rfl))) rfl rfl rfl ?_
    refine TL.op (yq (y_assign (ev_t rfl))) rfl rfl rfl ?_
    refine TL.nil ?_
    refine TN.seq ?_
    refine TC.ret ?_
    subst hF
    exact TN.ret1 rfl (ev_t rfl) (fun w' hw => ⟨vplan1, rfl, Hp.sublist hw (.cons _ (.cons_cons _ .slnil))⟩)

set_option maxRecDepth 4000 in
set_option maxHeartbeats 1000000 in
theorem spec_FarthestPlan_ok (w : World) (k : Int) (n : Int) (vreqs : Value) (reqs : List Int) (hreqs : RI w vreqs reqs)  :
    Calls Try.prog 17 ([(.int .i64 k), (.int .i64 n), vreqs] : List Value).toArray w (fun e w' => ∃ i : Value, e = .returned (.tuple #[i, (.bool ((F_spec_FarthestPlan k n reqs).2))]) ∧ Hp w [rowI 3 i ((F_spec_FarthestPlan k n reqs).1)] w') := by
  obtain ⟨rz, hF⟩ : ∃ rz, (F_spec_FarthestPlan k n reqs) = rz := ⟨_, rfl⟩
  rw [hF]
  unfold F_spec_FarthestPlan at hF
  have hlen_reqs := arg_len hreqs
  refine calls_tc Try.func17 rfl rfl rfl ?_
  change TC _ _ _ _ (Hp w []) [(0, (.int .i64 k)), (1, (.int .i64 n)), (2, vreqs)]
  refine TC.seq ?_
  refine TC.region ?_
  refine TL.op (yq (y_assign ev_c)) rfl rfl rfl ?_
  refine TL.op (yq (y_assign ev_c)) rfl rfl rfl ?_
  refine TL.nil ?_
  refine TN.seq ?_
  refine TC.seq ?_
  refine TC.seq ?_
  refine TC.region ?_
  refine TL.op (yq (y_move (ev_t rfl))) rfl rfl rfl ?_
  refine TL.op (yq (y_move (ev_t rfl))) rfl rfl rfl ?_
  refine TL.op (yq (y_move (ev_t rfl))) rfl rfl rfl ?_
  refine TL.op (y_call (vs := [(.int .i64 k), (.int .i64 n), vreqs]) (v := (.bool (F_spec_l5Takes k n reqs))) en_44 ⟨(ev_t rfl), (ev_t rfl), (ev_t rfl), trivial⟩ (fun w hw => spec_l5Takes_ok w k n vreqs reqs ((ri_arg hreqs) w hw))) rfl rfl rfl ?_
  refine TL.op (yq (y_not (ev_t rfl))) rfl rfl rfl ?_
  refine TL.nil ?_
  refine TN.seq ?_
  refine TC.cond (b := !(F_spec_l5Takes k n reqs)) (ev_t rfl) (fun h3 => ?_) (fun h3 => ?_)
  · rw [bif_pos h3] at hF
    have q4 := (not_t h3)
    refine TC.seq ?_
    refine TC.region ?_
    refine TL.buildI (zs := []) (qs := []) slT_22 rfl trivial rfl (by decide) rfl (fun v2_0 => ?_)
    refine TL.op (yq (y_assign (ev_t rfl))) rfl rfl rfl ?_
    refine TL.op (yq (y_assign ev_c)) rfl rfl rfl ?_
    refine TL.nil ?_
    refine TN.seq ?_
    refine TC.ret ?_
    refine TN.thenR ?_
    subst hF
    exact TN.ret2 rfl (ev_t rfl) (ev_t rfl) (fun w' hw => ⟨v2_0, rfl, hw⟩)
  · rw [bif_neg h3] at hF
    have q4 := (l5Takes_t (not_f h3))
    refine TC.skip ?_
    refine TN.seq ?_
    refine TC.seq ?_
    refine TC.region ?_
    refine TL.op (yq (y_move (ev_t rfl))) rfl rfl rfl ?_
    refine TL.op (yq (y_move (ev_t rfl))) rfl rfl rfl ?_
    refine TL.callr (ι := Value) (vs := [(.int .i64 k), vreqs]) (fun i => i) (fun i => [rowI 3 i (F_spec_l5FarPlan k reqs)]) en_49 ⟨(ev_t rfl), (ev_t rfl), trivial⟩ rfl (fun w hw => spec_l5FarPlan_ok w k vreqs reqs ((ri_arg hreqs) w hw) (by first | assumption | omega | grind) (by first | assumption | omega | grind)) (fun r3_2 => ?_)
    refine TL.op (yq (y_assign (ev_t rfl))) rfl rfl rfl ?_
    refine TL.op (yq (y_assign ev_c)) rfl rfl rfl ?_
    refine TL.nil ?_
    refine TN.seq ?_
    refine TC.ret ?_
    subst hF
    exact TN.ret2 rfl (ev_t rfl) (ev_t rfl) (fun w' hw => ⟨r3_2, rfl, hw⟩)

end Go.Proofs.Ytlhmmhlfledleaa
