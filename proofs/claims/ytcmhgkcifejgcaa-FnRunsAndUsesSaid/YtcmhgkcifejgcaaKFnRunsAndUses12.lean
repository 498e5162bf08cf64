/-
  Part of a proof: rules of the walk, plain functions and their laws, walks. No condition.
-/
import Derived.Test.YtcmhgkcifejgcaaKFnRunsAndUses11
namespace Go.Proofs.Ytcmhgkcifejgcaa
set_option linter.unusedVariables false
set_option linter.unusedSimpArgs false
open Go Go.RowKit
set_option linter.unusedVariables false

set_option maxRecDepth 4000 in
set_option maxHeartbeats 1000000 in
theorem spec_l1In_ok (w : World) (x : Int) (a : Int) (b : Int)  :
    Calls Try.prog 81 ([(.int .i64 x), (.int .i64 a), (.int .i64 b)] : List Value).toArray w (Ret (.bool (F_spec_l1In x a b)) (Hp w [])) := by
  obtain ⟨rz, hF⟩ : ∃ rz, (F_spec_l1In x a b) = rz := ⟨_, rfl⟩
  rw [hF]
  unfold F_spec_l1In at hF
  refine calls_tc Try.func81 rfl rfl rfl ?_
  change TC _ _ _ _ (Hp w []) [(0, (.int .i64 x)), (1, (.int .i64 a)), (2, (.int .i64 b))]
  refine TC.seq ?_
  refine TC.region ?_
  refine TL.op (yq (y_assign ev_c)) rfl rfl rfl ?_
  refine TL.nil ?_
  refine TN.seq ?_
  refine TC.seq ?_
  refine TC.region ?_
  refine TL.op (yq (y_move (ev_t rfl))) rfl rfl rfl ?_
  refine TL.op (yq (y_move (ev_t rfl))) rfl rfl rfl ?_
  refine TL.op (yq (y_geq (ev_t rfl) (ev_t rfl))) rfl rfl rfl ?_
  refine TL.op (yq (y_move (ev_t rfl))) rfl rfl rfl ?_
  refine TL.opw (w_t rfl rfl rfl) (fun hg => yq (y_move (ev_t rfl))) rfl rfl ?_
  refine TL.opw (w_t rfl rfl rfl) (fun hg => yq (y_move (ev_t rfl))) rfl rfl ?_
  refine TL.opw (w_t rfl rfl rfl) (fun hg => yq (y_leq (ev_g rfl hg) (ev_g rfl hg))) rfl rfl ?_
  refine TL.op (yq (y_and (ev_t rfl) (fun hq => (ev_g rfl hq)))) rfl rfl rfl ?_
  refine TL.op (yq (y_assign (ev_t rfl))) rfl rfl rfl ?_
  refine TL.nil ?_
  refine TN.seq ?_
  refine TC.ret ?_
  subst hF
  exact TN.ret1 rfl (ev_t rfl) (fun w' hw => ⟨rfl, hw⟩)

set_option maxRecDepth 4000 in
set_option maxHeartbeats 1000000 in
theorem impl_within_ok (w : World) (n : Int) (lo : Int) (hi : Int)  :
    Calls Try.prog 78 ([(.int .i64 n), (.int .i64 lo), (.int .i64 hi)] : List Value).toArray w (Ret (.bool (F_impl_within n lo hi)) (Hp w [])) := by
  obtain ⟨rz, hF⟩ : ∃ rz, (F_impl_within n lo hi) = rz := ⟨_, rfl⟩
  rw [hF]
  unfold F_impl_within at hF
  refine calls_tc Try.func78 rfl rfl rfl ?_
  change TC _ _ _ _ (Hp w []) [(0, (.int .i64 n)), (1, (.int .i64 lo)), (2, (.int .i64 hi))]
  refine TC.seq ?_
  refine TC.region ?_
  refine TL.op (yq (y_assign ev_c)) rfl rfl rfl ?_
  refine TL.nil ?_
  refine TN.seq ?_
  refine TC.seq ?_
  refine TC.region ?_
  refine TL.op (yq (y_move (ev_t rfl))) rfl rfl rfl ?_
  refine TL.op (yq (y_move (ev_t rfl))) rfl rfl rfl ?_
  refine TL.op (yq (y_geq (ev_t rfl) (ev_t rfl))) rfl rfl rfl ?_
  refine TL.op (yq (y_move (ev_t rfl))) rfl rfl rfl ?_
  refine TL.opw (w_t rfl rfl rfl) (fun hg => yq (y_move (ev_t rfl))) rfl rfl ?_
  refine TL.opw (w_t rfl rfl rfl) (fun hg => yq (y_move (ev_t rfl))) rfl rfl ?_
  refine TL.opw (w_t rfl rfl rfl) (fun hg => yq (y_leq (ev_g rfl hg) (ev_g rfl hg))) rfl rfl ?_
  refine TL.op (yq (y_and (ev_t rfl) (fun hq => (ev_g rfl hq)))) rfl rfl rfl ?_
  refine TL.op (yq (y_assign (ev_t rfl))) rfl rfl rfl ?_
  refine TL.nil ?_
  refine TN.seq ?_
  refine TC.ret ?_
  subst hF
  exact TN.ret1 rfl (ev_t rfl) (fun w' hw => ⟨rfl, hw⟩)

set_option maxRecDepth 4000 in
set_option maxHeartbeats 1000000 in
theorem spec_l6Ascending_ok (w : World) (vlist : Value) (list : List Int) (hlist : RI w vlist list)  :
    Calls Try.prog 146 ([vlist] : List Value).toArray w (Ret (.bool (F_spec_l6Ascending list)) (Hp w [])) := by
  obtain ⟨rz, hF⟩ : ∃ rz, (F_spec_l6Ascending list) = rz := ⟨_, rfl⟩
  rw [hF]
  unfold F_spec_l6Ascending at hF
  have hlen_list := arg_len hlist
  refine calls_tc Try.func146 rfl rfl rfl ?_
  change TC _ _ _ _ (Hp w []) [(0, vlist)]
  refine TC.seq ?_
  refine TC.region ?_
  refine TL.op (yq (y_assign ev_c)) rfl rfl rfl ?_
  refine TL.nil ?_
  refine TN.seq ?_
  refine TC.seq ?_
  refine TC.seq ?_
  refine TC.region ?_
  refine TL.op (yq (y_assign ev_c)) rfl rfl rfl ?_
  refine TL.nil ?_
  refine TN.seq ?_
  refine TC.block ?_
  obtain ⟨c13, hc14⟩ : ∃ c, F_spec_l6Ascending_L1 list ((list.length - 1) + 1) 1 = c := ⟨_, rfl⟩
  rw [hc14] at hF
  refine TC.loop (ι := Nat × Nat) (fun (fu1, i1) => [(0, vlist), (3, (.int .i64 (i1 : Int)))]) (fun (fu1, i1) => Hp w []) (fun (fu1, i1) => (i1 ≤ max list.length 1) ∧ (1 ≤ i1) ∧ list.length - i1 < fu1 ∧ F_spec_l6Ascending_L1 list fu1 i1 = c13) (fun (fu1, i1) => fu1) ((list.length - 1) + 1, 1) ⟨(by first | omega | (simp [-List.getD_eq_getElem?_getD] <;> omega)), (by first | omega | (simp [-List.getD_eq_getElem?_getD] <;> omega)), (by omega), hc14⟩ ⟨rfl, rfl, trivial⟩ (fun w hw => hw) ?_
  rintro ⟨fu1, i1⟩ hJ1
  obtain ⟨hi1_0, hi1_1, hmu1, hL1⟩ : (i1 ≤ max list.length 1) ∧ (1 ≤ i1) ∧ list.length - i1 < fu1 ∧ F_spec_l6Ascending_L1 list fu1 i1 = c13 := hJ1
  change TC _ _ _ _ (Hp w []) [(0, vlist), (3, (.int .i64 (i1 : Int)))]
  obtain ⟨mf1, rfl⟩ : ∃ m, fu1 = m + 1 := ⟨fu1 - 1, by omega⟩
  rw [F_spec_l6Ascending_L1_s] at hL1
  refine TC.seq ?_
  refine TC.seq ?_
  refine TC.region ?_
  refine TL.op (yq (y_move (ev_t rfl))) rfl rfl rfl ?_
  refine TL.op (yq (y_move (ev_t rfl))) rfl rfl rfl ?_
  refine TL.op (yq (y_len (ev_t rfl) Try.underlying34 (fun w hw => ((ri_arg hlist) w hw).ln))) rfl rfl rfl ?_
  refine TL.op (yq (y_lss (ev_t rfl) (ev_t rfl))) rfl rfl rfl ?_
  refine TL.nil ?_
  refine TN.seq ?_
  refine TC.cond (b := decide ((i1 : Int) < (list.length : Int))) (ev_t rfl) (fun h15 => ?_) (fun h15 => ?_)
  · rw [bif_pos h15] at hL1
    have q16 := (of_decide_eq_true h15)
    refine TC.skip ?_
    refine TN.seq ?_
    refine TC.seq ?_
    refine TC.block ?_
    refine TC.seq ?_
    refine TC.regionQ (by kernel_rfl) (by kernel_rfl) dr_hp ?_
    refine TQ.op (yq (y_move (ev_t rfl))) rfl rfl rfl ?_
    refine TQ.op (yq (y_move (ev_t rfl))) rfl rfl rfl ?_
    refine TQ.op (yq (y_sub (ev_t rfl) ev_c (by unfold In64; constructor <;> omega))) rfl rfl rfl ?_
    have hb17 : ((i1 : Int) - 1).toNat < list.length := (by first | omega | (simp only [List.length_set, List.length_append, List.length_cons, List.length_nil, List.length_replicate]; omega) | (rw [sortI_length]; simp only [List.length_cons, List.length_nil]; omega))
    refine TQ.op (yq (y_idx (k := ((i1 : Int) - 1).toNat) (ev_t rfl) (ev_t rfl) (by first | omega | simp) slT_34 (ri_arg hlist) hb17)) rfl rfl rfl ?_
    refine TQ.op (yq (y_ldi (ev_t rfl) one_3 (ri_arg hlist) hb17)) rfl rfl rfl ?_
    refine TQ.op (yq (y_move (ev_t rfl))) rfl rfl rfl ?_
    refine TQ.op (yq (y_move (ev_t rfl))) rfl rfl rfl ?_
    have hb18 : i1 < list.length := (by first | omega | (simp only [List.length_set, List.length_append, List.length_cons, List.length_nil, List.length_replicate]; omega) | (rw [sortI_length]; simp only [List.length_cons, List.length_nil]; omega))
    refine TQ.op (yq (y_idx (k := i1) (ev_t rfl) (ev_t rfl) (by first | omega | simp) slT_34 (ri_arg hlist) hb18)) rfl rfl rfl ?_
    refine TQ.op (yq (y_ldi (ev_t rfl) one_3 (ri_arg hlist) hb18)) rfl rfl rfl ?_
    refine TQ.op (yq (y_gtr (ev_t rfl) (ev_t rfl))) rfl rfl rfl ?_
    refine TQ.nil ?_
    refine TN.seq ?_
    refine TC.cond (b := decide ((list.getD i1 0) < (list.getD (((i1 : Int) - 1).toNat) 0))) (ev_t rfl) (fun h19 => ?_) (fun h19 => ?_)
    · rw [bif_pos h19] at hL1
      have q20 := (of_decide_eq_true h19)
      refine TC.seq ?_
      refine TC.region ?_
      refine TL.op (yq (y_assign ev_c)) rfl rfl rfl ?_
      refine TL.nil ?_
      refine TN.seq ?_
      refine TC.ret ?_
      refine TN.blockR ?_
      refine TN.thenR ?_
      refine TN.thenR ?_
      rw [← hL1, elim_ret] at hF
      refine TN.blockR ?_
      refine TN.thenR ?_
      subst hF
      exact TN.ret1 rfl (ev_t rfl) (fun w' hw => ⟨rfl, hw⟩)
    · rw [bif_neg h19] at hL1
      have q20 := (of_decide_eq_false h19)
      refine TC.skip ?_
      refine TN.blockN ?_
      refine TN.seq ?_
      refine TC.region ?_
      refine TL.op (yq (y_move (ev_t rfl))) rfl rfl rfl ?_
      refine TL.op (yq (y_add (ev_t rfl) ev_c (by unfold In64; constructor <;> omega))) rfl rfl rfl ?_
      refine TL.op (yq (y_assign (ev_t rfl))) rfl rfl rfl ?_
      refine TL.nil ?_
      exact TN.hand (mf1, (i1 + 1)) ⟨(by first | omega | (simp [-List.getD_eq_getElem?_getD] <;> omega)), (by first | omega | (simp [-List.getD_eq_getElem?_getD] <;> omega)), (by omega), hL1⟩ (Nat.lt_succ_self _) ⟨rfl, rfl, trivial⟩ (fun w hw => hw)
  · rw [bif_neg h15] at hL1
    have q16 := (of_decide_eq_false h15)
    refine TC.exit ?_
    refine TN.thenE ?_
    refine TN.thenE ?_
    rw [← hL1, elim_next] at hF
    try dsimp only at hF
    refine TN.blockH ?_
    refine TN.seq ?_
    refine TC.seq ?_
    refine TC.region ?_
    refine TL.op (yq (y_assign ev_c)) rfl rfl rfl ?_
    refine TL.nil ?_
    refine TN.seq ?_
    refine TC.ret ?_
    subst hF
    exact TN.ret1 rfl (ev_t rfl) (fun w' hw => ⟨rfl, hw⟩)

set_option maxRecDepth 4000 in
set_option maxHeartbeats 1000000 in
theorem impl_Metric_isTable_1_ok (w : World) (vrow : Value) (row : List Int) (hrow : RI w vrow row) (gn : Nat) (n : Int) (hn : CellAt w gn (.int .i64 n))  :
    Calls Try.prog 160 ([vrow, (.pointer (some ⟨gn, 0, none⟩))] : List Value).toArray w (Ret (.bool (F_impl_Metric_isTable_1 row n)) (Hp w [])) := by
  obtain ⟨rz, hF⟩ : ∃ rz, (F_impl_Metric_isTable_1 row n) = rz := ⟨_, rfl⟩
  rw [hF]
  unfold F_impl_Metric_isTable_1 at hF
  have hlen_row := arg_len hrow
  refine calls_tc Try.func160 rfl rfl rfl ?_
  change TC _ _ _ _ (Hp w []) [(0, vrow), (1, (.pointer (some ⟨gn, 0, none⟩)))]
  refine TC.seq ?_
  refine TC.region ?_
  refine TL.op (yq (y_assign ev_c)) rfl rfl rfl ?_
  refine TL.nil ?_
  refine TN.seq ?_
  refine TC.seq ?_
  refine TC.region ?_
  refine TL.op (yq (y_move (ev_t rfl))) rfl rfl rfl ?_
  refine TL.op (yq (y_len (ev_t rfl) Try.underlying34 (fun w hw => ((ri_arg hrow) w hw).ln))) rfl rfl rfl ?_
  refine TL.op (yq (y_ldc (ev_t rfl) one_3 hn)) rfl rfl rfl ?_
  refine TL.op (yq (y_neq (ev_t rfl) (ev_t rfl))) rfl rfl rfl ?_
  refine TL.op (yq (y_assign (ev_t rfl))) rfl rfl rfl ?_
  refine TL.nil ?_
  refine TN.seq ?_
  refine TC.ret ?_
  subst hF
  exact TN.ret1 rfl (ev_t rfl) (fun w' hw => ⟨rfl, hw⟩)

set_option maxRecDepth 4000 in
set_option maxHeartbeats 1000000 in
theorem impl_Metric_isTable_ok (w : World) (vm : Value) (um : List Value) (m : List (List Int)) (hm : RII w vm um m) (opn : Bool)  :
    Calls Try.prog 129 ([(.agg #[vm]), (.bool opn)] : List Value).toArray w (Ret (.bool (F_impl_Metric_isTable m opn)) (Hp w [])) := by
  obtain ⟨rz, hF⟩ : ∃ rz, (F_impl_Metric_isTable m opn) = rz := ⟨_, rfl⟩
  rw [hF]
  unfold F_impl_Metric_isTable at hF
  have hlen_m := argT_len hm
  refine calls_tc Try.func129 rfl rfl rfl ?_
  change TC _ _ _ _ (Hp w []) [(0, (.agg #[vm])), (1, (.bool opn))]
  refine TC.seq ?_
  refine TC.region ?_
  refine TL.box (ev_t rfl) rfl (fun g0_0 => ?_)
  refine TL.op (yq (y_assign ev_c)) rfl rfl rfl ?_
  refine TL.nil ?_
  refine TN.seq ?_
  refine TC.seq ?_
  refine TC.region ?_
  refine TL.op (yq (y_fa (fa_55_0 g0_0) (ev_t rfl))) rfl rfl rfl ?_
  refine TL.op (yq (y_ldb 0 (ev_t rfl) one_49 rfl rfl)) rfl rfl rfl ?_
  refine TL.op (yq (y_len (ev_t rfl) Try.underlying49 (fun w hw => ((fun w hw => ((rii_arg hm) w hw).1) w hw).ln))) rfl rfl rfl ?_
  refine TL.alloc (u := (.int .i64 0)) (by kernel_rfl) rfl (fun g1_3 => ?_)
  refine TL.storeB 0 (ev_t rfl) (ev_t rfl) one_3 rfl (by first | decide | simp) (fun w hw => rfl) ?_
  refine TL.nil ?_
  refine TN.seq ?_
  refine TC.seq ?_
  refine TC.seq ?_
  refine TC.region ?_
  refine TL.op (yq (y_ldb 0 (ev_t rfl) one_3 rfl rfl)) rfl rfl rfl ?_
  refine TL.op (y_call (vs := [(.int .i64 (m.length : Int)), (.int .i64 1), (.int .i64 6)]) (v := (.bool ((decide (1 ≤ (m.length : Int))) && (decide ((m.length : Int) ≤ 6))))) en_78 ⟨(ev_t rfl), ev_c, ev_c, trivial⟩ (fun w hw => impl_within_ok w (m.length : Int) 1 6)) rfl rfl rfl ?_
  refine TL.op (yq (y_not (ev_t rfl))) rfl rfl rfl ?_
  refine TL.op (yq (y_move (ev_t rfl))) rfl rfl rfl ?_
  refine TL.opw (w_f rfl rfl rfl) (fun hg => yq (y_fa (fa_55_0 g0_0) (ev_t rfl))) rfl rfl ?_
  refine TL.opw (w_f rfl rfl rfl) (fun hg => yq (y_ldb 1 (ev_g rfl hg) one_49 rfl rfl)) rfl rfl ?_
  refine TL.opw (w_f rfl rfl rfl) (fun hg => yq (y_mkf (us := [(.pointer (some ⟨g1_3, 0, none⟩))]) ⟨(ev_t rfl), trivial⟩)) rfl rfl ?_
  refine TL.opw (w_f rfl rfl rfl) (fun hg => y_call (vs := [vm, (.func (.func 160) #[] ([(.pointer (some ⟨g1_3, 0, none⟩))] : List Value).toArray)]) (v := (.bool (F_slices_ContainsFunc_SSint_Sint m (fun row => F_impl_Metric_isTable_1 row (m.length : Int))))) en_159 ⟨(ev_g rfl hg), (ev_g rfl hg), trivial⟩ (fun w hw => slices_ContainsFunc_SSint_Sint_ok w vm um m ((rii_arg hm) w hw) 160 [(.pointer (some ⟨g1_3, 0, none⟩))] (fun row => F_impl_Metric_isTable_1 row (m.length : Int)) en_160 (fun w2 hb vrow row hrow => impl_Metric_isTable_1_ok w2 vrow row hrow g1_3 (m.length : Int) (cell_blk 0 rfl rfl hw hb)))) rfl rfl ?_
  refine TL.op (yq (y_or (ev_t rfl) (fun hq => (ev_g rfl hq)))) rfl rfl rfl ?_
  refine TL.nil ?_
  refine TN.seq ?_
  refine TC.cond (b := ((!((decide (1 ≤ (m.length : Int))) && (decide ((m.length : Int) ≤ 6)))) || (F_slices_ContainsFunc_SSint_Sint m (fun row => F_impl_Metric_isTable_1 row (m.length : Int))))) (ev_t rfl) (fun h65 => ?_) (fun h65 => ?_)
  · rw [bif_pos h65] at hF
    have q66 := ((or_t h65).imp (fun h => ((and_f (not_t h)).imp (fun h => (of_decide_eq_false h)) (fun h => (of_decide_eq_false h)))) (fun h => h))
    refine TC.seq ?_
    refine TC.region ?_
    refine TL.op (yq (y_assign ev_c)) rfl rfl rfl ?_
    refine TL.nil ?_
    refine TN.seq ?_
    refine TC.ret ?_
    refine TN.thenR ?_
    subst hF
    exact TN.ret1 rfl (ev_t rfl) (fun w' hw => ⟨rfl, Hp.sublist hw (List.nil_sublist _)⟩)
  · rw [bif_neg h65] at hF
    have q66 := (and_imp (or_f h65) (fun h => (and_imp (and_t (not_f h)) (fun h => (of_decide_eq_true h)) (fun h => (of_decide_eq_true h)))) (fun h => h))
    refine TC.skip ?_
    refine TN.seq ?_
    refine TC.seq ?_
    refine TC.seq ?_
    refine TC.region ?_
    refine TL.op (yq (y_ldb 0 (ev_t rfl) one_3 rfl rfl)) rfl rfl rfl ?_
    refine TL.op (yq (y_move ev_c)) rfl rfl rfl ?_
    refine TL.nil ?_
    refine TN.seq ?_
    refine TC.block ?_
    have hrows := rows_of (m := m) (And.right (by assumption))
    obtain ⟨c67, hc68⟩ : ∃ c, F_impl_Metric_isTable_L1 m opn ((m.length - 0) + 1) 0 = c := ⟨_, rfl⟩
    rw [hc68] at hF
    refine TC.loop (ι := Nat × Nat) (fun (fu1, k22_1) => [(1, (.bool opn)), (2, (.pointer (some ⟨g0_0, 0, none⟩))), (21, (.int .i64 (m.length : Int))), (22, (.int .i64 (k22_1 : Int)))]) (fun (fu1, k22_1) => Hp w [.blk g0_0 55 [vm]]) (fun (fu1, k22_1) => (k22_1 ≤ m.length) ∧ m.length - k22_1 < fu1 ∧ F_impl_Metric_isTable_L1 m opn fu1 k22_1 = c67) (fun (fu1, k22_1) => fu1) ((m.length - 0) + 1, 0) ⟨(by first | omega | (simp [-List.getD_eq_getElem?_getD] <;> omega)), (by omega), hc68⟩ ⟨rfl, rfl, rfl, rfl, trivial⟩ (fun w hw => Hp.sublist hw (.cons _ (.cons_cons _ .slnil))) ?_
    rintro ⟨fu1, k22_1⟩ hJ1
    obtain ⟨hi1_0, hmu1, hL1⟩ : (k22_1 ≤ m.length) ∧ m.length - k22_1 < fu1 ∧ F_impl_Metric_isTable_L1 m opn fu1 k22_1 = c67 := hJ1
    change TC _ _ _ _ (Hp w [.blk g0_0 55 [vm]]) [(1, (.bool opn)), (2, (.pointer (some ⟨g0_0, 0, none⟩))), (21, (.int .i64 (m.length : Int))), (22, (.int .i64 (k22_1 : Int)))]
    obtain ⟨mf1, rfl⟩ : ∃ m, fu1 = m + 1 := ⟨fu1 - 1, by omega⟩
    rw [F_impl_Metric_isTable_L1_s] at hL1
    have hrw := hrows k22_1
    refine TC.seq ?_
    refine TC.region ?_
    refine TL.op (yq (y_lss (ev_t rfl) (ev_t rfl))) rfl rfl rfl ?_
    refine TL.nil ?_
    refine TN.seq ?_
    refine TC.seq ?_
    refine TC.cond (b := decide ((k22_1 : Int) < (m.length : Int))) (ev_t rfl) (fun h69 => ?_) (fun h69 => ?_)
    · rw [bif_pos h69] at hL1
      have q70 := (of_decide_eq_true h69)
      refine TC.skip ?_
      refine TN.seq ?_
      refine TC.seq ?_
      refine TC.block ?_
      refine TC.seq ?_
      refine TC.region ?_
      refine TL.op (yq (y_move (ev_t rfl))) rfl rfl rfl ?_
      refine TL.op (yq (y_assign (ev_t rfl))) rfl rfl rfl ?_
      refine TL.nil ?_
      refine TN.seq ?_
      refine TC.seq ?_
      refine TC.region ?_
      refine TL.op (yq (y_fa (fa_55_0 g0_0) (ev_t rfl))) rfl rfl rfl ?_
      refine TL.op (yq (y_ldb 0 (ev_t rfl) one_49 rfl rfl)) rfl rfl rfl ?_
      refine TL.op (yq (y_move (ev_t rfl))) rfl rfl rfl ?_
      have hb71 : k22_1 < m.length := (by first | omega | (simp only [List.length_set, List.length_append, List.length_cons, List.length_nil, List.length_replicate]; omega) | (rw [sortI_length]; simp only [List.length_cons, List.length_nil]; omega))
      refine TL.op (yq (y_idx (k := k22_1) (ev_t rfl) (ev_t rfl) (by first | omega | simp) slT_49 (fun w hw => ((rii_arg hm) w hw).1) hb71)) rfl rfl rfl ?_
      have ha72 := hm.row (i := k22_1) hb71
      refine TL.op (yq (y_ldA (ev_t rfl) one_34 (rii_arg hm) hb71)) rfl rfl rfl ?_
      refine TL.op (yq (y_len (ev_t rfl) Try.underlying34 (fun w hw => ((ri_arg ha72) w hw).ln))) rfl rfl rfl ?_
      refine TL.op (yq (y_move ev_c)) rfl rfl rfl ?_
      refine TL.nil ?_
      refine TN.seq ?_
      refine TC.block ?_
      obtain ⟨c73, hc74⟩ : ∃ c, F_impl_Metric_isTable_L2 m opn k22_1 ((((m.getD k22_1 []).length) - 0) + 1) 0 = c := ⟨_, rfl⟩
      rw [hc74] at hL1
      refine TC.loop (ι := Nat × Nat) (fun (fu2, k31_2) => [(1, (.bool opn)), (2, (.pointer (some ⟨g0_0, 0, none⟩))), (6, (.int .i64 (k22_1 : Int))), (21, (.int .i64 (m.length : Int))), (22, (.int .i64 (k22_1 : Int))), (29, (um.getD k22_1 undef)), (30, (.int .i64 ((m.getD k22_1 []).length : Int))), (31, (.int .i64 (k31_2 : Int)))]) (fun (fu2, k31_2) => Hp w [.blk g0_0 55 [vm]]) (fun (fu2, k31_2) => (k31_2 ≤ ((m.getD k22_1 []).length)) ∧ ((m.getD k22_1 []).length) - k31_2 < fu2 ∧ F_impl_Metric_isTable_L2 m opn k22_1 fu2 k31_2 = c73) (fun (fu2, k31_2) => fu2) ((((m.getD k22_1 []).length) - 0) + 1, 0) ⟨(by first | omega | (simp [-List.getD_eq_getElem?_getD] <;> omega)), (by omega), hc74⟩ ⟨rfl, rfl, rfl, rfl, rfl, rfl, rfl, rfl, trivial⟩ (fun w hw => hw) ?_
      rintro ⟨fu2, k31_2⟩ hJ2
      obtain ⟨hi2_0, hmu2, hL2⟩ : (k31_2 ≤ ((m.getD k22_1 []).length)) ∧ ((m.getD k22_1 []).length) - k31_2 < fu2 ∧ F_impl_Metric_isTable_L2 m opn k22_1 fu2 k31_2 = c73 := hJ2
      change TC _ _ _ _ (Hp w [.blk g0_0 55 [vm]]) [(1, (.bool opn)), (2, (.pointer (some ⟨g0_0, 0, none⟩))), (6, (.int .i64 (k22_1 : Int))), (21, (.int .i64 (m.length : Int))), (22, (.int .i64 (k22_1 : Int))), (29, (um.getD k22_1 undef)), (30, (.int .i64 ((m.getD k22_1 []).length : Int))), (31, (.int .i64 (k31_2 : Int)))]
      obtain ⟨mf2, rfl⟩ : ∃ m, fu2 = m + 1 := ⟨fu2 - 1, by omega⟩
      rw [F_impl_Metric_isTable_L2_s] at hL2
      have hrw2 := hrows k31_2
      refine TC.seq ?_
      refine TC.region ?_
      refine TL.op (yq (y_lss (ev_t rfl) (ev_t rfl))) rfl rfl rfl ?_
      refine TL.nil ?_
      refine TN.seq ?_
      refine TC.seq ?_
      refine TC.cond (b := decide ((k31_2 : Int) < ((m.getD k22_1 []).length : Int))) (ev_t rfl) (fun h75 => ?_) (fun h75 => ?_)
      · rw [bif_pos h75] at hL2
        have q76 := (of_decide_eq_true h75)
        refine TC.skip ?_
        refine TN.seq ?_
        refine TC.seq ?_
        refine TC.block ?_
        refine TC.seq ?_
        refine TC.region ?_
        refine TL.op (yq (y_move (ev_t rfl))) rfl rfl rfl ?_
        have hb77 : k31_2 < (m.getD k22_1 []).length := (by first | omega | (simp only [List.length_set, List.length_append, List.length_cons, List.length_nil, List.length_replicate]; omega) | (rw [sortI_length]; simp only [List.length_cons, List.length_nil]; omega))
        refine TL.op (yq (y_idx (k := k31_2) (ev_t rfl) (ev_t rfl) (by first | omega | simp) slT_34 (ri_arg ha72) hb77)) rfl rfl rfl ?_
        refine TL.op (yq (y_ldi (ev_t rfl) one_3 (ri_arg ha72) hb77)) rfl rfl rfl ?_
        refine TL.op (yq (y_assign (ev_t rfl))) rfl rfl rfl ?_
        refine TL.op (yq (y_assign (ev_t rfl))) rfl rfl rfl ?_
        refine TL.nil ?_
        refine TN.seq ?_
        refine TC.block ?_
        refine TC.seq ?_
        refine TC.seq ?_
        refine TC.region ?_
        refine TL.op (yq (y_move (ev_t rfl))) rfl rfl rfl ?_
        refine TL.op (yq (y_move (ev_t rfl))) rfl rfl rfl ?_
        refine TL.op (yq (y_eql (ev_t rfl) (ev_t rfl))) rfl rfl rfl ?_
        refine TL.op (yq (y_move (ev_t rfl))) rfl rfl rfl ?_
        refine TL.opw (w_t rfl rfl rfl) (fun hg => yq (y_move (ev_t rfl))) rfl rfl ?_
        refine TL.opw (w_t rfl rfl rfl) (fun hg => yq (y_neq (ev_g rfl hg) ev_c)) rfl rfl ?_
        refine TL.op (yq (y_and (ev_t rfl) (fun hq => (ev_g rfl hq)))) rfl rfl rfl ?_
        refine TL.op (yq (y_assign (ev_t rfl))) rfl rfl rfl ?_
        refine TL.nil ?_
        refine TN.seq ?_
        refine TC.cond (b := ((decide ((k22_1 : Int) = (k31_2 : Int))) && (!decide (((m.getD k22_1 []).getD k31_2 0) = 0)))) (ev_t rfl) (fun h78 => ?_) (fun h78 => ?_)
        · rw [bif_pos h78] at hL2
          have q79 := (and_imp (and_t h78) (fun h => (of_decide_eq_true h)) (fun h => (of_decide_eq_false (not_t h))))
          refine TC.skip ?_
          refine TN.seq ?_
          refine TC.condT (ev_t rfl) h78 ?_
          refine TC.seq ?_
          refine TC.region ?_
          refine TL.op (yq (y_assign ev_c)) rfl rfl rfl ?_
          refine TL.nil ?_
          refine TN.seq ?_
          refine TC.ret ?_
          refine TN.blockR ?_
          refine TN.blockR ?_
          refine TN.thenR ?_
          refine TN.thenR ?_
          rw [← hL2, elim_ret] at hL1
          refine TN.blockR ?_
          refine TN.blockR ?_
          refine TN.thenR ?_
          refine TN.thenR ?_
          rw [← hL1, elim_ret] at hF
          refine TN.blockR ?_
          refine TN.thenR ?_
          subst hF
          exact TN.ret1 rfl (ev_t rfl) (fun w' hw => ⟨rfl, Hp.sublist hw (List.nil_sublist _)⟩)
        · rw [bif_neg h78] at hL2
          have q79 := ((and_f h78).imp (fun h => (of_decide_eq_false h)) (fun h => (of_decide_eq_true (not_f h))))
          refine TC.seq ?_
          refine TC.region ?_
          refine TL.op (yq (y_move (ev_t rfl))) rfl rfl rfl ?_
          refine TL.op (yq (y_fa (fa_55_0 g0_0) (ev_t rfl))) rfl rfl rfl ?_
          refine TL.op (yq (y_ldb 0 (ev_t rfl) one_49 rfl rfl)) rfl rfl rfl ?_
          refine TL.op (yq (y_move (ev_t rfl))) rfl rfl rfl ?_
          have hb82 : k31_2 < m.length := (by first | omega | (simp only [List.length_set, List.length_append, List.length_cons, List.length_nil, List.length_replicate]; omega) | (rw [sortI_length]; simp only [List.length_cons, List.length_nil]; omega))
          refine TL.op (yq (y_idx (k := k31_2) (ev_t rfl) (ev_t rfl) (by first | omega | simp) slT_49 (fun w hw => ((rii_arg hm) w hw).1) hb82)) rfl rfl rfl ?_
          have ha83 := hm.row (i := k31_2) hb82
          refine TL.op (yq (y_ldA (ev_t rfl) one_34 (rii_arg hm) hb82)) rfl rfl rfl ?_
          refine TL.op (yq (y_move (ev_t rfl))) rfl rfl rfl ?_
          have hb84 : k22_1 < (m.getD k31_2 []).length := (by first | omega | (simp only [List.length_set, List.length_append, List.length_cons, List.length_nil, List.length_replicate]; omega) | (rw [sortI_length]; simp only [List.length_cons, List.length_nil]; omega))
          refine TL.op (yq (y_idx (k := k22_1) (ev_t rfl) (ev_t rfl) (by first | omega | simp) slT_34 (ri_arg ha83) hb84)) rfl rfl rfl ?_
          refine TL.op (yq (y_ldi (ev_t rfl) one_3 (ri_arg ha83) hb84)) rfl rfl rfl ?_
          refine TL.op (yq (y_neq (ev_t rfl) (ev_t rfl))) rfl rfl rfl ?_
          refine TL.op (yq (y_assign (ev_t rfl))) rfl rfl rfl ?_
          refine TL.nil ?_
          refine TN.seq ?_
          refine TC.cond (b := !decide (((m.getD k22_1 []).getD k31_2 0) = ((m.getD k31_2 []).getD k22_1 0))) (ev_t rfl) (fun h85 => ?_) (fun h85 => ?_)
          · rw [bif_pos h85] at hL2
            have q86 := (of_decide_eq_false (not_t h85))
            refine TC.skip ?_
            refine TN.seq ?_
            refine TC.condT (ev_t rfl) h85 ?_
            refine TC.seq ?_
            refine TC.region ?_
            refine TL.op (yq (y_assign ev_c)) rfl rfl rfl ?_
            refine TL.nil ?_
            refine TN.seq ?_
            refine TC.ret ?_
            refine TN.blockR ?_
            refine TN.blockR ?_
            refine TN.thenR ?_
            refine TN.thenR ?_
            rw [← hL2, elim_ret] at hL1
            refine TN.blockR ?_
            refine TN.blockR ?_
            refine TN.thenR ?_
            refine TN.thenR ?_
            rw [← hL1, elim_ret] at hF
            refine TN.blockR ?_
            refine TN.thenR ?_
            subst hF
            exact TN.ret1 rfl (ev_t rfl) (fun w' hw => ⟨rfl, Hp.sublist hw (List.nil_sublist _)⟩)
          · rw [bif_neg h85] at hL2
            have q86 := (of_decide_eq_true (not_f h85))
            refine TC.region ?_
            refine TL.op (yq (y_move (ev_t rfl))) rfl rfl rfl ?_
            refine TL.op (yq (y_gtr (ev_t rfl) ev_c)) rfl rfl rfl ?_
            refine TL.op (yq (y_assign (ev_t rfl))) rfl rfl rfl ?_
            refine TL.nil ?_
            refine TN.seq ?_
            refine TC.cond (b := decide (99 < ((m.getD k22_1 []).getD k31_2 0))) (ev_t rfl) (fun h89 => ?_) (fun h89 => ?_)
            · rw [bif_pos h89] at hL2
              have q90 := (of_decide_eq_true h89)
              refine TC.seq ?_
              refine TC.region ?_
              refine TL.op (yq (y_assign ev_c)) rfl rfl rfl ?_
              refine TL.nil ?_
              refine TN.seq ?_
              refine TC.ret ?_
              refine TN.blockR ?_
              refine TN.blockR ?_
              refine TN.thenR ?_
              refine TN.thenR ?_
              rw [← hL2, elim_ret] at hL1
              refine TN.blockR ?_
              refine TN.blockR ?_
              refine TN.thenR ?_
              refine TN.thenR ?_
              rw [← hL1, elim_ret] at hF
              refine TN.blockR ?_
              refine TN.thenR ?_
              subst hF
              exact TN.ret1 rfl (ev_t rfl) (fun w' hw => ⟨rfl, Hp.sublist hw (List.nil_sublist _)⟩)
            · rw [bif_neg h89] at hL2
              have q90 := (of_decide_eq_false h89)
              refine TC.seq ?_
              refine TC.region ?_
              refine TL.op (yq (y_move (ev_t rfl))) rfl rfl rfl ?_
              refine TL.op (yq (y_move (ev_t rfl))) rfl rfl rfl ?_
              refine TL.op (yq (y_neq (ev_t rfl) (ev_t rfl))) rfl rfl rfl ?_
              refine TL.op (yq (y_move (ev_t rfl))) rfl rfl rfl ?_
              refine TL.opw (w_t rfl rfl rfl) (fun hg => yq (y_move (ev_t rfl))) rfl rfl ?_
              refine TL.opw (w_t rfl rfl rfl) (fun hg => yq (y_lss (ev_g rfl hg) ev_c)) rfl rfl ?_
              refine TL.op (yq (y_and (ev_t rfl) (fun hq => (ev_g rfl hq)))) rfl rfl rfl ?_
              refine TL.op (yq (y_move (ev_t rfl))) rfl rfl rfl ?_
              refine TL.opw (w_t rfl rfl rfl) (fun hg => yq (y_move (ev_t rfl))) rfl rfl ?_
              refine TL.opw (w_t rfl rfl rfl) (fun hg => yq (y_move (ev_g rfl hg))) rfl rfl ?_
              refine TL.opw (w_gt rfl rfl rfl) (fun hg => yq (y_move (ev_t rfl))) rfl rfl ?_
              refine TL.opw (w_gt rfl rfl rfl) (fun hg => yq (y_eql (ev_g rfl hg) ev_c)) rfl rfl ?_
              refine TL.opw (w_t rfl rfl rfl) (fun hg => yq (y_and (ev_g rfl hg) (fun hq => (ev_g rfl (gand hg hq))))) rfl rfl ?_
              refine TL.opw (w_t rfl rfl rfl) (fun hg => yq (y_not (ev_g rfl hg))) rfl rfl ?_
              refine TL.op (yq (y_and (ev_t rfl) (fun hq => (ev_g rfl hq)))) rfl rfl rfl ?_
              refine TL.op (yq (y_assign (ev_t rfl))) rfl rfl rfl ?_
              refine TL.nil ?_
              refine TN.seq ?_
              refine TC.cond (b := (((!decide ((k22_1 : Int) = (k31_2 : Int))) && (decide (((m.getD k22_1 []).getD k31_2 0) < 1))) && (!(opn && (decide (((m.getD k22_1 []).getD k31_2 0) = -1)))))) (ev_t rfl) (fun h91 => ?_) (fun h91 => ?_)
              · rw [bif_pos h91] at hL2
                have q92 := (and_imp (and_t h91) (fun h => (and_imp (and_t h) (fun h => (of_decide_eq_false (not_t h))) (fun h => (of_decide_eq_true h)))) (fun h => ((and_f (not_t h)).imp (fun h => h) (fun h => (of_decide_eq_false h)))))
                refine TC.seq ?_
                refine TC.region ?_
                refine TL.op (yq (y_assign ev_c)) rfl rfl rfl ?_
                refine TL.nil ?_
                refine TN.seq ?_
                refine TC.ret ?_
                refine TN.blockR ?_
                refine TN.blockR ?_
                refine TN.thenR ?_
                refine TN.thenR ?_
                rw [← hL2, elim_ret] at hL1
                refine TN.blockR ?_
                refine TN.blockR ?_
                refine TN.thenR ?_
                refine TN.thenR ?_
                rw [← hL1, elim_ret] at hF
                refine TN.blockR ?_
                refine TN.thenR ?_
                subst hF
                exact TN.ret1 rfl (ev_t rfl) (fun w' hw => ⟨rfl, Hp.sublist hw (List.nil_sublist _)⟩)
              · rw [bif_neg h91] at hL2
                have q92 := ((and_f h91).imp (fun h => ((and_f h).imp (fun h => (of_decide_eq_true (not_f h))) (fun h => (of_decide_eq_false h)))) (fun h => (and_imp (and_t (not_f h)) (fun h => h) (fun h => (of_decide_eq_true h)))))
                refine TC.skip ?_
                refine TN.blockN ?_
                refine TN.blockN ?_
                refine TN.seq ?_
                refine TC.region ?_
                refine TL.op (yq (y_add (ev_t rfl) ev_c (by unfold In64; constructor <;> omega))) rfl rfl rfl ?_
                refine TL.op (yq (y_move (ev_t rfl))) rfl rfl rfl ?_
                refine TL.nil ?_
                exact TN.hand (mf2, (k31_2 + 1)) ⟨(by first | omega | (simp [-List.getD_eq_getElem?_getD] <;> omega)), (by omega), hL2⟩ (Nat.lt_succ_self _) ⟨rfl, rfl, rfl, rfl, rfl, rfl, rfl, rfl, trivial⟩ (fun w hw => hw)
      · rw [bif_neg h75] at hL2
        have q76 := (of_decide_eq_false h75)
        refine TC.exit ?_
        refine TN.thenE ?_
        refine TN.thenE ?_
        rw [← hL2, elim_next] at hL1
        try dsimp only at hL1
        refine TN.blockH ?_
        refine TN.blockN ?_
        refine TN.seq ?_
        refine TC.region ?_
        refine TL.op (yq (y_add (ev_t rfl) ev_c (by unfold In64; constructor <;> omega))) rfl rfl rfl ?_
        refine TL.op (yq (y_move (ev_t rfl))) rfl rfl rfl ?_
        refine TL.nil ?_
        exact TN.hand (mf1, (k22_1 + 1)) ⟨(by first | omega | (simp [-List.getD_eq_getElem?_getD] <;> omega)), (by omega), hL1⟩ (Nat.lt_succ_self _) ⟨rfl, rfl, rfl, rfl, trivial⟩ (fun w hw => hw)
    · rw [bif_neg h69] at hL1
      have q70 := (of_decide_eq_false h69)
      refine TC.exit ?_
      refine TN.thenE ?_
      refine TN.thenE ?_
      rw [← hL1, elim_next] at hF
      try dsimp only at hF
      refine TN.blockH ?_
      refine TN.seq ?_
      refine TC.seq ?_
      refine TC.region ?_
      refine TL.op (yq (y_assign ev_c)) rfl rfl rfl ?_
      refine TL.nil ?_
      refine TN.seq ?_
      refine TC.ret ?_
      subst hF
      exact TN.ret1 rfl (ev_t rfl) (fun w' hw => ⟨rfl, Hp.sublist hw (List.nil_sublist _)⟩)

set_option maxRecDepth 4000 in
set_option maxHeartbeats 1000000 in
theorem impl_Metric_detour_ok (w : World) (vm : Value) (um : List Value) (m : List (List Int)) (hm : RII w vm um m) (hp0 : Tab m) :
    Calls Try.prog 130 ([(.agg #[vm])] : List Value).toArray w (fun e w' => ∃ i : Value, e = .returned (.tuple #[i, (.bool ((F_impl_Metric_detour m).2))]) ∧ Hp w [rowI 3 i ((F_impl_Metric_detour m).1)] w') := by
  obtain ⟨rz, hF⟩ : ∃ rz, (F_impl_Metric_detour m) = rz := ⟨_, rfl⟩
  rw [hF]
  unfold F_impl_Metric_detour at hF
  have hlen_m := argT_len hm
  refine calls_tc Try.func130 rfl rfl rfl ?_
  change TC _ _ _ _ (Hp w []) [(0, (.agg #[vm]))]
  refine TC.seq ?_
  refine TC.region ?_
  refine TL.box (ev_t rfl) rfl (fun g0_0 => ?_)
  refine TL.op (yq (y_assign ev_c)) rfl rfl rfl ?_
  refine TL.op (yq (y_assign ev_c)) rfl rfl rfl ?_
  refine TL.nil ?_
  refine TN.seq ?_
  refine TC.seq ?_
  refine TC.seq ?_
  refine TC.region ?_
  refine TL.op (yq (y_fa (fa_55_0 g0_0) (ev_t rfl))) rfl rfl rfl ?_
  refine TL.op (yq (y_ldb 0 (ev_t rfl) one_49 rfl rfl)) rfl rfl rfl ?_
  refine TL.op (yq (y_len (ev_t rfl) Try.underlying49 (fun w hw => ((fun w hw => ((rii_arg hm) w hw).1) w hw).ln))) rfl rfl rfl ?_
  refine TL.op (yq (y_move ev_c)) rfl rfl rfl ?_
  refine TL.nil ?_
  refine TN.seq ?_
  refine TC.block ?_
  obtain ⟨c50, hc51⟩ : ∃ c, F_impl_Metric_detour_L1 m ((m.length - 0) + 1) 0 = c := ⟨_, rfl⟩
  rw [hc51] at hF
  refine TC.loop (ι := Nat × Nat) (fun (fu1, k12_1) => [(1, (.pointer (some ⟨g0_0, 0, none⟩))), (10, vm), (11, (.int .i64 (m.length : Int))), (12, (.int .i64 (k12_1 : Int)))]) (fun (fu1, k12_1) => Hp w [.blk g0_0 55 [vm]]) (fun (fu1, k12_1) => (k12_1 ≤ m.length) ∧ m.length - k12_1 < fu1 ∧ F_impl_Metric_detour_L1 m fu1 k12_1 = c50) (fun (fu1, k12_1) => fu1) ((m.length - 0) + 1, 0) ⟨(by first | omega | (simp [-List.getD_eq_getElem?_getD] <;> omega)), (by omega), hc51⟩ ⟨rfl, rfl, rfl, rfl, trivial⟩ (fun w hw => hw) ?_
  rintro ⟨fu1, k12_1⟩ hJ1
  obtain ⟨hi1_0, hmu1, hL1⟩ : (k12_1 ≤ m.length) ∧ m.length - k12_1 < fu1 ∧ F_impl_Metric_detour_L1 m fu1 k12_1 = c50 := hJ1
  change TC _ _ _ _ (Hp w [.blk g0_0 55 [vm]]) [(1, (.pointer (some ⟨g0_0, 0, none⟩))), (10, vm), (11, (.int .i64 (m.length : Int))), (12, (.int .i64 (k12_1 : Int)))]
  obtain ⟨mf1, rfl⟩ : ∃ m, fu1 = m + 1 := ⟨fu1 - 1, by omega⟩
  rw [F_impl_Metric_detour_L1_s] at hL1
  have hrw := hp0.rows k12_1
  refine TC.seq ?_
  refine TC.region ?_
  refine TL.op (yq (y_lss (ev_t rfl) (ev_t rfl))) rfl rfl rfl ?_
  refine TL.nil ?_
  refine TN.seq ?_
  refine TC.seq ?_
  refine TC.cond (b := decide ((k12_1 : Int) < (m.length : Int))) (ev_t rfl) (fun h52 => ?_) (fun h52 => ?_)
  · rw [bif_pos h52] at hL1
    have q53 := (of_decide_eq_true h52)
    refine TC.skip ?_
    refine TN.seq ?_
    refine TC.seq ?_
    refine TC.block ?_
    refine TC.seq ?_
    refine TC.region ?_
    refine TL.op (yq (y_move (ev_t rfl))) rfl rfl rfl ?_
    have hb54 : k12_1 < m.length := (by first | omega | (simp only [List.length_set, List.length_append, List.length_cons, List.length_nil, List.length_replicate]; omega) | (rw [sortI_length]; simp only [List.length_cons, List.length_nil]; omega))
    refine TL.op (yq (y_idx (k := k12_1) (ev_t rfl) (ev_t rfl) (by first | omega | simp) slT_49 (fun w hw => ((rii_arg hm) w hw).1) hb54)) rfl rfl rfl ?_
    have ha55 := hm.row (i := k12_1) hb54
    refine TL.op (yq (y_ldA (ev_t rfl) one_34 (rii_arg hm) hb54)) rfl rfl rfl ?_
    refine TL.op (yq (y_assign (ev_t rfl))) rfl rfl rfl ?_
    refine TL.op (yq (y_assign (ev_t rfl))) rfl rfl rfl ?_
    refine TL.nil ?_
    refine TN.seq ?_
    refine TC.seq ?_
    refine TC.region ?_
    refine TL.op (yq (y_move (ev_t rfl))) rfl rfl rfl ?_
    refine TL.op (yq (y_len (ev_t rfl) Try.underlying34 (fun w hw => ((ri_arg ha55) w hw).ln))) rfl rfl rfl ?_
    refine TL.op (yq (y_move ev_c)) rfl rfl rfl ?_
    refine TL.nil ?_
    refine TN.seq ?_
    refine TC.block ?_
    obtain ⟨c56, hc57⟩ : ∃ c, F_impl_Metric_detour_L2 m k12_1 ((((m.getD k12_1 []).length) - 0) + 1) 0 = c := ⟨_, rfl⟩
    rw [hc57] at hL1
    refine TC.loop (ι := Nat × Nat) (fun (fu2, k19_2) => [(1, (.pointer (some ⟨g0_0, 0, none⟩))), (4, (.int .i64 (k12_1 : Int))), (5, (um.getD k12_1 undef)), (10, vm), (11, (.int .i64 (m.length : Int))), (12, (.int .i64 (k12_1 : Int))), (17, (um.getD k12_1 undef)), (18, (.int .i64 ((m.getD k12_1 []).length : Int))), (19, (.int .i64 (k19_2 : Int)))]) (fun (fu2, k19_2) => Hp w [.blk g0_0 55 [vm]]) (fun (fu2, k19_2) => (k19_2 ≤ ((m.getD k12_1 []).length)) ∧ ((m.getD k12_1 []).length) - k19_2 < fu2 ∧ F_impl_Metric_detour_L2 m k12_1 fu2 k19_2 = c56) (fun (fu2, k19_2) => fu2) ((((m.getD k12_1 []).length) - 0) + 1, 0) ⟨(by first | omega | (simp [-List.getD_eq_getElem?_getD] <;> omega)), (by omega), hc57⟩ ⟨rfl, rfl, rfl, rfl, rfl, rfl, rfl, rfl, rfl, trivial⟩ (fun w hw => hw) ?_
    rintro ⟨fu2, k19_2⟩ hJ2
    obtain ⟨hi2_0, hmu2, hL2⟩ : (k19_2 ≤ ((m.getD k12_1 []).length)) ∧ ((m.getD k12_1 []).length) - k19_2 < fu2 ∧ F_impl_Metric_detour_L2 m k12_1 fu2 k19_2 = c56 := hJ2
    change TC _ _ _ _ (Hp w [.blk g0_0 55 [vm]]) [(1, (.pointer (some ⟨g0_0, 0, none⟩))), (4, (.int .i64 (k12_1 : Int))), (5, (um.getD k12_1 undef)), (10, vm), (11, (.int .i64 (m.length : Int))), (12, (.int .i64 (k12_1 : Int))), (17, (um.getD k12_1 undef)), (18, (.int .i64 ((m.getD k12_1 []).length : Int))), (19, (.int .i64 (k19_2 : Int)))]
    obtain ⟨mf2, rfl⟩ : ∃ m, fu2 = m + 1 := ⟨fu2 - 1, by omega⟩
    rw [F_impl_Metric_detour_L2_s] at hL2
    have hrw2 := hp0.rows k19_2
    refine TC.seq ?_
    refine TC.region ?_
    refine TL.op (yq (y_lss (ev_t rfl) (ev_t rfl))) rfl rfl rfl ?_
    refine TL.nil ?_
    refine TN.seq ?_
    refine TC.seq ?_
    refine TC.cond (b := decide ((k19_2 : Int) < ((m.getD k12_1 []).length : Int))) (ev_t rfl) (fun h58 => ?_) (fun h58 => ?_)
    · rw [bif_pos h58] at hL2
      have q59 := (of_decide_eq_true h58)
      refine TC.skip ?_
      refine TN.seq ?_
      refine TC.seq ?_
      refine TC.block ?_
      refine TC.seq ?_
      refine TC.region ?_
      refine TL.op (yq (y_move (ev_t rfl))) rfl rfl rfl ?_
      have hb60 : k19_2 < (m.getD k12_1 []).length := (by first | omega | (simp only [List.length_set, List.length_append, List.length_cons, List.length_nil, List.length_replicate]; omega) | (rw [sortI_length]; simp only [List.length_cons, List.length_nil]; omega))
      refine TL.op (yq (y_idx (k := k19_2) (ev_t rfl) (ev_t rfl) (by first | omega | simp) slT_34 (ri_arg ha55) hb60)) rfl rfl rfl ?_
      refine TL.op (yq (y_ldi (ev_t rfl) one_3 (ri_arg ha55) hb60)) rfl rfl rfl ?_
      refine TL.op (yq (y_assign (ev_t rfl))) rfl rfl rfl ?_
      refine TL.op (yq (y_assign (ev_t rfl))) rfl rfl rfl ?_
      refine TL.nil ?_
      refine TN.seq ?_
      refine TC.seq ?_
      refine TC.region ?_
      refine TL.op (yq (y_fa (fa_55_0 g0_0) (ev_t rfl))) rfl rfl rfl ?_
      refine TL.op (yq (y_ldb 0 (ev_t rfl) one_49 rfl rfl)) rfl rfl rfl ?_
      refine TL.op (yq (y_len (ev_t rfl) Try.underlying49 (fun w hw => ((fun w hw => ((rii_arg hm) w hw).1) w hw).ln))) rfl rfl rfl ?_
      refine TL.op (yq (y_move ev_c)) rfl rfl rfl ?_
      refine TL.nil ?_
      refine TN.seq ?_
      refine TC.block ?_
      obtain ⟨c61, hc62⟩ : ∃ c, F_impl_Metric_detour_L3 m k12_1 k19_2 ((m.length - 0) + 1) 0 = c := ⟨_, rfl⟩
      rw [hc62] at hL2
      refine TC.loop (ι := Nat × Nat) (fun (fu3, k27_3) => [(1, (.pointer (some ⟨g0_0, 0, none⟩))), (4, (.int .i64 (k12_1 : Int))), (5, (um.getD k12_1 undef)), (6, (.int .i64 (k19_2 : Int))), (7, (.int .i64 ((m.getD k12_1 []).getD k19_2 0))), (10, vm), (11, (.int .i64 (m.length : Int))), (12, (.int .i64 (k12_1 : Int))), (17, (um.getD k12_1 undef)), (18, (.int .i64 ((m.getD k12_1 []).length : Int))), (19, (.int .i64 (k19_2 : Int))), (26, (.int .i64 (m.length : Int))), (27, (.int .i64 (k27_3 : Int)))]) (fun (fu3, k27_3) => Hp w [.blk g0_0 55 [vm]]) (fun (fu3, k27_3) => (k27_3 ≤ m.length) ∧ m.length - k27_3 < fu3 ∧ F_impl_Metric_detour_L3 m k12_1 k19_2 fu3 k27_3 = c61) (fun (fu3, k27_3) => fu3) ((m.length - 0) + 1, 0) ⟨(by first | omega | (simp [-List.getD_eq_getElem?_getD] <;> omega)), (by omega), hc62⟩ ⟨rfl, rfl, rfl, rfl, rfl, rfl, rfl, rfl, rfl, rfl, rfl, rfl, rfl, trivial⟩ (fun w hw => hw) ?_
      rintro ⟨fu3, k27_3⟩ hJ3
      obtain ⟨hi3_0, hmu3, hL3⟩ : (k27_3 ≤ m.length) ∧ m.length - k27_3 < fu3 ∧ F_impl_Metric_detour_L3 m k12_1 k19_2 fu3 k27_3 = c61 := hJ3
      change TC _ _ _ _ (Hp w [.blk g0_0 55 [vm]]) [(1, (.pointer (some ⟨g0_0, 0, none⟩))), (4, (.int .i64 (k12_1 : Int))), (5, (um.getD k12_1 undef)), (6, (.int .i64 (k19_2 : Int))), (7, (.int .i64 ((m.getD k12_1 []).getD k19_2 0))), (10, vm), (11, (.int .i64 (m.length : Int))), (12, (.int .i64 (k12_1 : Int))), (17, (um.getD k12_1 undef)), (18, (.int .i64 ((m.getD k12_1 []).length : Int))), (19, (.int .i64 (k19_2 : Int))), (26, (.int .i64 (m.length : Int))), (27, (.int .i64 (k27_3 : Int)))]
      obtain ⟨mf3, rfl⟩ : ∃ m, fu3 = m + 1 := ⟨fu3 - 1, by omega⟩
      rw [F_impl_Metric_detour_L3_s] at hL3
      have he1 := hp0.el k12_1 k19_2
      have he2 := hp0.el k19_2 k27_3
      refine TC.seq ?_
      refine TC.region ?_
      refine TL.op (yq (y_lss (ev_t rfl) (ev_t rfl))) rfl rfl rfl ?_
      refine TL.nil ?_
      refine TN.seq ?_
      refine TC.seq ?_
      refine TC.cond (b := decide ((k27_3 : Int) < (m.length : Int))) (ev_t rfl) (fun h63 => ?_) (fun h63 => ?_)
      · rw [bif_pos h63] at hL3
        have q64 := (of_decide_eq_true h63)
        refine TC.skip ?_
        refine TN.seq ?_
        refine TC.seq ?_
        refine TC.block ?_
        refine TC.seq ?_
        refine TC.region ?_
        refine TL.op (yq (y_move (ev_t rfl))) rfl rfl rfl ?_
        refine TL.op (yq (y_assign (ev_t rfl))) rfl rfl rfl ?_
        refine TL.nil ?_
        refine TN.seq ?_
        refine TC.seq ?_
        refine TC.regionQ (by kernel_rfl) (by kernel_rfl) dr_hp ?_
        refine TQ.op (yq (y_move (ev_t rfl))) rfl rfl rfl ?_
        refine TQ.op (yq (y_move (ev_t rfl))) rfl rfl rfl ?_
        have hb65 : k27_3 < (m.getD k12_1 []).length := (by first | omega | (simp only [List.length_set, List.length_append, List.length_cons, List.length_nil, List.length_replicate]; omega) | (rw [sortI_length]; simp only [List.length_cons, List.length_nil]; omega))
        refine TQ.op (yq (y_idx (k := k27_3) (ev_t rfl) (ev_t rfl) (by first | omega | simp) slT_34 (ri_arg ha55) hb65)) rfl rfl rfl ?_
        refine TQ.op (yq (y_ldi (ev_t rfl) one_3 (ri_arg ha55) hb65)) rfl rfl rfl ?_
        refine TQ.op (yq (y_move (ev_t rfl))) rfl rfl rfl ?_
        refine TQ.op (yq (y_fa (fa_55_0 g0_0) (ev_t rfl))) rfl rfl rfl ?_
        refine TQ.op (yq (y_ldb 0 (ev_t rfl) one_49 rfl rfl)) rfl rfl rfl ?_
        refine TQ.op (yq (y_move (ev_t rfl))) rfl rfl rfl ?_
        have hb66 : k19_2 < m.length := (by first | omega | (simp only [List.length_set, List.length_append, List.length_cons, List.length_nil, List.length_replicate]; omega) | (rw [sortI_length]; simp only [List.length_cons, List.length_nil]; omega))
        refine TQ.op (yq (y_idx (k := k19_2) (ev_t rfl) (ev_t rfl) (by first | omega | simp) slT_49 (fun w hw => ((rii_arg hm) w hw).1) hb66)) rfl rfl rfl ?_
        have ha67 := hm.row (i := k19_2) hb66
        refine TQ.op (yq (y_ldA (ev_t rfl) one_34 (rii_arg hm) hb66)) rfl rfl rfl ?_
        refine TQ.op (yq (y_move (ev_t rfl))) rfl rfl rfl ?_
        have hb68 : k27_3 < (m.getD k19_2 []).length := (by first | omega | (simp only [List.length_set, List.length_append, List.length_cons, List.length_nil, List.length_replicate]; omega) | (rw [sortI_length]; simp only [List.length_cons, List.length_nil]; omega))
        refine TQ.op (yq (y_idx (k := k27_3) (ev_t rfl) (ev_t rfl) (by first | omega | simp) slT_34 (ri_arg ha67) hb68)) rfl rfl rfl ?_
        refine TQ.op (yq (y_ldi (ev_t rfl) one_3 (ri_arg ha67) hb68)) rfl rfl rfl ?_
        refine TQ.op (yq (y_add (ev_t rfl) (ev_t rfl) (by unfold In64; constructor <;> omega))) rfl rfl rfl ?_
        refine TQ.op (yq (y_gtr (ev_t rfl) (ev_t rfl))) rfl rfl rfl ?_
        refine TQ.nil ?_
        refine TN.seq ?_
        refine TC.cond (b := decide (((m.getD k12_1 []).getD k19_2 0) + ((m.getD k19_2 []).getD k27_3 0) < ((m.getD k12_1 []).getD k27_3 0))) (ev_t rfl) (fun h69 => ?_) (fun h69 => ?_)
        · rw [bif_pos h69] at hL3
          have q70 := (of_decide_eq_true h69)
          refine TC.seq ?_
          refine TC.region ?_
          refine TL.op (yq (y_move (ev_t rfl))) rfl rfl rfl ?_
          refine TL.op (yq (y_move (ev_t rfl))) rfl rfl rfl ?_
          refine TL.op (yq (y_move (ev_t rfl))) rfl rfl rfl ?_
          refine TL.buildI (zs := [.tmp 45, .tmp 46, .tmp 47]) (qs := [(k12_1 : Int), (k19_2 : Int), (k27_3 : Int)]) slT_34 rfl ⟨(ev_t rfl), (ev_t rfl), (ev_t rfl), trivial⟩ rfl (by decide) rfl (fun v11_3 => ?_)
          refine TL.op (yq (y_assign (ev_t rfl))) rfl rfl rfl ?_
          refine TL.op (yq (y_assign ev_c)) rfl rfl rfl ?_
          refine TL.nil ?_
          refine TN.seq ?_
          refine TC.ret ?_
          refine TN.blockR ?_
          refine TN.thenR ?_
          refine TN.thenR ?_
          rw [← hL3, elim_ret] at hL2
          refine TN.blockR ?_
          refine TN.blockR ?_
          refine TN.thenR ?_
          refine TN.thenR ?_
          rw [← hL2, elim_ret] at hL1
          refine TN.blockR ?_
          refine TN.blockR ?_
          refine TN.thenR ?_
          refine TN.thenR ?_
          rw [← hL1, elim_ret] at hF
          refine TN.blockR ?_
          refine TN.thenR ?_
          subst hF
          exact TN.ret2 rfl (ev_t rfl) (ev_t rfl) (fun w' hw => ⟨v11_3, rfl, Hp.sublist hw (.cons_cons _ (.cons _ .slnil))⟩)
        · rw [bif_neg h69] at hL3
          have q70 := (of_decide_eq_false h69)
          refine TC.skip ?_
          refine TN.blockN ?_
          refine TN.seq ?_
          refine TC.region ?_
          refine TL.op (yq (y_add (ev_t rfl) ev_c (by unfold In64; constructor <;> omega))) rfl rfl rfl ?_
          refine TL.op (yq (y_move (ev_t rfl))) rfl rfl rfl ?_
          refine TL.nil ?_
          exact TN.hand (mf3, (k27_3 + 1)) ⟨(by first | omega | (simp [-List.getD_eq_getElem?_getD] <;> omega)), (by omega), hL3⟩ (Nat.lt_succ_self _) ⟨rfl, rfl, rfl, rfl, rfl, rfl, rfl, rfl, rfl, rfl, rfl, rfl, rfl, trivial⟩ (fun w hw => hw)
      · rw [bif_neg h63] at hL3
        have q64 := (of_decide_eq_false h63)
        refine TC.exit ?_
        refine TN.thenE ?_
        refine TN.thenE ?_
        rw [← hL3, elim_next] at hL2
        try dsimp only at hL2
        refine TN.blockH ?_
        refine TN.blockN ?_
        refine TN.seq ?_
        refine TC.region ?_
        refine TL.op (yq (y_add (ev_t rfl) ev_c (by unfold In64; constructor <;> omega))) rfl rfl rfl ?_
        refine TL.op (yq (y_move (ev_t rfl))) rfl rfl rfl ?_
        refine TL.nil ?_
        exact TN.hand (mf2, (k19_2 + 1)) ⟨(by first | omega | (simp [-List.getD_eq_getElem?_getD] <;> omega)), (by omega), hL2⟩ (Nat.lt_succ_self _) ⟨rfl, rfl, rfl, rfl, rfl, rfl, rfl, rfl, rfl, trivial⟩ (fun w hw => hw)
    · rw [bif_neg h58] at hL2
      have q59 := (of_decide_eq_false h58)
      refine TC.exit ?_
      refine TN.thenE ?_
      refine TN.thenE ?_
      rw [← hL2, elim_next] at hL1
      try dsimp only at hL1
      refine TN.blockH ?_
      refine TN.blockN ?_
      refine TN.seq ?_
      refine TC.region ?_
      refine TL.op (yq (y_add (ev_t rfl) ev_c (by unfold In64; constructor <;> omega))) rfl rfl rfl ?_
      refine TL.op (yq (y_move (ev_t rfl))) rfl rfl rfl ?_
      refine TL.nil ?_
      exact TN.hand (mf1, (k12_1 + 1)) ⟨(by first | omega | (simp [-List.getD_eq_getElem?_getD] <;> omega)), (by omega), hL1⟩ (Nat.lt_succ_self _) ⟨rfl, rfl, rfl, rfl, trivial⟩ (fun w hw => hw)
  · rw [bif_neg h52] at hL1
    have q53 := (of_decide_eq_false h52)
    refine TC.exit ?_
    refine TN.thenE ?_
    refine TN.thenE ?_
    rw [← hL1, elim_next] at hF
    try dsimp only at hF
    refine TN.blockH ?_
    refine TN.seq ?_
    refine TC.seq ?_
    refine TC.region ?_
    refine TL.op (yq (y_assign ev_c)) rfl rfl rfl ?_
    refine TL.op (yq (y_assign ev_c)) rfl rfl rfl ?_
    refine TL.nil ?_
    refine TN.seq ?_
    refine TC.ret ?_
    subst hF
    refine TN.cls (fun w hw => hw.nil 3 1) ?_
    exact TN.ret2 rfl (ev_t rfl) (ev_t rfl) (fun w' hw => ⟨(.slice none 0 0), rfl, Hp.sublist hw (.cons_cons _ (.cons _ .slnil))⟩)

set_option maxRecDepth 4000 in
set_option maxHeartbeats 1000000 in
theorem impl_IsMetric_ok (w : World) (vm : Value) (um : List Value) (m : List (List Int)) (hm : RII w vm um m)  :
    Calls Try.prog 91 ([(.agg #[vm])] : List Value).toArray w (Ret (.bool (F_impl_IsMetric m)) (Hp w [])) := by
  obtain ⟨rz, hF⟩ : ∃ rz, (F_impl_IsMetric m) = rz := ⟨_, rfl⟩
  rw [hF]
  unfold F_impl_IsMetric at hF
  have hlen_m := argT_len hm
  refine calls_tc Try.func91 rfl rfl rfl ?_
  change TC _ _ _ _ (Hp w []) [(0, (.agg #[vm]))]
  refine TC.seq ?_
  refine TC.region ?_
  refine TL.box (ev_t rfl) rfl (fun g0_0 => ?_)
  refine TL.op (yq (y_assign ev_c)) rfl rfl rfl ?_
  refine TL.nil ?_
  refine TN.seq ?_
  refine TC.seq ?_
  refine TC.seq ?_
  refine TC.region ?_
  refine TL.op (yq (y_ldagg (cs := [vm]) 0 (ev_t rfl) agg_55 rfl)) rfl rfl rfl ?_
  refine TL.op (y_call (vs := [(.agg #[vm]), (.bool false)]) (v := (.bool (F_impl_Metric_isTable m false))) en_129 ⟨(ev_t rfl), ev_c, trivial⟩ (fun w hw => impl_Metric_isTable_ok w vm um m ((rii_arg hm) w hw) false)) rfl rfl rfl ?_
  refine TL.op (yq (y_not (ev_t rfl))) rfl rfl rfl ?_
  refine TL.nil ?_
  refine TN.seq ?_
  refine TC.cond (b := !(F_impl_Metric_isTable m false)) (ev_t rfl) (fun h3 => ?_) (fun h3 => ?_)
  · rw [bif_pos h3] at hF
    have q4 := (not_t h3)
    refine TC.seq ?_
    refine TC.region ?_
    refine TL.op (yq (y_assign ev_c)) rfl rfl rfl ?_
    refine TL.nil ?_
    refine TN.seq ?_
    refine TC.ret ?_
    refine TN.thenR ?_
    subst hF
    exact TN.ret1 rfl (ev_t rfl) (fun w' hw => ⟨rfl, Hp.sublist hw (List.nil_sublist _)⟩)
  · rw [bif_neg h3] at hF
    have q4 := (isTable_t (not_f h3))
    refine TC.skip ?_
    refine TN.seq ?_
    refine TC.seq ?_
    refine TC.region ?_
    refine TL.op (yq (y_ldagg (cs := [vm]) 0 (ev_t rfl) agg_55 rfl)) rfl rfl rfl ?_
    refine TL.callr (ι := Value) (vs := [(.agg #[vm])]) (fun i => (.tuple #[i, (.bool ((F_impl_Metric_detour m).2))])) (fun i => [rowI 3 i ((F_impl_Metric_detour m).1)]) en_130 ⟨(ev_t rfl), trivial⟩ rfl (fun w hw => impl_Metric_detour_ok w vm um m ((rii_arg hm) w hw) (by first | assumption | omega | grind)) (fun r3_1 => ?_)
    refine TL.op (yq (y_move (ev_t rfl))) rfl rfl rfl ?_
    refine TL.op (yq (y_extract (ev_t rfl) rfl)) rfl rfl rfl ?_
    refine TL.op (yq (y_extract (ev_t rfl) rfl)) rfl rfl rfl ?_
    refine TL.op (yq (y_assign (ev_t rfl))) rfl rfl rfl ?_
    refine TL.op (yq (y_assign (ev_t rfl))) rfl rfl rfl ?_
    refine TL.nil ?_
    refine TN.seq ?_
    refine TC.seq ?_
    refine TC.region ?_
    refine TL.op (yq (y_move (ev_t rfl))) rfl rfl rfl ?_
    refine TL.op (yq (y_not (ev_t rfl))) rfl rfl rfl ?_
    refine TL.op (yq (y_assign (ev_t rfl))) rfl rfl rfl ?_
    refine TL.nil ?_
    refine TN.seq ?_
    refine TC.ret ?_
    subst hF
    exact TN.ret1 rfl (ev_t rfl) (fun w' hw => ⟨rfl, Hp.sublist hw (List.nil_sublist _)⟩)

end Go.Proofs.Ytcmhgkcifejgcaa
namespace Go.Proofs.Ytcmhgkcifejgcaa
set_option linter.unusedVariables false
set_option linter.unusedSimpArgs false
open Go Go.RowKit
set_option linter.unusedVariables false

set_option maxRecDepth 4000 in
set_option maxHeartbeats 1000000 in
theorem spec_l6Table_ok (w : World) (vm : Value) (um : List Value) (m : List (List Int)) (hm : RII w vm um m) (opn : Bool)  :
    Calls Try.prog 126 ([(.agg #[vm]), (.bool opn)] : List Value).toArray w (Ret (.bool (F_spec_l6Table m opn)) (Hp w [])) := by
  obtain ⟨rz, hF⟩ : ∃ rz, (F_spec_l6Table m opn) = rz := ⟨_, rfl⟩
  rw [hF]
  unfold F_spec_l6Table at hF
  have hlen_m := argT_len hm
  refine calls_tc Try.func126 rfl rfl rfl ?_
  change TC _ _ _ _ (Hp w []) [(0, (.agg #[vm])), (1, (.bool opn))]
  refine TC.seq ?_
  refine TC.region ?_
  refine TL.box (ev_t rfl) rfl (fun g0_0 => ?_)
  refine TL.op (yq (y_assign ev_c)) rfl rfl rfl ?_
  refine TL.nil ?_
  refine TN.seq ?_
  refine TC.seq ?_
  refine TC.region ?_
  refine TL.op (yq (y_fa (fa_55_0 g0_0) (ev_t rfl))) rfl rfl rfl ?_
  refine TL.op (yq (y_ldb 0 (ev_t rfl) one_49 rfl rfl)) rfl rfl rfl ?_
  refine TL.op (yq (y_len (ev_t rfl) Try.underlying49 (fun w hw => ((fun w hw => ((rii_arg hm) w hw).1) w hw).ln))) rfl rfl rfl ?_
  refine TL.op (yq (y_assign (ev_t rfl))) rfl rfl rfl ?_
  refine TL.nil ?_
  refine TN.seq ?_
  refine TC.seq ?_
  refine TC.seq ?_
  refine TC.region ?_
  refine TL.op (yq (y_move (ev_t rfl))) rfl rfl rfl ?_
  refine TL.op (y_call (vs := [(.int .i64 (m.length : Int)), (.int .i64 1), (.int .i64 6)]) (v := (.bool ((decide (1 ≤ (m.length : Int))) && (decide ((m.length : Int) ≤ 6))))) en_81 ⟨(ev_t rfl), ev_c, ev_c, trivial⟩ (fun w hw => spec_l1In_ok w (m.length : Int) 1 6)) rfl rfl rfl ?_
  refine TL.op (yq (y_not (ev_t rfl))) rfl rfl rfl ?_
  refine TL.nil ?_
  refine TN.seq ?_
  refine TC.cond (b := !((decide (1 ≤ (m.length : Int))) && (decide ((m.length : Int) ≤ 6)))) (ev_t rfl) (fun h49 => ?_) (fun h49 => ?_)
  · rw [bif_pos h49] at hF
    have q50 := ((and_f (not_t h49)).imp (fun h => (of_decide_eq_false h)) (fun h => (of_decide_eq_false h)))
    refine TC.seq ?_
    refine TC.region ?_
    refine TL.op (yq (y_assign ev_c)) rfl rfl rfl ?_
    refine TL.nil ?_
    refine TN.seq ?_
    refine TC.ret ?_
    refine TN.thenR ?_
    subst hF
    exact TN.ret1 rfl (ev_t rfl) (fun w' hw => ⟨rfl, Hp.sublist hw (List.nil_sublist _)⟩)
  · rw [bif_neg h49] at hF
    have q50 := (and_imp (and_t (not_f h49)) (fun h => (of_decide_eq_true h)) (fun h => (of_decide_eq_true h)))
    refine TC.skip ?_
    refine TN.seq ?_
    refine TC.seq ?_
    refine TC.seq ?_
    refine TC.region ?_
    refine TL.op (yq (y_assign ev_c)) rfl rfl rfl ?_
    refine TL.nil ?_
    refine TN.seq ?_
    refine TC.block ?_
    obtain ⟨c51, hc52⟩ : ∃ c, F_spec_l6Table_L1 m ((m.length - 0) + 1) 0 = c := ⟨_, rfl⟩
    rw [hc52] at hF
    refine TC.loop (ι := Nat × Nat) (fun (fu1, k6_1) => [(1, (.bool opn)), (2, (.pointer (some ⟨g0_0, 0, none⟩))), (5, (.int .i64 (m.length : Int))), (6, (.int .i64 (k6_1 : Int)))]) (fun (fu1, k6_1) => Hp w [.blk g0_0 55 [vm]]) (fun (fu1, k6_1) => (k6_1 ≤ m.length) ∧ (∀ j, j < k6_1 → (m.getD j []).length = m.length) ∧ m.length - k6_1 < fu1 ∧ F_spec_l6Table_L1 m fu1 k6_1 = c51) (fun (fu1, k6_1) => fu1) ((m.length - 0) + 1, 0) ⟨(by first | omega | (simp [-List.getD_eq_getElem?_getD] <;> omega)), (fun j hj => by omega), (by omega), hc52⟩ ⟨rfl, rfl, rfl, rfl, trivial⟩ (fun w hw => hw) ?_
    rintro ⟨fu1, k6_1⟩ hJ1
    obtain ⟨hi1_0, hi1_1, hmu1, hL1⟩ : (k6_1 ≤ m.length) ∧ (∀ j, j < k6_1 → (m.getD j []).length = m.length) ∧ m.length - k6_1 < fu1 ∧ F_spec_l6Table_L1 m fu1 k6_1 = c51 := hJ1
    change TC _ _ _ _ (Hp w [.blk g0_0 55 [vm]]) [(1, (.bool opn)), (2, (.pointer (some ⟨g0_0, 0, none⟩))), (5, (.int .i64 (m.length : Int))), (6, (.int .i64 (k6_1 : Int)))]
    obtain ⟨mf1, rfl⟩ : ∃ m, fu1 = m + 1 := ⟨fu1 - 1, by omega⟩
    rw [F_spec_l6Table_L1_s] at hL1
    refine TC.seq ?_
    refine TC.seq ?_
    refine TC.region ?_
    refine TL.op (yq (y_move (ev_t rfl))) rfl rfl rfl ?_
    refine TL.op (yq (y_move (ev_t rfl))) rfl rfl rfl ?_
    refine TL.op (yq (y_lss (ev_t rfl) (ev_t rfl))) rfl rfl rfl ?_
    refine TL.nil ?_
    refine TN.seq ?_
    refine TC.cond (b := decide ((k6_1 : Int) < (m.length : Int))) (ev_t rfl) (fun h53 => ?_) (fun h53 => ?_)
    · rw [bif_pos h53] at hL1
      have q54 := (of_decide_eq_true h53)
      refine TC.skip ?_
      refine TN.seq ?_
      refine TC.seq ?_
      refine TC.block ?_
      refine TC.seq ?_
      refine TC.region ?_
      refine TL.op (yq (y_fa (fa_55_0 g0_0) (ev_t rfl))) rfl rfl rfl ?_
      refine TL.op (yq (y_ldb 0 (ev_t rfl) one_49 rfl rfl)) rfl rfl rfl ?_
      refine TL.op (yq (y_move (ev_t rfl))) rfl rfl rfl ?_
      have hb55 : k6_1 < m.length := (by first | omega | (simp only [List.length_set, List.length_append, List.length_cons, List.length_nil, List.length_replicate]; omega) | (rw [sortI_length]; simp only [List.length_cons, List.length_nil]; omega))
      refine TL.op (yq (y_idx (k := k6_1) (ev_t rfl) (ev_t rfl) (by first | omega | simp) slT_49 (fun w hw => ((rii_arg hm) w hw).1) hb55)) rfl rfl rfl ?_
      have ha56 := hm.row (i := k6_1) hb55
      refine TL.op (yq (y_ldA (ev_t rfl) one_34 (rii_arg hm) hb55)) rfl rfl rfl ?_
      refine TL.op (yq (y_len (ev_t rfl) Try.underlying34 (fun w hw => ((ri_arg ha56) w hw).ln))) rfl rfl rfl ?_
      refine TL.op (yq (y_move (ev_t rfl))) rfl rfl rfl ?_
      refine TL.op (yq (y_neq (ev_t rfl) (ev_t rfl))) rfl rfl rfl ?_
      refine TL.nil ?_
      refine TN.seq ?_
      refine TC.cond (b := !decide (((m.getD k6_1 []).length : Int) = (m.length : Int))) (ev_t rfl) (fun h57 => ?_) (fun h57 => ?_)
      · rw [bif_pos h57] at hL1
        have q58 := (of_decide_eq_false (not_t h57))
        refine TC.seq ?_
        refine TC.region ?_
        refine TL.op (yq (y_assign ev_c)) rfl rfl rfl ?_
        refine TL.nil ?_
        refine TN.seq ?_
        refine TC.ret ?_
        refine TN.blockR ?_
        refine TN.thenR ?_
        refine TN.thenR ?_
        rw [← hL1, elim_ret] at hF
        refine TN.blockR ?_
        refine TN.thenR ?_
        subst hF
        exact TN.ret1 rfl (ev_t rfl) (fun w' hw => ⟨rfl, Hp.sublist hw (List.nil_sublist _)⟩)
      · rw [bif_neg h57] at hL1
        have q58 := (of_decide_eq_true (not_f h57))
        refine TC.skip ?_
        refine TN.blockN ?_
        refine TN.seq ?_
        refine TC.region ?_
        refine TL.op (yq (y_move (ev_t rfl))) rfl rfl rfl ?_
        refine TL.op (yq (y_add (ev_t rfl) ev_c (by unfold In64; constructor <;> omega))) rfl rfl rfl ?_
        refine TL.op (yq (y_assign (ev_t rfl))) rfl rfl rfl ?_
        refine TL.nil ?_
        exact TN.hand (mf1, (k6_1 + 1)) ⟨(by first | omega | (simp [-List.getD_eq_getElem?_getD] <;> omega)), (upto_succ hi1_1 (by omega)), (by omega), hL1⟩ (Nat.lt_succ_self _) ⟨rfl, rfl, rfl, rfl, trivial⟩ (fun w hw => hw)
    · rw [bif_neg h53] at hL1
      have q54 := (of_decide_eq_false h53)
      refine TC.exit ?_
      refine TN.thenE ?_
      refine TN.thenE ?_
      rw [← hL1, elim_next] at hF
      try dsimp only at hF
      refine TN.blockH ?_
      refine TN.seq ?_
      refine TC.seq ?_
      refine TC.seq ?_
      refine TC.region ?_
      refine TL.op (yq (y_assign ev_c)) rfl rfl rfl ?_
      refine TL.nil ?_
      refine TN.seq ?_
      refine TC.block ?_
      obtain ⟨c59, hc60⟩ : ∃ c, F_spec_l6Table_L2 m opn ((m.length - 0) + 1) 0 = c := ⟨_, rfl⟩
      rw [hc60] at hF
      refine TC.loop (ι := Nat × Nat) (fun (fu2, k7_2) => [(1, (.bool opn)), (2, (.pointer (some ⟨g0_0, 0, none⟩))), (5, (.int .i64 (m.length : Int))), (7, (.int .i64 (k7_2 : Int)))]) (fun (fu2, k7_2) => Hp w [.blk g0_0 55 [vm]]) (fun (fu2, k7_2) => (k7_2 ≤ m.length) ∧ m.length - k7_2 < fu2 ∧ F_spec_l6Table_L2 m opn fu2 k7_2 = c59) (fun (fu2, k7_2) => fu2) ((m.length - 0) + 1, 0) ⟨(by first | omega | (simp [-List.getD_eq_getElem?_getD] <;> omega)), (by omega), hc60⟩ ⟨rfl, rfl, rfl, rfl, trivial⟩ (fun w hw => hw) ?_
      rintro ⟨fu2, k7_2⟩ hJ2
      obtain ⟨hi2_0, hmu2, hL2⟩ : (k7_2 ≤ m.length) ∧ m.length - k7_2 < fu2 ∧ F_spec_l6Table_L2 m opn fu2 k7_2 = c59 := hJ2
      change TC _ _ _ _ (Hp w [.blk g0_0 55 [vm]]) [(1, (.bool opn)), (2, (.pointer (some ⟨g0_0, 0, none⟩))), (5, (.int .i64 (m.length : Int))), (7, (.int .i64 (k7_2 : Int)))]
      obtain ⟨mf2, rfl⟩ : ∃ m, fu2 = m + 1 := ⟨fu2 - 1, by omega⟩
      rw [F_spec_l6Table_L2_s] at hL2
      have hrw := hi1_1 k7_2
      refine TC.seq ?_
      refine TC.seq ?_
      refine TC.region ?_
      refine TL.op (yq (y_move (ev_t rfl))) rfl rfl rfl ?_
      refine TL.op (yq (y_move (ev_t rfl))) rfl rfl rfl ?_
      refine TL.op (yq (y_lss (ev_t rfl) (ev_t rfl))) rfl rfl rfl ?_
      refine TL.nil ?_
      refine TN.seq ?_
      refine TC.cond (b := decide ((k7_2 : Int) < (m.length : Int))) (ev_t rfl) (fun h61 => ?_) (fun h61 => ?_)
      · rw [bif_pos h61] at hL2
        have q62 := (of_decide_eq_true h61)
        refine TC.skip ?_
        refine TN.seq ?_
        refine TC.seq ?_
        refine TC.block ?_
        refine TC.seq ?_
        refine TC.region ?_
        refine TL.op (yq (y_assign ev_c)) rfl rfl rfl ?_
        refine TL.nil ?_
        refine TN.seq ?_
        refine TC.block ?_
        obtain ⟨c63, hc64⟩ : ∃ c, F_spec_l6Table_L3 m opn k7_2 ((m.length - 0) + 1) 0 = c := ⟨_, rfl⟩
        rw [hc64] at hL2
        refine TC.loop (ι := Nat × Nat) (fun (fu3, k8_3) => [(1, (.bool opn)), (2, (.pointer (some ⟨g0_0, 0, none⟩))), (5, (.int .i64 (m.length : Int))), (7, (.int .i64 (k7_2 : Int))), (8, (.int .i64 (k8_3 : Int)))]) (fun (fu3, k8_3) => Hp w [.blk g0_0 55 [vm]]) (fun (fu3, k8_3) => (k8_3 ≤ m.length) ∧ m.length - k8_3 < fu3 ∧ F_spec_l6Table_L3 m opn k7_2 fu3 k8_3 = c63) (fun (fu3, k8_3) => fu3) ((m.length - 0) + 1, 0) ⟨(by first | omega | (simp [-List.getD_eq_getElem?_getD] <;> omega)), (by omega), hc64⟩ ⟨rfl, rfl, rfl, rfl, rfl, trivial⟩ (fun w hw => hw) ?_
        rintro ⟨fu3, k8_3⟩ hJ3
        obtain ⟨hi3_0, hmu3, hL3⟩ : (k8_3 ≤ m.length) ∧ m.length - k8_3 < fu3 ∧ F_spec_l6Table_L3 m opn k7_2 fu3 k8_3 = c63 := hJ3
        change TC _ _ _ _ (Hp w [.blk g0_0 55 [vm]]) [(1, (.bool opn)), (2, (.pointer (some ⟨g0_0, 0, none⟩))), (5, (.int .i64 (m.length : Int))), (7, (.int .i64 (k7_2 : Int))), (8, (.int .i64 (k8_3 : Int)))]
        obtain ⟨mf3, rfl⟩ : ∃ m, fu3 = m + 1 := ⟨fu3 - 1, by omega⟩
        rw [F_spec_l6Table_L3_s] at hL3
        have hrw2 := hi1_1 k8_3
        refine TC.seq ?_
        refine TC.seq ?_
        refine TC.region ?_
        refine TL.op (yq (y_move (ev_t rfl))) rfl rfl rfl ?_
        refine TL.op (yq (y_move (ev_t rfl))) rfl rfl rfl ?_
        refine TL.op (yq (y_lss (ev_t rfl) (ev_t rfl))) rfl rfl rfl ?_
        refine TL.nil ?_
        refine TN.seq ?_
        refine TC.cond (b := decide ((k8_3 : Int) < (m.length : Int))) (ev_t rfl) (fun h65 => ?_) (fun h65 => ?_)
        · rw [bif_pos h65] at hL3
          have q66 := (of_decide_eq_true h65)
          refine TC.skip ?_
          refine TN.seq ?_
          refine TC.seq ?_
          refine TC.block ?_
          refine TC.seq ?_
          refine TC.region ?_
          refine TL.op (yq (y_fa (fa_55_0 g0_0) (ev_t rfl))) rfl rfl rfl ?_
          refine TL.op (yq (y_ldb 0 (ev_t rfl) one_49 rfl rfl)) rfl rfl rfl ?_
          refine TL.op (yq (y_move (ev_t rfl))) rfl rfl rfl ?_
          have hb67 : k7_2 < m.length := (by first | omega | (simp only [List.length_set, List.length_append, List.length_cons, List.length_nil, List.length_replicate]; omega) | (rw [sortI_length]; simp only [List.length_cons, List.length_nil]; omega))
          refine TL.op (yq (y_idx (k := k7_2) (ev_t rfl) (ev_t rfl) (by first | omega | simp) slT_49 (fun w hw => ((rii_arg hm) w hw).1) hb67)) rfl rfl rfl ?_
          have ha68 := hm.row (i := k7_2) hb67
          refine TL.op (yq (y_ldA (ev_t rfl) one_34 (rii_arg hm) hb67)) rfl rfl rfl ?_
          refine TL.op (yq (y_move (ev_t rfl))) rfl rfl rfl ?_
          have hb69 : k8_3 < (m.getD k7_2 []).length := (by first | omega | (simp only [List.length_set, List.length_append, List.length_cons, List.length_nil, List.length_replicate]; omega) | (rw [sortI_length]; simp only [List.length_cons, List.length_nil]; omega))
          refine TL.op (yq (y_idx (k := k8_3) (ev_t rfl) (ev_t rfl) (by first | omega | simp) slT_34 (ri_arg ha68) hb69)) rfl rfl rfl ?_
          refine TL.op (yq (y_ldi (ev_t rfl) one_3 (ri_arg ha68) hb69)) rfl rfl rfl ?_
          refine TL.op (yq (y_assign (ev_t rfl))) rfl rfl rfl ?_
          refine TL.nil ?_
          refine TN.seq ?_
          refine TC.seq ?_
          refine TC.region ?_
          refine TL.op (yq (y_move (ev_t rfl))) rfl rfl rfl ?_
          refine TL.op (yq (y_fa (fa_55_0 g0_0) (ev_t rfl))) rfl rfl rfl ?_
          refine TL.op (yq (y_ldb 0 (ev_t rfl) one_49 rfl rfl)) rfl rfl rfl ?_
          refine TL.op (yq (y_move (ev_t rfl))) rfl rfl rfl ?_
          have hb70 : k8_3 < m.length := (by first | omega | (simp only [List.length_set, List.length_append, List.length_cons, List.length_nil, List.length_replicate]; omega) | (rw [sortI_length]; simp only [List.length_cons, List.length_nil]; omega))
          refine TL.op (yq (y_idx (k := k8_3) (ev_t rfl) (ev_t rfl) (by first | omega | simp) slT_49 (fun w hw => ((rii_arg hm) w hw).1) hb70)) rfl rfl rfl ?_
          have ha71 := hm.row (i := k8_3) hb70
          refine TL.op (yq (y_ldA (ev_t rfl) one_34 (rii_arg hm) hb70)) rfl rfl rfl ?_
          refine TL.op (yq (y_move (ev_t rfl))) rfl rfl rfl ?_
          have hb72 : k7_2 < (m.getD k8_3 []).length := (by first | omega | (simp only [List.length_set, List.length_append, List.length_cons, List.length_nil, List.length_replicate]; omega) | (rw [sortI_length]; simp only [List.length_cons, List.length_nil]; omega))
          refine TL.op (yq (y_idx (k := k7_2) (ev_t rfl) (ev_t rfl) (by first | omega | simp) slT_34 (ri_arg ha71) hb72)) rfl rfl rfl ?_
          refine TL.op (yq (y_ldi (ev_t rfl) one_3 (ri_arg ha71) hb72)) rfl rfl rfl ?_
          refine TL.op (yq (y_neq (ev_t rfl) (ev_t rfl))) rfl rfl rfl ?_
          refine TL.op (yq (y_move (ev_t rfl))) rfl rfl rfl ?_
          refine TL.opw (w_f rfl rfl rfl) (fun hg => yq (y_move (ev_t rfl))) rfl rfl ?_
          refine TL.opw (w_f rfl rfl rfl) (fun hg => yq (y_move (ev_t rfl))) rfl rfl ?_
          refine TL.opw (w_f rfl rfl rfl) (fun hg => yq (y_eql (ev_g rfl hg) (ev_g rfl hg))) rfl rfl ?_
          refine TL.opw (w_f rfl rfl rfl) (fun hg => yq (y_move (ev_g rfl hg))) rfl rfl ?_
          refine TL.opw (w_gt rfl rfl rfl) (fun hg => yq (y_move (ev_t rfl))) rfl rfl ?_
          refine TL.opw (w_gt rfl rfl rfl) (fun hg => yq (y_neq (ev_g rfl hg) ev_c)) rfl rfl ?_
          refine TL.opw (w_f rfl rfl rfl) (fun hg => yq (y_and (ev_g rfl hg) (fun hq => (ev_g rfl (gand hg hq))))) rfl rfl ?_
          refine TL.op (yq (y_or (ev_t rfl) (fun hq => (ev_g rfl hq)))) rfl rfl rfl ?_
          refine TL.op (yq (y_move (ev_t rfl))) rfl rfl rfl ?_
          refine TL.opw (w_f rfl rfl rfl) (fun hg => yq (y_move (ev_t rfl))) rfl rfl ?_
          refine TL.opw (w_f rfl rfl rfl) (fun hg => yq (y_move (ev_t rfl))) rfl rfl ?_
          refine TL.opw (w_f rfl rfl rfl) (fun hg => yq (y_neq (ev_g rfl hg) (ev_g rfl hg))) rfl rfl ?_
          refine TL.opw (w_f rfl rfl rfl) (fun hg => yq (y_move (ev_g rfl hg))) rfl rfl ?_
          refine TL.opw (w_gt rfl rfl rfl) (fun hg => yq (y_move (ev_t rfl))) rfl rfl ?_
          refine TL.opw (w_gt rfl rfl rfl) (fun hg => y_call (vs := [(.int .i64 ((m.getD k7_2 []).getD k8_3 0)), (.int .i64 1), (.int .i64 99)]) (v := (.bool ((decide (1 ≤ ((m.getD k7_2 []).getD k8_3 0))) && (decide (((m.getD k7_2 []).getD k8_3 0) ≤ 99))))) en_81 ⟨(ev_g rfl hg), ev_c, ev_c, trivial⟩ (fun w hw => spec_l1In_ok w ((m.getD k7_2 []).getD k8_3 0) 1 99)) rfl rfl ?_
          refine TL.opw (w_gt rfl rfl rfl) (fun hg => yq (y_not (ev_g rfl hg))) rfl rfl ?_
          refine TL.opw (w_f rfl rfl rfl) (fun hg => yq (y_and (ev_g rfl hg) (fun hq => (ev_g rfl (gand hg hq))))) rfl rfl ?_
          refine TL.opw (w_f rfl rfl rfl) (fun hg => yq (y_move (ev_g rfl hg))) rfl rfl ?_
          refine TL.opw (w_gt rfl rfl rfl) (fun hg => yq (y_move (ev_t rfl))) rfl rfl ?_
          refine TL.opw (w_gt rfl rfl rfl) (fun hg => yq (y_move (ev_g rfl hg))) rfl rfl ?_
          refine TL.opw (w_gt rfl rfl rfl) (fun hg => yq (y_move (ev_t rfl))) rfl rfl ?_
          refine TL.opw (w_gt rfl rfl rfl) (fun hg => yq (y_eql (ev_g rfl hg) ev_c)) rfl rfl ?_
          refine TL.opw (w_gt rfl rfl rfl) (fun hg => yq (y_and (ev_g rfl hg) (fun hq => (ev_g rfl (gand hg hq))))) rfl rfl ?_
          refine TL.opw (w_gt rfl rfl rfl) (fun hg => yq (y_not (ev_g rfl hg))) rfl rfl ?_
          refine TL.opw (w_f rfl rfl rfl) (fun hg => yq (y_and (ev_g rfl hg) (fun hq => (ev_g rfl (gand hg hq))))) rfl rfl ?_
          refine TL.op (yq (y_or (ev_t rfl) (fun hq => (ev_g rfl hq)))) rfl rfl rfl ?_
          refine TL.nil ?_
          refine TN.seq ?_
          refine TC.cond (b := (((!decide (((m.getD k7_2 []).getD k8_3 0) = ((m.getD k8_3 []).getD k7_2 0))) || ((decide ((k7_2 : Int) = (k8_3 : Int))) && (!decide (((m.getD k7_2 []).getD k8_3 0) = 0)))) || (((!decide ((k7_2 : Int) = (k8_3 : Int))) && (!((decide (1 ≤ ((m.getD k7_2 []).getD k8_3 0))) && (decide (((m.getD k7_2 []).getD k8_3 0) ≤ 99))))) && (!(opn && (decide (((m.getD k7_2 []).getD k8_3 0) = -1))))))) (ev_t rfl) (fun h73 => ?_) (fun h73 => ?_)
          · rw [bif_pos h73] at hL3
            have q74 := ((or_t h73).imp (fun h => ((or_t h).imp (fun h => (of_decide_eq_false (not_t h))) (fun h => (and_imp (and_t h) (fun h => (of_decide_eq_true h)) (fun h => (of_decide_eq_false (not_t h))))))) (fun h => (and_imp (and_t h) (fun h => (and_imp (and_t h) (fun h => (of_decide_eq_false (not_t h))) (fun h => ((and_f (not_t h)).imp (fun h => (of_decide_eq_false h)) (fun h => (of_decide_eq_false h)))))) (fun h => ((and_f (not_t h)).imp (fun h => h) (fun h => (of_decide_eq_false h)))))))
            refine TC.seq ?_
            refine TC.region ?_
            refine TL.op (yq (y_assign ev_c)) rfl rfl rfl ?_
            refine TL.nil ?_
            refine TN.seq ?_
            refine TC.ret ?_
            refine TN.blockR ?_
            refine TN.thenR ?_
            refine TN.thenR ?_
            rw [← hL3, elim_ret] at hL2
            refine TN.blockR ?_
            refine TN.blockR ?_
            refine TN.thenR ?_
            refine TN.thenR ?_
            rw [← hL2, elim_ret] at hF
            refine TN.blockR ?_
            refine TN.thenR ?_
            subst hF
            exact TN.ret1 rfl (ev_t rfl) (fun w' hw => ⟨rfl, Hp.sublist hw (List.nil_sublist _)⟩)
          · rw [bif_neg h73] at hL3
            have q74 := (and_imp (or_f h73) (fun h => (and_imp (or_f h) (fun h => (of_decide_eq_true (not_f h))) (fun h => ((and_f h).imp (fun h => (of_decide_eq_false h)) (fun h => (of_decide_eq_true (not_f h))))))) (fun h => ((and_f h).imp (fun h => ((and_f h).imp (fun h => (of_decide_eq_true (not_f h))) (fun h => (and_imp (and_t (not_f h)) (fun h => (of_decide_eq_true h)) (fun h => (of_decide_eq_true h)))))) (fun h => (and_imp (and_t (not_f h)) (fun h => h) (fun h => (of_decide_eq_true h)))))))
            refine TC.skip ?_
            refine TN.blockN ?_
            refine TN.seq ?_
            refine TC.region ?_
            refine TL.op (yq (y_move (ev_t rfl))) rfl rfl rfl ?_
            refine TL.op (yq (y_add (ev_t rfl) ev_c (by unfold In64; constructor <;> omega))) rfl rfl rfl ?_
            refine TL.op (yq (y_assign (ev_t rfl))) rfl rfl rfl ?_
            refine TL.nil ?_
            exact TN.hand (mf3, (k8_3 + 1)) ⟨(by first | omega | (simp [-List.getD_eq_getElem?_getD] <;> omega)), (by omega), hL3⟩ (Nat.lt_succ_self _) ⟨rfl, rfl, rfl, rfl, rfl, trivial⟩ (fun w hw => hw)
        · rw [bif_neg h65] at hL3
          have q66 := (of_decide_eq_false h65)
          refine TC.exit ?_
          refine TN.thenE ?_
          refine TN.thenE ?_
          rw [← hL3, elim_next] at hL2
          try dsimp only at hL2
          refine TN.blockH ?_
          refine TN.blockN ?_
          refine TN.seq ?_
          refine TC.region ?_
          refine TL.op (yq (y_move (ev_t rfl))) rfl rfl rfl ?_
          refine TL.op (yq (y_add (ev_t rfl) ev_c (by unfold In64; constructor <;> omega))) rfl rfl rfl ?_
          refine TL.op (yq (y_assign (ev_t rfl))) rfl rfl rfl ?_
          refine TL.nil ?_
          exact TN.hand (mf2, (k7_2 + 1)) ⟨(by first | omega | (simp [-List.getD_eq_getElem?_getD] <;> omega)), (by omega), hL2⟩ (Nat.lt_succ_self _) ⟨rfl, rfl, rfl, rfl, trivial⟩ (fun w hw => hw)
      · rw [bif_neg h61] at hL2
        have q62 := (of_decide_eq_false h61)
        refine TC.exit ?_
        refine TN.thenE ?_
        refine TN.thenE ?_
        rw [← hL2, elim_next] at hF
        try dsimp only at hF
        refine TN.blockH ?_
        refine TN.seq ?_
        refine TC.seq ?_
        refine TC.region ?_
        refine TL.op (yq (y_assign ev_c)) rfl rfl rfl ?_
        refine TL.nil ?_
        refine TN.seq ?_
        refine TC.ret ?_
        subst hF
        exact TN.ret1 rfl (ev_t rfl) (fun w' hw => ⟨rfl, Hp.sublist hw (List.nil_sublist _)⟩)

set_option maxRecDepth 4000 in
set_option maxHeartbeats 1000000 in
theorem spec_l6Detour_ok (w : World) (vm : Value) (um : List Value) (m : List (List Int)) (hm : RII w vm um m) (hp0 : Tab m) :
    Calls Try.prog 127 ([(.agg #[vm])] : List Value).toArray w (fun e w' => ∃ i : Value, e = .returned i ∧ Hp w [rowI 3 i (F_spec_l6Detour m)] w') := by
  obtain ⟨rz, hF⟩ : ∃ rz, (F_spec_l6Detour m) = rz := ⟨_, rfl⟩
  rw [hF]
  unfold F_spec_l6Detour at hF
  have hlen_m := argT_len hm
  refine calls_tc Try.func127 rfl rfl rfl ?_
  change TC _ _ _ _ (Hp w []) [(0, (.agg #[vm]))]
  refine TC.seq ?_
  refine TC.region ?_
  refine TL.box (ev_t rfl) rfl (fun g0_0 => ?_)
  refine TL.op (yq (y_assign ev_c)) rfl rfl rfl ?_
  refine TL.nil ?_
  refine TN.seq ?_
  refine TC.seq ?_
  refine TC.region ?_
  refine TL.op (yq (y_fa (fa_55_0 g0_0) (ev_t rfl))) rfl rfl rfl ?_
  refine TL.op (yq (y_ldb 0 (ev_t rfl) one_49 rfl rfl)) rfl rfl rfl ?_
  refine TL.op (yq (y_len (ev_t rfl) Try.underlying49 (fun w hw => ((fun w hw => ((rii_arg hm) w hw).1) w hw).ln))) rfl rfl rfl ?_
  refine TL.op (yq (y_assign (ev_t rfl))) rfl rfl rfl ?_
  refine TL.nil ?_
  refine TN.seq ?_
  refine TC.seq ?_
  refine TC.seq ?_
  refine TC.region ?_
  refine TL.op (yq (y_assign ev_c)) rfl rfl rfl ?_
  refine TL.nil ?_
  refine TN.seq ?_
  refine TC.block ?_
  obtain ⟨c63, hc64⟩ : ∃ c, F_spec_l6Detour_L1 m ((m.length - 0) + 1) 0 = c := ⟨_, rfl⟩
  rw [hc64] at hF
  refine TC.loop (ι := Nat × Nat) (fun (fu1, x1) => [(1, (.pointer (some ⟨g0_0, 0, none⟩))), (3, (.int .i64 (m.length : Int))), (4, (.int .i64 (x1 : Int)))]) (fun (fu1, x1) => Hp w [.blk g0_0 55 [vm]]) (fun (fu1, x1) => (x1 ≤ m.length) ∧ m.length - x1 < fu1 ∧ F_spec_l6Detour_L1 m fu1 x1 = c63) (fun (fu1, x1) => fu1) ((m.length - 0) + 1, 0) ⟨(by first | omega | (simp [-List.getD_eq_getElem?_getD] <;> omega)), (by omega), hc64⟩ ⟨rfl, rfl, rfl, trivial⟩ (fun w hw => hw) ?_
  rintro ⟨fu1, x1⟩ hJ1
  obtain ⟨hi1_0, hmu1, hL1⟩ : (x1 ≤ m.length) ∧ m.length - x1 < fu1 ∧ F_spec_l6Detour_L1 m fu1 x1 = c63 := hJ1
  change TC _ _ _ _ (Hp w [.blk g0_0 55 [vm]]) [(1, (.pointer (some ⟨g0_0, 0, none⟩))), (3, (.int .i64 (m.length : Int))), (4, (.int .i64 (x1 : Int)))]
  obtain ⟨mf1, rfl⟩ : ∃ m, fu1 = m + 1 := ⟨fu1 - 1, by omega⟩
  rw [F_spec_l6Detour_L1_s] at hL1
  have hrw := hp0.rows x1
  refine TC.seq ?_
  refine TC.seq ?_
  refine TC.region ?_
  refine TL.op (yq (y_move (ev_t rfl))) rfl rfl rfl ?_
  refine TL.op (yq (y_move (ev_t rfl))) rfl rfl rfl ?_
  refine TL.op (yq (y_lss (ev_t rfl) (ev_t rfl))) rfl rfl rfl ?_
  refine TL.nil ?_
  refine TN.seq ?_
  refine TC.cond (b := decide ((x1 : Int) < (m.length : Int))) (ev_t rfl) (fun h65 => ?_) (fun h65 => ?_)
  · rw [bif_pos h65] at hL1
    have q66 := (of_decide_eq_true h65)
    refine TC.skip ?_
    refine TN.seq ?_
    refine TC.seq ?_
    refine TC.block ?_
    refine TC.seq ?_
    refine TC.region ?_
    refine TL.op (yq (y_assign ev_c)) rfl rfl rfl ?_
    refine TL.nil ?_
    refine TN.seq ?_
    refine TC.block ?_
    obtain ⟨c67, hc68⟩ : ∃ c, F_spec_l6Detour_L2 m x1 ((m.length - 0) + 1) 0 = c := ⟨_, rfl⟩
    rw [hc68] at hL1
    refine TC.loop (ι := Nat × Nat) (fun (fu2, y2) => [(1, (.pointer (some ⟨g0_0, 0, none⟩))), (3, (.int .i64 (m.length : Int))), (4, (.int .i64 (x1 : Int))), (5, (.int .i64 (y2 : Int)))]) (fun (fu2, y2) => Hp w [.blk g0_0 55 [vm]]) (fun (fu2, y2) => (y2 ≤ m.length) ∧ m.length - y2 < fu2 ∧ F_spec_l6Detour_L2 m x1 fu2 y2 = c67) (fun (fu2, y2) => fu2) ((m.length - 0) + 1, 0) ⟨(by first | omega | (simp [-List.getD_eq_getElem?_getD] <;> omega)), (by omega), hc68⟩ ⟨rfl, rfl, rfl, rfl, trivial⟩ (fun w hw => hw) ?_
    rintro ⟨fu2, y2⟩ hJ2
    obtain ⟨hi2_0, hmu2, hL2⟩ : (y2 ≤ m.length) ∧ m.length - y2 < fu2 ∧ F_spec_l6Detour_L2 m x1 fu2 y2 = c67 := hJ2
    change TC _ _ _ _ (Hp w [.blk g0_0 55 [vm]]) [(1, (.pointer (some ⟨g0_0, 0, none⟩))), (3, (.int .i64 (m.length : Int))), (4, (.int .i64 (x1 : Int))), (5, (.int .i64 (y2 : Int)))]
    obtain ⟨mf2, rfl⟩ : ∃ m, fu2 = m + 1 := ⟨fu2 - 1, by omega⟩
    rw [F_spec_l6Detour_L2_s] at hL2
    have hrw2 := hp0.rows y2
    refine TC.seq ?_
    refine TC.seq ?_
    refine TC.region ?_
    refine TL.op (yq (y_move (ev_t rfl))) rfl rfl rfl ?_
    refine TL.op (yq (y_move (ev_t rfl))) rfl rfl rfl ?_
    refine TL.op (yq (y_lss (ev_t rfl) (ev_t rfl))) rfl rfl rfl ?_
    refine TL.nil ?_
    refine TN.seq ?_
    refine TC.cond (b := decide ((y2 : Int) < (m.length : Int))) (ev_t rfl) (fun h69 => ?_) (fun h69 => ?_)
    · rw [bif_pos h69] at hL2
      have q70 := (of_decide_eq_true h69)
      refine TC.skip ?_
      refine TN.seq ?_
      refine TC.seq ?_
      refine TC.block ?_
      refine TC.seq ?_
      refine TC.region ?_
      refine TL.op (yq (y_assign ev_c)) rfl rfl rfl ?_
      refine TL.nil ?_
      refine TN.seq ?_
      refine TC.block ?_
      obtain ⟨c71, hc72⟩ : ∃ c, F_spec_l6Detour_L3 m x1 y2 ((m.length - 0) + 1) 0 = c := ⟨_, rfl⟩
      rw [hc72] at hL2
      refine TC.loop (ι := Nat × Nat) (fun (fu3, z3) => [(1, (.pointer (some ⟨g0_0, 0, none⟩))), (3, (.int .i64 (m.length : Int))), (4, (.int .i64 (x1 : Int))), (5, (.int .i64 (y2 : Int))), (6, (.int .i64 (z3 : Int)))]) (fun (fu3, z3) => Hp w [.blk g0_0 55 [vm]]) (fun (fu3, z3) => (z3 ≤ m.length) ∧ m.length - z3 < fu3 ∧ F_spec_l6Detour_L3 m x1 y2 fu3 z3 = c71) (fun (fu3, z3) => fu3) ((m.length - 0) + 1, 0) ⟨(by first | omega | (simp [-List.getD_eq_getElem?_getD] <;> omega)), (by omega), hc72⟩ ⟨rfl, rfl, rfl, rfl, rfl, trivial⟩ (fun w hw => hw) ?_
      rintro ⟨fu3, z3⟩ hJ3
      obtain ⟨hi3_0, hmu3, hL3⟩ : (z3 ≤ m.length) ∧ m.length - z3 < fu3 ∧ F_spec_l6Detour_L3 m x1 y2 fu3 z3 = c71 := hJ3
      change TC _ _ _ _ (Hp w [.blk g0_0 55 [vm]]) [(1, (.pointer (some ⟨g0_0, 0, none⟩))), (3, (.int .i64 (m.length : Int))), (4, (.int .i64 (x1 : Int))), (5, (.int .i64 (y2 : Int))), (6, (.int .i64 (z3 : Int)))]
      obtain ⟨mf3, rfl⟩ : ∃ m, fu3 = m + 1 := ⟨fu3 - 1, by omega⟩
      rw [F_spec_l6Detour_L3_s] at hL3
      have he1 := hp0.el x1 y2
      have he2 := hp0.el y2 z3
      refine TC.seq ?_
      refine TC.seq ?_
      refine TC.region ?_
      refine TL.op (yq (y_move (ev_t rfl))) rfl rfl rfl ?_
      refine TL.op (yq (y_move (ev_t rfl))) rfl rfl rfl ?_
      refine TL.op (yq (y_lss (ev_t rfl) (ev_t rfl))) rfl rfl rfl ?_
      refine TL.nil ?_
      refine TN.seq ?_
      refine TC.cond (b := decide ((z3 : Int) < (m.length : Int))) (ev_t rfl) (fun h73 => ?_) (fun h73 => ?_)
      · rw [bif_pos h73] at hL3
        have q74 := (of_decide_eq_true h73)
        refine TC.skip ?_
        refine TN.seq ?_
        refine TC.seq ?_
        refine TC.block ?_
        refine TC.seq ?_
        refine TC.regionQ (by kernel_rfl) (by kernel_rfl) dr_hp ?_
        refine TQ.op (yq (y_fa (fa_55_0 g0_0) (ev_t rfl))) rfl rfl rfl ?_
        refine TQ.op (yq (y_ldb 0 (ev_t rfl) one_49 rfl rfl)) rfl rfl rfl ?_
        refine TQ.op (yq (y_move (ev_t rfl))) rfl rfl rfl ?_
        have hb75 : x1 < m.length := (by first | omega | (simp only [List.length_set, List.length_append, List.length_cons, List.length_nil, List.length_replicate]; omega) | (rw [sortI_length]; simp only [List.length_cons, List.length_nil]; omega))
        refine TQ.op (yq (y_idx (k := x1) (ev_t rfl) (ev_t rfl) (by first | omega | simp) slT_49 (fun w hw => ((rii_arg hm) w hw).1) hb75)) rfl rfl rfl ?_
        have ha76 := hm.row (i := x1) hb75
        refine TQ.op (yq (y_ldA (ev_t rfl) one_34 (rii_arg hm) hb75)) rfl rfl rfl ?_
        refine TQ.op (yq (y_move (ev_t rfl))) rfl rfl rfl ?_
        have hb77 : z3 < (m.getD x1 []).length := (by first | omega | (simp only [List.length_set, List.length_append, List.length_cons, List.length_nil, List.length_replicate]; omega) | (rw [sortI_length]; simp only [List.length_cons, List.length_nil]; omega))
        refine TQ.op (yq (y_idx (k := z3) (ev_t rfl) (ev_t rfl) (by first | omega | simp) slT_34 (ri_arg ha76) hb77)) rfl rfl rfl ?_
        refine TQ.op (yq (y_ldi (ev_t rfl) one_3 (ri_arg ha76) hb77)) rfl rfl rfl ?_
        refine TQ.op (yq (y_fa (fa_55_0 g0_0) (ev_t rfl))) rfl rfl rfl ?_
        refine TQ.op (yq (y_ldb 0 (ev_t rfl) one_49 rfl rfl)) rfl rfl rfl ?_
        refine TQ.op (yq (y_move (ev_t rfl))) rfl rfl rfl ?_
        have hb78 : x1 < m.length := (by first | omega | (simp only [List.length_set, List.length_append, List.length_cons, List.length_nil, List.length_replicate]; omega) | (rw [sortI_length]; simp only [List.length_cons, List.length_nil]; omega))
        refine TQ.op (yq (y_idx (k := x1) (ev_t rfl) (ev_t rfl) (by first | omega | simp) slT_49 (fun w hw => ((rii_arg hm) w hw).1) hb78)) rfl rfl rfl ?_
        have ha79 := hm.row (i := x1) hb78
        refine TQ.op (yq (y_ldA (ev_t rfl) one_34 (rii_arg hm) hb78)) rfl rfl rfl ?_
        refine TQ.op (yq (y_move (ev_t rfl))) rfl rfl rfl ?_
        have hb80 : y2 < (m.getD x1 []).length := (by first | omega | (simp only [List.length_set, List.length_append, List.length_cons, List.length_nil, List.length_replicate]; omega) | (rw [sortI_length]; simp only [List.length_cons, List.length_nil]; omega))
        refine TQ.op (yq (y_idx (k := y2) (ev_t rfl) (ev_t rfl) (by first | omega | simp) slT_34 (ri_arg ha79) hb80)) rfl rfl rfl ?_
        refine TQ.op (yq (y_ldi (ev_t rfl) one_3 (ri_arg ha79) hb80)) rfl rfl rfl ?_
        refine TQ.op (yq (y_fa (fa_55_0 g0_0) (ev_t rfl))) rfl rfl rfl ?_
        refine TQ.op (yq (y_ldb 0 (ev_t rfl) one_49 rfl rfl)) rfl rfl rfl ?_
        refine TQ.op (yq (y_move (ev_t rfl))) rfl rfl rfl ?_
        have hb81 : y2 < m.length := (by first | omega | (simp only [List.length_set, List.length_append, List.length_cons, List.length_nil, List.length_replicate]; omega) | (rw [sortI_length]; simp only [List.length_cons, List.length_nil]; omega))
        refine TQ.op (yq (y_idx (k := y2) (ev_t rfl) (ev_t rfl) (by first | omega | simp) slT_49 (fun w hw => ((rii_arg hm) w hw).1) hb81)) rfl rfl rfl ?_
        have ha82 := hm.row (i := y2) hb81
        refine TQ.op (yq (y_ldA (ev_t rfl) one_34 (rii_arg hm) hb81)) rfl rfl rfl ?_
        refine TQ.op (yq (y_move (ev_t rfl))) rfl rfl rfl ?_
        have hb83 : z3 < (m.getD y2 []).length := (by first | omega | (simp only [List.length_set, List.length_append, List.length_cons, List.length_nil, List.length_replicate]; omega) | (rw [sortI_length]; simp only [List.length_cons, List.length_nil]; omega))
        refine TQ.op (yq (y_idx (k := z3) (ev_t rfl) (ev_t rfl) (by first | omega | simp) slT_34 (ri_arg ha82) hb83)) rfl rfl rfl ?_
        refine TQ.op (yq (y_ldi (ev_t rfl) one_3 (ri_arg ha82) hb83)) rfl rfl rfl ?_
        refine TQ.op (yq (y_add (ev_t rfl) (ev_t rfl) (by unfold In64; constructor <;> omega))) rfl rfl rfl ?_
        refine TQ.op (yq (y_gtr (ev_t rfl) (ev_t rfl))) rfl rfl rfl ?_
        refine TQ.nil ?_
        refine TN.seq ?_
        refine TC.cond (b := decide (((m.getD x1 []).getD y2 0) + ((m.getD y2 []).getD z3 0) < ((m.getD x1 []).getD z3 0))) (ev_t rfl) (fun h84 => ?_) (fun h84 => ?_)
        · rw [bif_pos h84] at hL3
          have q85 := (of_decide_eq_true h84)
          refine TC.seq ?_
          refine TC.region ?_
          refine TL.op (yq (y_move (ev_t rfl))) rfl rfl rfl ?_
          refine TL.op (yq (y_move (ev_t rfl))) rfl rfl rfl ?_
          refine TL.op (yq (y_move (ev_t rfl))) rfl rfl rfl ?_
          refine TL.buildI (zs := [.tmp 51, .tmp 52, .tmp 53]) (qs := [(x1 : Int), (y2 : Int), (z3 : Int)]) slT_34 rfl ⟨(ev_t rfl), (ev_t rfl), (ev_t rfl), trivial⟩ rfl (by decide) rfl (fun v12_3 => ?_)
          refine TL.op (yq (y_assign (ev_t rfl))) rfl rfl rfl ?_
          refine TL.nil ?_
          refine TN.seq ?_
          refine TC.ret ?_
          refine TN.blockR ?_
          refine TN.thenR ?_
          refine TN.thenR ?_
          rw [← hL3, elim_ret] at hL2
          refine TN.blockR ?_
          refine TN.blockR ?_
          refine TN.thenR ?_
          refine TN.thenR ?_
          rw [← hL2, elim_ret] at hL1
          refine TN.blockR ?_
          refine TN.blockR ?_
          refine TN.thenR ?_
          refine TN.thenR ?_
          rw [← hL1, elim_ret] at hF
          refine TN.blockR ?_
          refine TN.thenR ?_
          subst hF
          exact TN.ret1 rfl (ev_t rfl) (fun w' hw => ⟨v12_3, rfl, Hp.sublist hw (.cons_cons _ (.cons _ .slnil))⟩)
        · rw [bif_neg h84] at hL3
          have q85 := (of_decide_eq_false h84)
          refine TC.skip ?_
          refine TN.blockN ?_
          refine TN.seq ?_
          refine TC.region ?_
          refine TL.op (yq (y_move (ev_t rfl))) rfl rfl rfl ?_
          refine TL.op (yq (y_add (ev_t rfl) ev_c (by unfold In64; constructor <;> omega))) rfl rfl rfl ?_
          refine TL.op (yq (y_assign (ev_t rfl))) rfl rfl rfl ?_
          refine TL.nil ?_
          exact TN.hand (mf3, (z3 + 1)) ⟨(by first | omega | (simp [-List.getD_eq_getElem?_getD] <;> omega)), (by omega), hL3⟩ (Nat.lt_succ_self _) ⟨rfl, rfl, rfl, rfl, rfl, trivial⟩ (fun w hw => hw)
      · rw [bif_neg h73] at hL3
        have q74 := (of_decide_eq_false h73)
        refine TC.exit ?_
        refine TN.thenE ?_
        refine TN.thenE ?_
        rw [← hL3, elim_next] at hL2
        try dsimp only at hL2
        refine TN.blockH ?_
        refine TN.blockN ?_
        refine TN.seq ?_
        refine TC.region ?_
        refine TL.op (yq (y_move (ev_t rfl))) rfl rfl rfl ?_
        refine TL.op (yq (y_add (ev_t rfl) ev_c (by unfold In64; constructor <;> omega))) rfl rfl rfl ?_
        refine TL.op (yq (y_assign (ev_t rfl))) rfl rfl rfl ?_
        refine TL.nil ?_
        exact TN.hand (mf2, (y2 + 1)) ⟨(by first | omega | (simp [-List.getD_eq_getElem?_getD] <;> omega)), (by omega), hL2⟩ (Nat.lt_succ_self _) ⟨rfl, rfl, rfl, rfl, trivial⟩ (fun w hw => hw)
    · rw [bif_neg h69] at hL2
      have q70 := (of_decide_eq_false h69)
      refine TC.exit ?_
      refine TN.thenE ?_
      refine TN.thenE ?_
      rw [← hL2, elim_next] at hL1
      try dsimp only at hL1
      refine TN.blockH ?_
      refine TN.blockN ?_
      refine TN.seq ?_
      refine TC.region ?_
      refine TL.op (yq (y_move (ev_t rfl))) rfl rfl rfl ?_
      refine TL.op (yq (y_add (ev_t rfl) ev_c (by unfold In64; constructor <;> omega))) rfl rfl rfl ?_
      refine TL.op (yq (y_assign (ev_t rfl))) rfl rfl rfl ?_
      refine TL.nil ?_
      exact TN.hand (mf1, (x1 + 1)) ⟨(by first | omega | (simp [-List.getD_eq_getElem?_getD] <;> omega)), (by omega), hL1⟩ (Nat.lt_succ_self _) ⟨rfl, rfl, rfl, trivial⟩ (fun w hw => hw)
  · rw [bif_neg h65] at hL1
    have q66 := (of_decide_eq_false h65)
    refine TC.exit ?_
    refine TN.thenE ?_
    refine TN.thenE ?_
    rw [← hL1, elim_next] at hF
    try dsimp only at hF
    refine TN.blockH ?_
    refine TN.seq ?_
    refine TC.seq ?_
    refine TC.region ?_
    refine TL.buildI (zs := []) (qs := []) slT_34 rfl trivial rfl (by decide) rfl (fun v13_0 => ?_)
    refine TL.op (yq (y_assign (ev_t rfl))) rfl rfl rfl ?_
    refine TL.nil ?_
    refine TN.seq ?_
    refine TC.ret ?_
    subst hF
    exact TN.ret1 rfl (ev_t rfl) (fun w' hw => ⟨v13_0, rfl, Hp.sublist hw (.cons_cons _ (.cons _ .slnil))⟩)

set_option maxRecDepth 4000 in
set_option maxHeartbeats 1000000 in
theorem spec_l6Good_ok (w : World) (vm : Value) (um : List Value) (m : List (List Int)) (hm : RII w vm um m)  :
    Calls Try.prog 88 ([(.agg #[vm])] : List Value).toArray w (Ret (.bool (F_spec_l6Good m)) (Hp w [])) := by
  obtain ⟨rz, hF⟩ : ∃ rz, (F_spec_l6Good m) = rz := ⟨_, rfl⟩
  rw [hF]
  unfold F_spec_l6Good at hF
  have hlen_m := argT_len hm
  refine calls_tc Try.func88 rfl rfl rfl ?_
  change TC _ _ _ _ (Hp w []) [(0, (.agg #[vm]))]
  refine TC.seq ?_
  refine TC.region ?_
  refine TL.box (ev_t rfl) rfl (fun g0_0 => ?_)
  refine TL.op (yq (y_assign ev_c)) rfl rfl rfl ?_
  refine TL.nil ?_
  refine TN.seq ?_
  refine TC.seq ?_
  refine TC.region ?_
  refine TL.op (yq (y_ldagg (cs := [vm]) 0 (ev_t rfl) agg_55 rfl)) rfl rfl rfl ?_
  refine TL.op (y_call (vs := [(.agg #[vm]), (.bool false)]) (v := (.bool (F_spec_l6Table m false))) en_126 ⟨(ev_t rfl), ev_c, trivial⟩ (fun w hw => spec_l6Table_ok w vm um m ((rii_arg hm) w hw) false)) rfl rfl rfl ?_
  refine TL.op (yq (y_move (ev_t rfl))) rfl rfl rfl ?_
  refine TL.split 5 (b := (F_spec_l6Table m false)) rfl (fun h3 => ?_) (fun h3 => ?_)
  · rw [bif_pos h3] at hF
    have q4 := (l6Table_t h3)
    refine TL.opw (w_t rfl rfl rfl) (fun _ => yq (y_ldagg (cs := [vm]) 0 (ev_t rfl) agg_55 rfl)) rfl rfl ?_
    refine TL.ung (w_t rfl rfl rfl) ?_
    refine TL.callr (ι := Value) (vs := [(.agg #[vm])]) (fun i => i) (fun i => [rowI 3 i (F_spec_l6Detour m)]) en_127 ⟨(ev_t rfl), trivial⟩ rfl (fun w hw => spec_l6Detour_ok w vm um m ((rii_arg hm) w hw) (by first | assumption | omega | grind)) (fun r1_4 => ?_)
    refine TL.opw (w_t rfl rfl rfl) (fun _ => yq (y_len (ev_t rfl) Try.underlying34 (fun w hw => ((ri_row 0 rfl) w hw).ln))) rfl rfl ?_
    refine TL.opw (w_t rfl rfl rfl) (fun _ => yq (y_eql (ev_t rfl) ev_c)) rfl rfl ?_
    refine TL.op (yq (y_pickT (ev_t rfl) (ev_t rfl))) rfl rfl rfl ?_
    refine TL.op (yq (y_assign (ev_t rfl))) rfl rfl rfl ?_
    refine TL.nil ?_
    refine TN.seq ?_
    refine TC.ret ?_
    subst hF
    exact TN.ret1 rfl (ev_t rfl) (fun w' hw => ⟨rfl, Hp.sublist hw (List.nil_sublist _)⟩)
  · rw [bif_neg h3] at hF
    have q4 := h3
    refine TL.opw (v := undef) (w_t rfl rfl rfl) (fun hg => by cases hg) rfl rfl ?_
    refine TL.opw (v := undef) (w_t rfl rfl rfl) (fun hg => by cases hg) rfl rfl ?_
    refine TL.opw (v := undef) (w_t rfl rfl rfl) (fun hg => by cases hg) rfl rfl ?_
    refine TL.opw (v := undef) (w_t rfl rfl rfl) (fun hg => by cases hg) rfl rfl ?_
    refine TL.op (yq (y_pickF (ev_t rfl) ev_c)) rfl rfl rfl ?_
    refine TL.op (yq (y_assign (ev_t rfl))) rfl rfl rfl ?_
    refine TL.nil ?_
    refine TN.seq ?_
    refine TC.ret ?_
    subst hF
    exact TN.ret1 rfl (ev_t rfl) (fun w' hw => ⟨rfl, Hp.sublist hw (List.nil_sublist _)⟩)

set_option maxRecDepth 4000 in
set_option maxHeartbeats 1000000 in
theorem spec_l1Own_ok (w : World) (va : Value) (a : List Int) (ha : RI w va a) (hp0 : a.length ≤ 1000000000) :
    Calls Try.prog 107 ([va] : List Value).toArray w (fun e w' => ∃ i : Value, e = .returned i ∧ Hp w [rowI 3 i (F_spec_l1Own a)] w') := by
  obtain ⟨rz, hF⟩ : ∃ rz, (F_spec_l1Own a) = rz := ⟨_, rfl⟩
  rw [hF]
  unfold F_spec_l1Own at hF
  have hlen_a := arg_len ha
  refine calls_tc Try.func107 rfl rfl rfl ?_
  change TC _ _ _ _ (Hp w []) [(0, va)]
  refine TC.seq ?_
  refine TC.region ?_
  refine TL.op (yq (y_assign ev_c)) rfl rfl rfl ?_
  refine TL.nil ?_
  refine TN.seq ?_
  refine TC.seq ?_
  refine TC.region ?_
  refine TL.buildI (zs := []) (qs := []) slT_34 rfl trivial rfl (by decide) rfl (fun v1_0 => ?_)
  refine TL.op (yq (y_move (ev_t rfl))) rfl rfl rfl ?_
  refine TL.appendI 0 (ev_t rfl) (ev_t rfl) rfl slT_34 (ri_arg ha) (by first | omega | (simp [-List.getD_eq_getElem?_getD] <;> omega)) rfl (fun v1_2 => ?_)
  refine TL.op (yq (y_assign (ev_t rfl))) rfl rfl rfl ?_
  refine TL.nil ?_
  refine TN.seq ?_
  refine TC.ret ?_
  subst hF
  exact TN.ret1 rfl (ev_t rfl) (fun w' hw => ⟨v1_2, rfl, hw⟩)

set_option maxRecDepth 4000 in
set_option maxHeartbeats 1000000 in
theorem impl_areBelow_1_ok (w : World) (a : Int) (gn : Nat) (n : Int) (hn : CellAt w gn (.int .i64 n)) (hp0 : -1000000 ≤ n) (hp1 : n ≤ 9223372036854775807) :
    Calls Try.prog 156 ([(.int .i64 a), (.pointer (some ⟨gn, 0, none⟩))] : List Value).toArray w (Ret (.bool (F_impl_areBelow_1 a n)) (Hp w [])) := by
  obtain ⟨rz, hF⟩ : ∃ rz, (F_impl_areBelow_1 a n) = rz := ⟨_, rfl⟩
  rw [hF]
  unfold F_impl_areBelow_1 at hF
  refine calls_tc Try.func156 rfl rfl rfl ?_
  change TC _ _ _ _ (Hp w []) [(0, (.int .i64 a)), (1, (.pointer (some ⟨gn, 0, none⟩)))]
  refine TC.seq ?_
  refine TC.region ?_
  refine TL.op (yq (y_assign ev_c)) rfl rfl rfl ?_
  refine TL.nil ?_
  refine TN.seq ?_
  refine TC.seq ?_
  refine TC.region ?_
  refine TL.op (yq (y_move (ev_t rfl))) rfl rfl rfl ?_
  refine TL.op (yq (y_ldc (ev_t rfl) one_3 hn)) rfl rfl rfl ?_
  refine TL.op (yq (y_sub (ev_t rfl) ev_c (by unfold In64; constructor <;> omega))) rfl rfl rfl ?_
  refine TL.op (y_call (vs := [(.int .i64 a), (.int .i64 0), (.int .i64 (n - 1))]) (v := (.bool ((decide (0 ≤ a)) && (decide (a ≤ (n - 1)))))) en_78 ⟨(ev_t rfl), ev_c, (ev_t rfl), trivial⟩ (fun w hw => impl_within_ok w a 0 (n - 1))) rfl rfl rfl ?_
  refine TL.op (yq (y_not (ev_t rfl))) rfl rfl rfl ?_
  refine TL.op (yq (y_assign (ev_t rfl))) rfl rfl rfl ?_
  refine TL.nil ?_
  refine TN.seq ?_
  refine TC.ret ?_
  subst hF
  exact TN.ret1 rfl (ev_t rfl) (fun w' hw => ⟨rfl, hw⟩)

set_option maxRecDepth 4000 in
set_option maxHeartbeats 1000000 in
theorem impl_areBelow_ok (w : World) (n : Int) (vl : Value) (l : List Int) (hl : RI w vl l) (hp0 : -1000000 ≤ n) (hp1 : n ≤ 9223372036854775807) :
    Calls Try.prog 122 ([(.int .i64 n), vl] : List Value).toArray w (Ret (.bool (F_impl_areBelow n l)) (Hp w [])) := by
  obtain ⟨rz, hF⟩ : ∃ rz, (F_impl_areBelow n l) = rz := ⟨_, rfl⟩
  rw [hF]
  unfold F_impl_areBelow at hF
  have hlen_l := arg_len hl
  refine calls_tc Try.func122 rfl rfl rfl ?_
  change TC _ _ _ _ (Hp w []) [(0, (.int .i64 n)), (1, vl)]
  refine TC.seq ?_
  refine TC.region ?_
  refine TL.box (ev_t rfl) rfl (fun g0_0 => ?_)
  refine TL.op (yq (y_assign ev_c)) rfl rfl rfl ?_
  refine TL.nil ?_
  refine TN.seq ?_
  refine TC.seq ?_
  refine TC.region ?_
  refine TL.op (yq (y_move (ev_t rfl))) rfl rfl rfl ?_
  refine TL.op (yq (y_mkf (us := [(.pointer (some ⟨g0_0, 0, none⟩))]) ⟨(ev_t rfl), trivial⟩)) rfl rfl rfl ?_
  refine TL.op (y_call (vs := [vl, (.func (.func 156) #[] ([(.pointer (some ⟨g0_0, 0, none⟩))] : List Value).toArray)]) (v := (.bool (F_slices_ContainsFunc_Sint_int l (fun a => F_impl_areBelow_1 a n)))) en_155 ⟨(ev_t rfl), (ev_t rfl), trivial⟩ (fun w hw => slices_ContainsFunc_Sint_int_ok w vl l ((ri_arg hl) w hw) 156 [(.pointer (some ⟨g0_0, 0, none⟩))] (fun a => F_impl_areBelow_1 a n) en_156 (fun w2 hb a => impl_areBelow_1_ok w2 a g0_0 n (cell_blk 0 rfl rfl hw hb) (by first | assumption | omega | grind) (by first | assumption | omega | grind)))) rfl rfl rfl ?_
  refine TL.op (yq (y_not (ev_t rfl))) rfl rfl rfl ?_
  refine TL.op (yq (y_assign (ev_t rfl))) rfl rfl rfl ?_
  refine TL.nil ?_
  refine TN.seq ?_
  refine TC.ret ?_
  subst hF
  exact TN.ret1 rfl (ev_t rfl) (fun w' hw => ⟨rfl, Hp.sublist hw (List.nil_sublist _)⟩)

set_option maxRecDepth 4000 in
set_option maxHeartbeats 1000000 in
theorem impl_Metric_isConfig_ok (w : World) (vm : Value) (um : List Value) (m : List (List Int)) (hm : RII w vm um m) (va : Value) (a : List Int) (ha : RI w va a)  :
    Calls Try.prog 139 ([(.agg #[vm]), va] : List Value).toArray w (Ret (.bool (F_impl_Metric_isConfig m a)) (Hp w [])) := by
  obtain ⟨rz, hF⟩ : ∃ rz, (F_impl_Metric_isConfig m a) = rz := ⟨_, rfl⟩
  rw [hF]
  unfold F_impl_Metric_isConfig at hF
  have hlen_m := argT_len hm
  have hlen_a := arg_len ha
  refine calls_tc Try.func139 rfl rfl rfl ?_
  change TC _ _ _ _ (Hp w []) [(0, (.agg #[vm])), (1, va)]
  refine TC.seq ?_
  refine TC.region ?_
  refine TL.box (ev_t rfl) rfl (fun g0_0 => ?_)
  refine TL.op (yq (y_assign ev_c)) rfl rfl rfl ?_
  refine TL.nil ?_
  refine TN.seq ?_
  refine TC.seq ?_
  refine TC.region ?_
  refine TL.op (yq (y_move (ev_t rfl))) rfl rfl rfl ?_
  refine TL.op (yq (y_len (ev_t rfl) Try.underlying34 (fun w hw => ((ri_arg ha) w hw).ln))) rfl rfl rfl ?_
  refine TL.op (y_call (vs := [(.int .i64 (a.length : Int)), (.int .i64 1), (.int .i64 3)]) (v := (.bool ((decide (1 ≤ (a.length : Int))) && (decide ((a.length : Int) ≤ 3))))) en_78 ⟨(ev_t rfl), ev_c, ev_c, trivial⟩ (fun w hw => impl_within_ok w (a.length : Int) 1 3)) rfl rfl rfl ?_
  refine TL.op (yq (y_move (ev_t rfl))) rfl rfl rfl ?_
  refine TL.opw (w_t rfl rfl rfl) (fun hg => yq (y_fa (fa_55_0 g0_0) (ev_t rfl))) rfl rfl ?_
  refine TL.opw (w_t rfl rfl rfl) (fun hg => yq (y_ldb 0 (ev_g rfl hg) one_49 rfl rfl)) rfl rfl ?_
  refine TL.opw (w_t rfl rfl rfl) (fun hg => yq (y_len (ev_g rfl hg) Try.underlying49 (fun w hw => ((fun w hw => ((rii_arg hm) w hw).1) w hw).ln))) rfl rfl ?_
  refine TL.opw (w_t rfl rfl rfl) (fun hg => yq (y_move (ev_t rfl))) rfl rfl ?_
  refine TL.opw (w_t rfl rfl rfl) (fun hg => y_call (vs := [(.int .i64 (m.length : Int)), va]) (v := (.bool (F_impl_areBelow (m.length : Int) a))) en_122 ⟨(ev_g rfl hg), (ev_g rfl hg), trivial⟩ (fun w hw => impl_areBelow_ok w (m.length : Int) va a ((ri_arg ha) w hw) (by have hgf := (and_imp (and_t hg) (fun h => (of_decide_eq_true h)) (fun h => (of_decide_eq_true h))); first | assumption | omega | (have hq := hgf.n6; omega) | (have hq := hgf.1.n6; omega) | grind) (by have hgf := (and_imp (and_t hg) (fun h => (of_decide_eq_true h)) (fun h => (of_decide_eq_true h))); first | assumption | omega | (have hq := hgf.n6; omega) | (have hq := hgf.1.n6; omega) | grind))) rfl rfl ?_
  refine TL.op (yq (y_and (ev_t rfl) (fun hq => (ev_g rfl hq)))) rfl rfl rfl ?_
  refine TL.op (yq (y_move (ev_t rfl))) rfl rfl rfl ?_
  refine TL.opw (w_t rfl rfl rfl) (fun hg => yq (y_move (ev_t rfl))) rfl rfl ?_
  refine TL.opw (w_t rfl rfl rfl) (fun hg => y_call (vs := [va]) (v := (.bool (F_slices_IsSorted_Sint_int a))) en_149 ⟨(ev_g rfl hg), trivial⟩ (fun w hw => slices_IsSorted_Sint_int_ok w va a ((ri_arg ha) w hw))) rfl rfl ?_
  refine TL.op (yq (y_and (ev_t rfl) (fun hq => (ev_g rfl hq)))) rfl rfl rfl ?_
  refine TL.op (yq (y_assign (ev_t rfl))) rfl rfl rfl ?_
  refine TL.nil ?_
  refine TN.seq ?_
  refine TC.ret ?_
  subst hF
  exact TN.ret1 rfl (ev_t rfl) (fun w' hw => ⟨rfl, Hp.sublist hw (List.nil_sublist _)⟩)

set_option maxRecDepth 4000 in
set_option maxHeartbeats 1000000 in
theorem spec_l6List_ok (w : World) (n : Int) (vlist : Value) (list : List Int) (hlist : RI w vlist list) (hp0 : -1000000 ≤ n) (hp1 : n ≤ 9223372036854775807) :
    Calls Try.prog 136 ([(.int .i64 n), vlist] : List Value).toArray w (Ret (.bool (F_spec_l6List n list)) (Hp w [])) := by
  obtain ⟨rz, hF⟩ : ∃ rz, (F_spec_l6List n list) = rz := ⟨_, rfl⟩
  rw [hF]
  unfold F_spec_l6List at hF
  have hlen_list := arg_len hlist
  refine calls_tc Try.func136 rfl rfl rfl ?_
  change TC _ _ _ _ (Hp w []) [(0, (.int .i64 n)), (1, vlist)]
  refine TC.seq ?_
  refine TC.region ?_
  refine TL.op (yq (y_assign ev_c)) rfl rfl rfl ?_
  refine TL.nil ?_
  refine TN.seq ?_
  refine TC.seq ?_
  refine TC.seq ?_
  refine TC.region ?_
  refine TL.op (yq (y_assign ev_c)) rfl rfl rfl ?_
  refine TL.nil ?_
  refine TN.seq ?_
  refine TC.block ?_
  obtain ⟨c11, hc12⟩ : ∃ c, F_spec_l6List_L1 n list ((list.length - 0) + 1) 0 = c := ⟨_, rfl⟩
  rw [hc12] at hF
  refine TC.loop (ι := Nat × Nat) (fun (fu1, i1) => [(0, (.int .i64 n)), (1, vlist), (5, (.int .i64 (i1 : Int)))]) (fun (fu1, i1) => Hp w []) (fun (fu1, i1) => (i1 ≤ list.length) ∧ list.length - i1 < fu1 ∧ F_spec_l6List_L1 n list fu1 i1 = c11) (fun (fu1, i1) => fu1) ((list.length - 0) + 1, 0) ⟨(by first | omega | (simp [-List.getD_eq_getElem?_getD] <;> omega)), (by omega), hc12⟩ ⟨rfl, rfl, rfl, trivial⟩ (fun w hw => hw) ?_
  rintro ⟨fu1, i1⟩ hJ1
  obtain ⟨hi1_0, hmu1, hL1⟩ : (i1 ≤ list.length) ∧ list.length - i1 < fu1 ∧ F_spec_l6List_L1 n list fu1 i1 = c11 := hJ1
  change TC _ _ _ _ (Hp w []) [(0, (.int .i64 n)), (1, vlist), (5, (.int .i64 (i1 : Int)))]
  obtain ⟨mf1, rfl⟩ : ∃ m, fu1 = m + 1 := ⟨fu1 - 1, by omega⟩
  rw [F_spec_l6List_L1_s] at hL1
  refine TC.seq ?_
  refine TC.seq ?_
  refine TC.region ?_
  refine TL.op (yq (y_move (ev_t rfl))) rfl rfl rfl ?_
  refine TL.op (yq (y_move (ev_t rfl))) rfl rfl rfl ?_
  refine TL.op (yq (y_len (ev_t rfl) Try.underlying34 (fun w hw => ((ri_arg hlist) w hw).ln))) rfl rfl rfl ?_
  refine TL.op (yq (y_lss (ev_t rfl) (ev_t rfl))) rfl rfl rfl ?_
  refine TL.nil ?_
  refine TN.seq ?_
  refine TC.cond (b := decide ((i1 : Int) < (list.length : Int))) (ev_t rfl) (fun h13 => ?_) (fun h13 => ?_)
  · rw [bif_pos h13] at hL1
    have q14 := (of_decide_eq_true h13)
    refine TC.skip ?_
    refine TN.seq ?_
    refine TC.seq ?_
    refine TC.block ?_
    refine TC.seq ?_
    refine TC.region ?_
    refine TL.op (yq (y_move (ev_t rfl))) rfl rfl rfl ?_
    refine TL.op (yq (y_move (ev_t rfl))) rfl rfl rfl ?_
    have hb15 : i1 < list.length := (by first | omega | (simp only [List.length_set, List.length_append, List.length_cons, List.length_nil, List.length_replicate]; omega) | (rw [sortI_length]; simp only [List.length_cons, List.length_nil]; omega))
    refine TL.op (yq (y_idx (k := i1) (ev_t rfl) (ev_t rfl) (by first | omega | simp) slT_34 (ri_arg hlist) hb15)) rfl rfl rfl ?_
    refine TL.op (yq (y_ldi (ev_t rfl) one_3 (ri_arg hlist) hb15)) rfl rfl rfl ?_
    refine TL.op (yq (y_move (ev_t rfl))) rfl rfl rfl ?_
    refine TL.op (yq (y_sub (ev_t rfl) ev_c (by unfold In64; constructor <;> omega))) rfl rfl rfl ?_
    refine TL.op (y_call (vs := [(.int .i64 (list.getD i1 0)), (.int .i64 0), (.int .i64 (n - 1))]) (v := (.bool ((decide (0 ≤ (list.getD i1 0))) && (decide ((list.getD i1 0) ≤ (n - 1)))))) en_81 ⟨(ev_t rfl), ev_c, (ev_t rfl), trivial⟩ (fun w hw => spec_l1In_ok w (list.getD i1 0) 0 (n - 1))) rfl rfl rfl ?_
    refine TL.op (yq (y_not (ev_t rfl))) rfl rfl rfl ?_
    refine TL.nil ?_
    refine TN.seq ?_
    refine TC.cond (b := !((decide (0 ≤ (list.getD i1 0))) && (decide ((list.getD i1 0) ≤ (n - 1))))) (ev_t rfl) (fun h16 => ?_) (fun h16 => ?_)
    · rw [bif_pos h16] at hL1
      have q17 := ((and_f (not_t h16)).imp (fun h => (of_decide_eq_false h)) (fun h => (of_decide_eq_false h)))
      refine TC.seq ?_
      refine TC.region ?_
      refine TL.op (yq (y_assign ev_c)) rfl rfl rfl ?_
      refine TL.nil ?_
      refine TN.seq ?_
      refine TC.ret ?_
      refine TN.blockR ?_
      refine TN.thenR ?_
      refine TN.thenR ?_
      rw [← hL1, elim_ret] at hF
      refine TN.blockR ?_
      refine TN.thenR ?_
      subst hF
      exact TN.ret1 rfl (ev_t rfl) (fun w' hw => ⟨rfl, hw⟩)
    · rw [bif_neg h16] at hL1
      have q17 := (and_imp (and_t (not_f h16)) (fun h => (of_decide_eq_true h)) (fun h => (of_decide_eq_true h)))
      refine TC.skip ?_
      refine TN.blockN ?_
      refine TN.seq ?_
      refine TC.region ?_
      refine TL.op (yq (y_move (ev_t rfl))) rfl rfl rfl ?_
      refine TL.op (yq (y_add (ev_t rfl) ev_c (by unfold In64; constructor <;> omega))) rfl rfl rfl ?_
      refine TL.op (yq (y_assign (ev_t rfl))) rfl rfl rfl ?_
      refine TL.nil ?_
      exact TN.hand (mf1, (i1 + 1)) ⟨(by first | omega | (simp [-List.getD_eq_getElem?_getD] <;> omega)), (by omega), hL1⟩ (Nat.lt_succ_self _) ⟨rfl, rfl, rfl, trivial⟩ (fun w hw => hw)
  · rw [bif_neg h13] at hL1
    have q14 := (of_decide_eq_false h13)
    refine TC.exit ?_
    refine TN.thenE ?_
    refine TN.thenE ?_
    rw [← hL1, elim_next] at hF
    try dsimp only at hF
    refine TN.blockH ?_
    refine TN.seq ?_
    refine TC.seq ?_
    refine TC.region ?_
    refine TL.op (yq (y_assign ev_c)) rfl rfl rfl ?_
    refine TL.nil ?_
    refine TN.seq ?_
    refine TC.ret ?_
    subst hF
    exact TN.ret1 rfl (ev_t rfl) (fun w' hw => ⟨rfl, hw⟩)

set_option maxRecDepth 4000 in
set_option maxHeartbeats 1000000 in
theorem spec_l6Config_ok (w : World) (n : Int) (va : Value) (a : List Int) (ha : RI w va a) (hp0 : -1000000 ≤ n) (hp1 : n ≤ 9223372036854775807) :
    Calls Try.prog 135 ([(.int .i64 n), va] : List Value).toArray w (Ret (.bool (F_spec_l6Config n a)) (Hp w [])) := by
  obtain ⟨rz, hF⟩ : ∃ rz, (F_spec_l6Config n a) = rz := ⟨_, rfl⟩
  rw [hF]
  unfold F_spec_l6Config at hF
  have hlen_a := arg_len ha
  refine calls_tc Try.func135 rfl rfl rfl ?_
  change TC _ _ _ _ (Hp w []) [(0, (.int .i64 n)), (1, va)]
  refine TC.seq ?_
  refine TC.region ?_
  refine TL.op (yq (y_assign ev_c)) rfl rfl rfl ?_
  refine TL.nil ?_
  refine TN.seq ?_
  refine TC.seq ?_
  refine TC.region ?_
  refine TL.op (yq (y_move (ev_t rfl))) rfl rfl rfl ?_
  refine TL.op (yq (y_len (ev_t rfl) Try.underlying34 (fun w hw => ((ri_arg ha) w hw).ln))) rfl rfl rfl ?_
  refine TL.op (y_call (vs := [(.int .i64 (a.length : Int)), (.int .i64 1), (.int .i64 3)]) (v := (.bool ((decide (1 ≤ (a.length : Int))) && (decide ((a.length : Int) ≤ 3))))) en_81 ⟨(ev_t rfl), ev_c, ev_c, trivial⟩ (fun w hw => spec_l1In_ok w (a.length : Int) 1 3)) rfl rfl rfl ?_
  refine TL.op (yq (y_move (ev_t rfl))) rfl rfl rfl ?_
  refine TL.opw (w_t rfl rfl rfl) (fun hg => yq (y_move (ev_t rfl))) rfl rfl ?_
  refine TL.opw (w_t rfl rfl rfl) (fun hg => yq (y_move (ev_t rfl))) rfl rfl ?_
  refine TL.opw (w_t rfl rfl rfl) (fun hg => y_call (vs := [(.int .i64 n), va]) (v := (.bool (F_spec_l6List n a))) en_136 ⟨(ev_g rfl hg), (ev_g rfl hg), trivial⟩ (fun w hw => spec_l6List_ok w n va a ((ri_arg ha) w hw) (by have hgf := (and_imp (and_t hg) (fun h => (of_decide_eq_true h)) (fun h => (of_decide_eq_true h))); first | assumption | omega | (have hq := hgf.n6; omega) | (have hq := hgf.1.n6; omega) | grind) (by have hgf := (and_imp (and_t hg) (fun h => (of_decide_eq_true h)) (fun h => (of_decide_eq_true h))); first | assumption | omega | (have hq := hgf.n6; omega) | (have hq := hgf.1.n6; omega) | grind))) rfl rfl ?_
  refine TL.op (yq (y_and (ev_t rfl) (fun hq => (ev_g rfl hq)))) rfl rfl rfl ?_
  refine TL.op (yq (y_move (ev_t rfl))) rfl rfl rfl ?_
  refine TL.opw (w_t rfl rfl rfl) (fun hg => yq (y_move (ev_t rfl))) rfl rfl ?_
  refine TL.opw (w_t rfl rfl rfl) (fun hg => y_call (vs := [va]) (v := (.bool (F_spec_l6Ascending a))) en_146 ⟨(ev_g rfl hg), trivial⟩ (fun w hw => spec_l6Ascending_ok w va a ((ri_arg ha) w hw))) rfl rfl ?_
  refine TL.op (yq (y_and (ev_t rfl) (fun hq => (ev_g rfl hq)))) rfl rfl rfl ?_
  refine TL.op (yq (y_assign (ev_t rfl))) rfl rfl rfl ?_
  refine TL.nil ?_
  refine TN.seq ?_
  refine TC.ret ?_
  subst hF
  exact TN.ret1 rfl (ev_t rfl) (fun w' hw => ⟨rfl, hw⟩)

set_option maxRecDepth 4000 in
set_option maxHeartbeats 1000000 in
theorem impl_isServed_ok (w : World) (vm : Value) (um : List Value) (m : List (List Int)) (hm : RII w vm um m) (va : Value) (a : List Int) (ha : RI w va a) (vreqs : Value) (reqs : List Int) (hreqs : RI w vreqs reqs)  :
    Calls Try.prog 100 ([(.agg #[vm]), va, vreqs] : List Value).toArray w (Ret (.bool (F_impl_isServed m a reqs)) (Hp w [])) := by
  obtain ⟨rz, hF⟩ : ∃ rz, (F_impl_isServed m a reqs) = rz := ⟨_, rfl⟩
  rw [hF]
  unfold F_impl_isServed at hF
  have hlen_m := argT_len hm
  have hlen_a := arg_len ha
  have hlen_reqs := arg_len hreqs
  refine calls_tc Try.func100 rfl rfl rfl ?_
  change TC _ _ _ _ (Hp w []) [(0, (.agg #[vm])), (1, va), (2, vreqs)]
  refine TC.seq ?_
  refine TC.region ?_
  refine TL.box (ev_t rfl) rfl (fun g0_0 => ?_)
  refine TL.op (yq (y_assign ev_c)) rfl rfl rfl ?_
  refine TL.nil ?_
  refine TN.seq ?_
  refine TC.seq ?_
  refine TC.region ?_
  refine TL.op (yq (y_ldagg (cs := [vm]) 0 (ev_t rfl) agg_55 rfl)) rfl rfl rfl ?_
  refine TL.op (y_call (vs := [(.agg #[vm])]) (v := (.bool (F_impl_IsMetric m))) en_91 ⟨(ev_t rfl), trivial⟩ (fun w hw => impl_IsMetric_ok w vm um m ((rii_arg hm) w hw))) rfl rfl rfl ?_
  refine TL.op (yq (y_move (ev_t rfl))) rfl rfl rfl ?_
  refine TL.opw (w_t rfl rfl rfl) (fun hg => yq (y_ldagg (cs := [vm]) 0 (ev_t rfl) agg_55 rfl)) rfl rfl ?_
  refine TL.opw (w_t rfl rfl rfl) (fun hg => yq (y_move (ev_t rfl))) rfl rfl ?_
  refine TL.opw (w_t rfl rfl rfl) (fun hg => y_call (vs := [(.agg #[vm]), va]) (v := (.bool (F_impl_Metric_isConfig m a))) en_139 ⟨(ev_g rfl hg), (ev_g rfl hg), trivial⟩ (fun w hw => impl_Metric_isConfig_ok w vm um m ((rii_arg hm) w hw) va a ((ri_arg ha) w hw))) rfl rfl ?_
  refine TL.op (yq (y_and (ev_t rfl) (fun hq => (ev_g rfl hq)))) rfl rfl rfl ?_
  refine TL.op (yq (y_move (ev_t rfl))) rfl rfl rfl ?_
  refine TL.opw (w_t rfl rfl rfl) (fun hg => yq (y_move (ev_t rfl))) rfl rfl ?_
  refine TL.opw (w_t rfl rfl rfl) (fun hg => yq (y_len (ev_g rfl hg) Try.underlying34 (fun w hw => ((ri_arg hreqs) w hw).ln))) rfl rfl ?_
  refine TL.opw (w_t rfl rfl rfl) (fun hg => yq (y_leq (ev_g rfl hg) ev_c)) rfl rfl ?_
  refine TL.op (yq (y_and (ev_t rfl) (fun hq => (ev_g rfl hq)))) rfl rfl rfl ?_
  refine TL.op (yq (y_move (ev_t rfl))) rfl rfl rfl ?_
  refine TL.opw (w_t rfl rfl rfl) (fun hg => yq (y_fa (fa_55_0 g0_0) (ev_t rfl))) rfl rfl ?_
  refine TL.opw (w_t rfl rfl rfl) (fun hg => yq (y_ldb 0 (ev_g rfl hg) one_49 rfl rfl)) rfl rfl ?_
  refine TL.opw (w_t rfl rfl rfl) (fun hg => yq (y_len (ev_g rfl hg) Try.underlying49 (fun w hw => ((fun w hw => ((rii_arg hm) w hw).1) w hw).ln))) rfl rfl ?_
  refine TL.opw (w_t rfl rfl rfl) (fun hg => yq (y_move (ev_t rfl))) rfl rfl ?_
  refine TL.opw (w_t rfl rfl rfl) (fun hg => y_call (vs := [(.int .i64 (m.length : Int)), vreqs]) (v := (.bool (F_impl_areBelow (m.length : Int) reqs))) en_122 ⟨(ev_g rfl hg), (ev_g rfl hg), trivial⟩ (fun w hw => impl_areBelow_ok w (m.length : Int) vreqs reqs ((ri_arg hreqs) w hw) (by have hgf := (and_imp (and_t hg) (fun h => (and_imp (and_t h) (fun h => (isMetric_t h)) (fun h => (isConfig_t h)))) (fun h => (of_decide_eq_true h))); first | assumption | omega | (have hq := hgf.n6; omega) | (have hq := hgf.1.n6; omega) | grind) (by have hgf := (and_imp (and_t hg) (fun h => (and_imp (and_t h) (fun h => (isMetric_t h)) (fun h => (isConfig_t h)))) (fun h => (of_decide_eq_true h))); first | assumption | omega | (have hq := hgf.n6; omega) | (have hq := hgf.1.n6; omega) | grind))) rfl rfl ?_
  refine TL.op (yq (y_and (ev_t rfl) (fun hq => (ev_g rfl hq)))) rfl rfl rfl ?_
  refine TL.op (yq (y_assign (ev_t rfl))) rfl rfl rfl ?_
  refine TL.nil ?_
  refine TN.seq ?_
  refine TC.ret ?_
  subst hF
  exact TN.ret1 rfl (ev_t rfl) (fun w' hw => ⟨rfl, Hp.sublist hw (List.nil_sublist _)⟩)

end Go.Proofs.Ytcmhgkcifejgcaa
namespace Go.Proofs.Ytcmhgkcifejgcaa
set_option linter.unusedVariables false
set_option linter.unusedSimpArgs false
open Go Go.RowKit
set_option linter.unusedVariables false

set_option maxRecDepth 4000 in
set_option maxHeartbeats 1000000 in
theorem spec_l6Start_ok (w : World) (vm : Value) (um : List Value) (m : List (List Int)) (hm : RII w vm um m) (vstart : Value) (start : List Int) (hstart : RI w vstart start) (vreqs : Value) (reqs : List Int) (hreqs : RI w vreqs reqs)  :
    Calls Try.prog 97 ([(.agg #[vm]), vstart, vreqs] : List Value).toArray w (Ret (.bool (F_spec_l6Start m start reqs)) (Hp w [])) := by
  obtain ⟨rz, hF⟩ : ∃ rz, (F_spec_l6Start m start reqs) = rz := ⟨_, rfl⟩
  rw [hF]
  unfold F_spec_l6Start at hF
  have hlen_m := argT_len hm
  have hlen_start := arg_len hstart
  have hlen_reqs := arg_len hreqs
  refine calls_tc Try.func97 rfl rfl rfl ?_
  change TC _ _ _ _ (Hp w []) [(0, (.agg #[vm])), (1, vstart), (2, vreqs)]
  refine TC.seq ?_
  refine TC.region ?_
  refine TL.box (ev_t rfl) rfl (fun g0_0 => ?_)
  refine TL.op (yq (y_assign ev_c)) rfl rfl rfl ?_
  refine TL.nil ?_
  refine TN.seq ?_
  refine TC.seq ?_
  refine TC.region ?_
  refine TL.op (yq (y_ldagg (cs := [vm]) 0 (ev_t rfl) agg_55 rfl)) rfl rfl rfl ?_
  refine TL.op (y_call (vs := [(.agg #[vm])]) (v := (.bool (F_spec_l6Good m))) en_88 ⟨(ev_t rfl), trivial⟩ (fun w hw => spec_l6Good_ok w vm um m ((rii_arg hm) w hw))) rfl rfl rfl ?_
  refine TL.op (yq (y_move (ev_t rfl))) rfl rfl rfl ?_
  refine TL.opw (w_t rfl rfl rfl) (fun hg => yq (y_fa (fa_55_0 g0_0) (ev_t rfl))) rfl rfl ?_
  refine TL.opw (w_t rfl rfl rfl) (fun hg => yq (y_ldb 0 (ev_g rfl hg) one_49 rfl rfl)) rfl rfl ?_
  refine TL.opw (w_t rfl rfl rfl) (fun hg => yq (y_len (ev_g rfl hg) Try.underlying49 (fun w hw => ((fun w hw => ((rii_arg hm) w hw).1) w hw).ln))) rfl rfl ?_
  refine TL.opw (w_t rfl rfl rfl) (fun hg => yq (y_move (ev_t rfl))) rfl rfl ?_
  refine TL.opw (w_t rfl rfl rfl) (fun hg => y_call (vs := [(.int .i64 (m.length : Int)), vstart]) (v := (.bool (F_spec_l6Config (m.length : Int) start))) en_135 ⟨(ev_g rfl hg), (ev_g rfl hg), trivial⟩ (fun w hw => spec_l6Config_ok w (m.length : Int) vstart start ((ri_arg hstart) w hw) (by have hgf := (l6Good_t hg); first | assumption | omega | (have hq := hgf.n6; omega) | (have hq := hgf.1.n6; omega) | grind) (by have hgf := (l6Good_t hg); first | assumption | omega | (have hq := hgf.n6; omega) | (have hq := hgf.1.n6; omega) | grind))) rfl rfl ?_
  refine TL.op (yq (y_and (ev_t rfl) (fun hq => (ev_g rfl hq)))) rfl rfl rfl ?_
  refine TL.op (yq (y_move (ev_t rfl))) rfl rfl rfl ?_
  refine TL.opw (w_t rfl rfl rfl) (fun hg => yq (y_move (ev_t rfl))) rfl rfl ?_
  refine TL.opw (w_t rfl rfl rfl) (fun hg => yq (y_len (ev_g rfl hg) Try.underlying34 (fun w hw => ((ri_arg hreqs) w hw).ln))) rfl rfl ?_
  refine TL.opw (w_t rfl rfl rfl) (fun hg => yq (y_leq (ev_g rfl hg) ev_c)) rfl rfl ?_
  refine TL.op (yq (y_and (ev_t rfl) (fun hq => (ev_g rfl hq)))) rfl rfl rfl ?_
  refine TL.op (yq (y_move (ev_t rfl))) rfl rfl rfl ?_
  refine TL.opw (w_t rfl rfl rfl) (fun hg => yq (y_fa (fa_55_0 g0_0) (ev_t rfl))) rfl rfl ?_
  refine TL.opw (w_t rfl rfl rfl) (fun hg => yq (y_ldb 0 (ev_g rfl hg) one_49 rfl rfl)) rfl rfl ?_
  refine TL.opw (w_t rfl rfl rfl) (fun hg => yq (y_len (ev_g rfl hg) Try.underlying49 (fun w hw => ((fun w hw => ((rii_arg hm) w hw).1) w hw).ln))) rfl rfl ?_
  refine TL.opw (w_t rfl rfl rfl) (fun hg => yq (y_move (ev_t rfl))) rfl rfl ?_
  refine TL.opw (w_t rfl rfl rfl) (fun hg => y_call (vs := [(.int .i64 (m.length : Int)), vreqs]) (v := (.bool (F_spec_l6List (m.length : Int) reqs))) en_136 ⟨(ev_g rfl hg), (ev_g rfl hg), trivial⟩ (fun w hw => spec_l6List_ok w (m.length : Int) vreqs reqs ((ri_arg hreqs) w hw) (by have hgf := (and_imp (and_t hg) (fun h => (and_imp (and_t h) (fun h => (l6Good_t h)) (fun h => (l6Config_t h)))) (fun h => (of_decide_eq_true h))); first | assumption | omega | (have hq := hgf.n6; omega) | (have hq := hgf.1.n6; omega) | grind) (by have hgf := (and_imp (and_t hg) (fun h => (and_imp (and_t h) (fun h => (l6Good_t h)) (fun h => (l6Config_t h)))) (fun h => (of_decide_eq_true h))); first | assumption | omega | (have hq := hgf.n6; omega) | (have hq := hgf.1.n6; omega) | grind))) rfl rfl ?_
  refine TL.op (yq (y_and (ev_t rfl) (fun hq => (ev_g rfl hq)))) rfl rfl rfl ?_
  refine TL.op (yq (y_assign (ev_t rfl))) rfl rfl rfl ?_
  refine TL.nil ?_
  refine TN.seq ?_
  refine TC.ret ?_
  subst hF
  exact TN.ret1 rfl (ev_t rfl) (fun w' hw => ⟨rfl, Hp.sublist hw (List.nil_sublist _)⟩)

set_option maxRecDepth 4000 in
set_option maxHeartbeats 1000000 in
theorem impl_flowOf_ok (w : World) (vm : Value) (um : List Value) (m : List (List Int)) (hm : RII w vm um m) (va : Value) (a : List Int) (ha : RI w va a) (vreqs : Value) (reqs : List Int) (hreqs : RI w vreqs reqs) (hp0 : Sv m a reqs) :
    Calls Try.prog 102 ([(.agg #[vm]), va, vreqs] : List Value).toArray w (fun e w' => ∃ i : Nat × Value × List Value, e = .returned (.pointer (some ⟨i.1, 0, none⟩)) ∧ Hp w [.blk i.1 106 [.int .i64 ((F_impl_flowOf m a reqs).1), i.2.1], tabI 34 3 i.2.1 i.2.2 ((F_impl_flowOf m a reqs).2)] w') := by
  obtain ⟨rz, hF⟩ : ∃ rz, (F_impl_flowOf m a reqs) = rz := ⟨_, rfl⟩
  rw [hF]
  unfold F_impl_flowOf at hF
  have hal := concat_len a reqs
  have htt := total_two a reqs
  have hTab := hp0.tab
  have hr60 := hp0.r60
  have hn3 := hp0.cf.n3
  have hlen_m := argT_len hm
  have hlen_a := arg_len ha
  have hlen_reqs := arg_len hreqs
  refine calls_tc Try.func102 rfl rfl rfl ?_
  change TC _ _ _ _ (Hp w []) [(0, (.agg #[vm])), (1, va), (2, vreqs)]
  refine TC.seq ?_
  refine TC.region ?_
  refine TL.box (ev_t rfl) rfl (fun g0_0 => ?_)
  refine TL.op (yq (y_assign ev_c)) rfl rfl rfl ?_
  refine TL.nil ?_
  refine TN.seq ?_
  refine TC.seq ?_
  refine TC.region ?_
  refine TL.op (yq (y_move (ev_t rfl))) rfl rfl rfl ?_
  refine TL.op (yq (y_len (ev_t rfl) Try.underlying34 (fun w hw => ((ri_arg ha) w hw).ln))) rfl rfl rfl ?_
  refine TL.op (yq (y_bldF (ev_t rfl) bd_106_f)) rfl rfl rfl ?_
  refine TL.box (ev_t rfl) rfl (fun g1_3 => ?_)
  refine TL.op (yq (y_assign (ev_t rfl))) rfl rfl rfl ?_
  refine TL.nil ?_
  refine TN.seq ?_
  refine TC.seq ?_
  refine TC.region ?_
  refine TL.op (yq (y_move (ev_t rfl))) rfl rfl rfl ?_
  refine TL.op (yq (y_move (ev_t rfl))) rfl rfl rfl ?_
  refine TL.build2 slT_49 (ev_t rfl) (ev_t rfl) (fun w hw => ((ri_arg ha) w hw).ln) (fun w hw => ((ri_arg hreqs) w hw).ln) rfl (fun v2_2 => ?_)
  refine TL.callr (ι := Value) (vs := [v2_2]) (fun i => i) (fun i => [rowI 3 i (F_slices_Concat_Sint_int ([a, reqs]))]) en_140 ⟨(ev_t rfl), trivial⟩ rfl (fun w hw => slices_Concat_Sint_int_ok w v2_2 ([va, vreqs]) ([a, reqs]) ((rii_two 0 rfl (ri_arg ha) (ri_arg hreqs)) w hw) (by first | assumption | omega | grind)) (fun r2_3 => ?_)
  refine TL.op (yq (y_assign (ev_t rfl))) rfl rfl rfl ?_
  refine TL.nil ?_
  refine TN.seq ?_
  refine TC.seq ?_
  refine TC.seq ?_
  refine TC.region ?_
  refine TL.op (yq (y_move (ev_t rfl))) rfl rfl rfl ?_
  refine TL.op (yq (y_len (ev_t rfl) Try.underlying34 (fun w hw => ((ri_arg hreqs) w hw).ln))) rfl rfl rfl ?_
  refine TL.op (yq (y_move ev_c)) rfl rfl rfl ?_
  refine TL.nil ?_
  refine TN.seq ?_
  refine TC.block ?_
  refine TC.cls (fun w hw => hw.nilTab 34 3) ?_
  obtain ⟨c63, hc64⟩ : ∃ c, F_impl_flowOf_L1 m a reqs ((reqs.length - 0) + 1) (0, ([])) = c := ⟨_, rfl⟩
  rw [hc64] at hF
  refine TC.loop (ι := Nat × Nat × List (List Int) × Value × List Value) (fun (fu1, k24_1, zg1_3_1_1, vzg1_3_1_1, uzg1_3_1_1) => [(1, va), (3, (.pointer (some ⟨g0_0, 0, none⟩))), (7, (.pointer (some ⟨g1_3, 0, none⟩))), (8, r2_3), (22, vreqs), (23, (.int .i64 (reqs.length : Int))), (24, (.int .i64 (k24_1 : Int)))]) (fun (fu1, k24_1, zg1_3_1_1, vzg1_3_1_1, uzg1_3_1_1) => Hp w [tabI 34 3 vzg1_3_1_1 uzg1_3_1_1 zg1_3_1_1, rowI 3 r2_3 (F_slices_Concat_Sint_int ([a, reqs])), .blk g1_3 106 [(.int .i64 (a.length : Int)), vzg1_3_1_1], .blk g0_0 55 [vm]]) (fun (fu1, k24_1, zg1_3_1_1, vzg1_3_1_1, uzg1_3_1_1) => (k24_1 ≤ reqs.length) ∧ (zg1_3_1_1.length = k24_1) ∧ reqs.length - k24_1 < fu1 ∧ F_impl_flowOf_L1 m a reqs fu1 (k24_1, zg1_3_1_1) = c63) (fun (fu1, k24_1, zg1_3_1_1, vzg1_3_1_1, uzg1_3_1_1) => fu1) ((reqs.length - 0) + 1, 0, [], (.slice none 0 0), []) ⟨(by first | omega | (simp [-List.getD_eq_getElem?_getD] <;> omega)), (by first | omega | (simp [-List.getD_eq_getElem?_getD] <;> omega)), (by omega), hc64⟩ ⟨rfl, rfl, rfl, rfl, rfl, rfl, rfl, trivial⟩ (fun w hw => Hp.sublist hw (.cons_cons _ (.cons_cons _ (.cons _ (.cons_cons _ (.cons_cons _ .slnil)))))) ?_
  rintro ⟨fu1, k24_1, zg1_3_1_1, vzg1_3_1_1, uzg1_3_1_1⟩ hJ1
  obtain ⟨hi1_0, hi1_1, hmu1, hL1⟩ : (k24_1 ≤ reqs.length) ∧ (zg1_3_1_1.length = k24_1) ∧ reqs.length - k24_1 < fu1 ∧ F_impl_flowOf_L1 m a reqs fu1 (k24_1, zg1_3_1_1) = c63 := hJ1
  change TC _ _ _ _ (Hp w [tabI 34 3 vzg1_3_1_1 uzg1_3_1_1 zg1_3_1_1, rowI 3 r2_3 (F_slices_Concat_Sint_int ([a, reqs])), .blk g1_3 106 [(.int .i64 (a.length : Int)), vzg1_3_1_1], .blk g0_0 55 [vm]]) [(1, va), (3, (.pointer (some ⟨g0_0, 0, none⟩))), (7, (.pointer (some ⟨g1_3, 0, none⟩))), (8, r2_3), (22, vreqs), (23, (.int .i64 (reqs.length : Int))), (24, (.int .i64 (k24_1 : Int)))]
  obtain ⟨mf1, rfl⟩ : ∃ m, fu1 = m + 1 := ⟨fu1 - 1, by omega⟩
  rw [F_impl_flowOf_L1_s] at hL1
  have hre := hp0.el k24_1
  have hfl := fun h => flow_ln a reqs (i := k24_1) h
  refine TC.seq ?_
  refine TC.region ?_
  refine TL.op (yq (y_lss (ev_t rfl) (ev_t rfl))) rfl rfl rfl ?_
  refine TL.nil ?_
  refine TN.seq ?_
  refine TC.seq ?_
  refine TC.cond (b := decide ((k24_1 : Int) < (reqs.length : Int))) (ev_t rfl) (fun h65 => ?_) (fun h65 => ?_)
  · rw [bif_pos h65] at hL1
    have q66 := (of_decide_eq_true h65)
    refine TC.skip ?_
    refine TN.seq ?_
    refine TC.seq ?_
    refine TC.block ?_
    refine TC.seq ?_
    refine TC.region ?_
    refine TL.op (yq (y_move (ev_t rfl))) rfl rfl rfl ?_
    have hb67 : k24_1 < reqs.length := (by first | omega | (simp only [List.length_set, List.length_append, List.length_cons, List.length_nil, List.length_replicate]; omega) | (rw [sortI_length]; simp only [List.length_cons, List.length_nil]; omega))
    refine TL.op (yq (y_idx (k := k24_1) (ev_t rfl) (ev_t rfl) (by first | omega | simp) slT_34 (ri_arg hreqs) hb67)) rfl rfl rfl ?_
    refine TL.op (yq (y_ldi (ev_t rfl) one_3 (ri_arg hreqs) hb67)) rfl rfl rfl ?_
    refine TL.op (yq (y_assign (ev_t rfl))) rfl rfl rfl ?_
    refine TL.op (yq (y_assign (ev_t rfl))) rfl rfl rfl ?_
    refine TL.nil ?_
    refine TN.seq ?_
    refine TC.seq ?_
    refine TC.region ?_
    refine TL.buildI (zs := [.const (.int .i64 1073741824)]) (qs := [1073741824]) slT_34 rfl ⟨ev_c, trivial⟩ rfl (by decide) rfl (fun v6_0 => ?_)
    refine TL.op (yq (y_move (ev_t rfl))) rfl rfl rfl ?_
    refine TL.op (yq (y_len (ev_t rfl) Try.underlying34 (fun w hw => ((ri_row 2 rfl) w hw).ln))) rfl rfl rfl ?_
    refine TL.callr (ι := Value) (vs := [v6_0, (.int .i64 ((F_slices_Concat_Sint_int ([a, reqs])).length : Int))]) (fun i => i) (fun i => [rowI 3 i (F_slices_Repeat_Sint_int ([1073741824]) ((F_slices_Concat_Sint_int ([a, reqs])).length : Int))]) en_79 ⟨(ev_t rfl), (ev_t rfl), trivial⟩ rfl (fun w hw => slices_Repeat_Sint_int_ok w v6_0 ([1073741824]) ((ri_row 0 rfl) w hw) ((F_slices_Concat_Sint_int ([a, reqs])).length : Int) (by first | omega | rfl) (by first | omega | rfl) (by first | omega | rfl)) (fun r6_3 => ?_)
    refine TL.op (yq (y_assign (ev_t rfl))) rfl rfl rfl ?_
    refine TL.nil ?_
    refine TN.seq ?_
    refine TC.seq ?_
    refine TC.seq ?_
    refine TC.region ?_
    refine TL.op (yq (y_move (ev_t rfl))) rfl rfl rfl ?_
    refine TL.op (yq (y_move (ev_t rfl))) rfl rfl rfl ?_
    refine TL.op (yq (y_len (ev_t rfl) Try.underlying34 (fun w hw => ((ri_arg ha) w hw).ln))) rfl rfl rfl ?_
    refine TL.op (yq (y_move (ev_t rfl))) rfl rfl rfl ?_
    refine TL.op (yq (y_add (ev_t rfl) (ev_t rfl) (by unfold In64; constructor <;> omega))) rfl rfl rfl ?_
    have hs68 : 0 ≤ (a.length + k24_1) := (by first | omega | (simp only [List.length_set, List.length_append, List.length_cons, List.length_nil, List.length_replicate]; omega) | (rw [sortI_length]; simp only [List.length_cons, List.length_nil]; omega))
    have hs69 : (a.length + k24_1) ≤ (F_slices_Concat_Sint_int ([a, reqs])).length := (by first | omega | (simp only [List.length_set, List.length_append, List.length_cons, List.length_nil, List.length_replicate]; omega) | (rw [sortI_length]; simp only [List.length_cons, List.length_nil]; omega))
    refine TL.op (yq (y_slice_hi (ev_t rfl) (ev_t rfl) (hi := (a.length + k24_1)) (by omega) slT_34 (ri_row 3 rfl) hs69)) rfl rfl rfl ?_
    refine TL.op (yq (y_len (ev_t rfl) Try.underlying34 (fun w hw => ((fun w hw => ri_resl ((ri_row 3 rfl) w hw) hs68 hs69) w hw).ln))) rfl rfl rfl ?_
    refine TL.op (yq (y_move ev_c)) rfl rfl rfl ?_
    refine TL.nil ?_
    refine TN.seq ?_
    refine TC.block ?_
    obtain ⟨c70, hc71⟩ : ∃ c, F_impl_flowOf_L2 m a reqs k24_1 ((((((F_slices_Concat_Sint_int ([a, reqs])).take (a.length + k24_1)).drop 0).length) - 0) + 1) (0, (F_slices_Repeat_Sint_int ([1073741824]) ((F_slices_Concat_Sint_int ([a, reqs])).length : Int))) = c := ⟨_, rfl⟩
    rw [hc71] at hL1
    refine TC.loop (ι := Nat × Nat × List Int) (fun (fu2, k40_2, m0_2) => [(1, va), (3, (.pointer (some ⟨g0_0, 0, none⟩))), (7, (.pointer (some ⟨g1_3, 0, none⟩))), (8, r2_3), (10, (.int .i64 (reqs.getD k24_1 0))), (11, r6_3), (22, vreqs), (23, (.int .i64 (reqs.length : Int))), (24, (.int .i64 (k24_1 : Int))), (38, (resl r2_3 0 (a.length + k24_1) 1)), (39, (.int .i64 ((((F_slices_Concat_Sint_int ([a, reqs])).take (a.length + k24_1)).drop 0).length : Int))), (40, (.int .i64 (k40_2 : Int)))]) (fun (fu2, k40_2, m0_2) => Hp w [rowI 3 r6_3 m0_2, tabI 34 3 vzg1_3_1_1 uzg1_3_1_1 zg1_3_1_1, rowI 3 r2_3 (F_slices_Concat_Sint_int ([a, reqs])), .blk g1_3 106 [(.int .i64 (a.length : Int)), vzg1_3_1_1], .blk g0_0 55 [vm]]) (fun (fu2, k40_2, m0_2) => (k40_2 ≤ ((((F_slices_Concat_Sint_int ([a, reqs])).take (a.length + k24_1)).drop 0).length)) ∧ (m0_2.length = a.length + reqs.length) ∧ ((((F_slices_Concat_Sint_int ([a, reqs])).take (a.length + k24_1)).drop 0).length) - k40_2 < fu2 ∧ F_impl_flowOf_L2 m a reqs k24_1 fu2 (k40_2, m0_2) = c70) (fun (fu2, k40_2, m0_2) => fu2) ((((((F_slices_Concat_Sint_int ([a, reqs])).take (a.length + k24_1)).drop 0).length) - 0) + 1, 0, (F_slices_Repeat_Sint_int ([1073741824]) ((F_slices_Concat_Sint_int ([a, reqs])).length : Int))) ⟨(by first | omega | (simp [-List.getD_eq_getElem?_getD] <;> omega)), (by rw [repeat_eq _ _ (by omega) (by omega)]; simp; omega), (by omega), hc71⟩ ⟨rfl, rfl, rfl, rfl, rfl, rfl, rfl, rfl, rfl, rfl, rfl, rfl, trivial⟩ (fun w hw => Hp.sublist hw (.cons_cons _ (.cons _ (.cons_cons _ (.cons_cons _ (.cons_cons _ (.cons_cons _ .slnil))))))) ?_
    rintro ⟨fu2, k40_2, m0_2⟩ hJ2
    obtain ⟨hi2_0, hi2_1, hmu2, hL2⟩ : (k40_2 ≤ ((((F_slices_Concat_Sint_int ([a, reqs])).take (a.length + k24_1)).drop 0).length)) ∧ (m0_2.length = a.length + reqs.length) ∧ ((((F_slices_Concat_Sint_int ([a, reqs])).take (a.length + k24_1)).drop 0).length) - k40_2 < fu2 ∧ F_impl_flowOf_L2 m a reqs k24_1 fu2 (k40_2, m0_2) = c70 := hJ2
    change TC _ _ _ _ (Hp w [rowI 3 r6_3 m0_2, tabI 34 3 vzg1_3_1_1 uzg1_3_1_1 zg1_3_1_1, rowI 3 r2_3 (F_slices_Concat_Sint_int ([a, reqs])), .blk g1_3 106 [(.int .i64 (a.length : Int)), vzg1_3_1_1], .blk g0_0 55 [vm]]) [(1, va), (3, (.pointer (some ⟨g0_0, 0, none⟩))), (7, (.pointer (some ⟨g1_3, 0, none⟩))), (8, r2_3), (10, (.int .i64 (reqs.getD k24_1 0))), (11, r6_3), (22, vreqs), (23, (.int .i64 (reqs.length : Int))), (24, (.int .i64 (k24_1 : Int))), (38, (resl r2_3 0 (a.length + k24_1) 1)), (39, (.int .i64 ((((F_slices_Concat_Sint_int ([a, reqs])).take (a.length + k24_1)).drop 0).length : Int))), (40, (.int .i64 (k40_2 : Int)))]
    obtain ⟨mf2, rfl⟩ : ∃ m, fu2 = m + 1 := ⟨fu2 - 1, by omega⟩
    rw [F_impl_flowOf_L2_s] at hL2
    have hfa := hfl (by omega)
    have hpe := fun h => flow_pt hp0 (i := k24_1) (by omega) k40_2 h
    have hrw := hTab.rows ((((F_slices_Concat_Sint_int ([a, reqs])).take (a.length + k24_1)).drop 0).getD k40_2 0).toNat
    refine TC.seq ?_
    refine TC.region ?_
    refine TL.op (yq (y_lss (ev_t rfl) (ev_t rfl))) rfl rfl rfl ?_
    refine TL.nil ?_
    refine TN.seq ?_
    refine TC.seq ?_
    refine TC.cond (b := decide ((k40_2 : Int) < ((((F_slices_Concat_Sint_int ([a, reqs])).take (a.length + k24_1)).drop 0).length : Int))) (ev_t rfl) (fun h72 => ?_) (fun h72 => ?_)
    · rw [bif_pos h72] at hL2
      have q73 := (of_decide_eq_true h72)
      refine TC.skip ?_
      refine TN.seq ?_
      refine TC.seq ?_
      refine TC.block ?_
      refine TC.seq ?_
      refine TC.region ?_
      refine TL.op (yq (y_move (ev_t rfl))) rfl rfl rfl ?_
      have hb74 : k40_2 < (((F_slices_Concat_Sint_int ([a, reqs])).take (a.length + k24_1)).drop 0).length := (by first | omega | (simp only [List.length_set, List.length_append, List.length_cons, List.length_nil, List.length_replicate]; omega) | (rw [sortI_length]; simp only [List.length_cons, List.length_nil]; omega))
      refine TL.op (yq (y_idx (k := k40_2) (ev_t rfl) (ev_t rfl) (by first | omega | simp) slT_34 (fun w hw => ri_resl ((ri_row 2 rfl) w hw) hs68 hs69) hb74)) rfl rfl rfl ?_
      refine TL.op (yq (y_ldi (ev_t rfl) one_3 (fun w hw => ri_resl ((ri_row 2 rfl) w hw) hs68 hs69) hb74)) rfl rfl rfl ?_
      refine TL.op (yq (y_assign (ev_t rfl))) rfl rfl rfl ?_
      refine TL.op (yq (y_assign (ev_t rfl))) rfl rfl rfl ?_
      refine TL.nil ?_
      refine TN.seq ?_
      refine TC.region ?_
      refine TL.op (yq (y_move (ev_t rfl))) rfl rfl rfl ?_
      refine TL.op (yq (y_move (ev_t rfl))) rfl rfl rfl ?_
      refine TL.op (yq (y_fa (fa_55_0 g0_0) (ev_t rfl))) rfl rfl rfl ?_
      refine TL.op (yq (y_ldb 4 (ev_t rfl) one_49 rfl rfl)) rfl rfl rfl ?_
      refine TL.op (yq (y_move (ev_t rfl))) rfl rfl rfl ?_
      have hb75 : (((((F_slices_Concat_Sint_int ([a, reqs])).take (a.length + k24_1)).drop 0).getD k40_2 0)).toNat < m.length := (by first | omega | (simp only [List.length_set, List.length_append, List.length_cons, List.length_nil, List.length_replicate]; omega) | (rw [sortI_length]; simp only [List.length_cons, List.length_nil]; omega))
      refine TL.op (yq (y_idx (k := (((((F_slices_Concat_Sint_int ([a, reqs])).take (a.length + k24_1)).drop 0).getD k40_2 0)).toNat) (ev_t rfl) (ev_t rfl) (by first | omega | simp) slT_49 (fun w hw => ((rii_arg hm) w hw).1) hb75)) rfl rfl rfl ?_
      have ha76 := hm.row (i := (((((F_slices_Concat_Sint_int ([a, reqs])).take (a.length + k24_1)).drop 0).getD k40_2 0)).toNat) hb75
      refine TL.op (yq (y_ldA (ev_t rfl) one_34 (rii_arg hm) hb75)) rfl rfl rfl ?_
      refine TL.op (yq (y_move (ev_t rfl))) rfl rfl rfl ?_
      have hb77 : ((reqs.getD k24_1 0)).toNat < (m.getD ((((((F_slices_Concat_Sint_int ([a, reqs])).take (a.length + k24_1)).drop 0).getD k40_2 0)).toNat) []).length := (by first | omega | (simp only [List.length_set, List.length_append, List.length_cons, List.length_nil, List.length_replicate]; omega) | (rw [sortI_length]; simp only [List.length_cons, List.length_nil]; omega))
      refine TL.op (yq (y_idx (k := ((reqs.getD k24_1 0)).toNat) (ev_t rfl) (ev_t rfl) (by first | omega | simp) slT_34 (ri_arg ha76) hb77)) rfl rfl rfl ?_
      refine TL.op (yq (y_ldi (ev_t rfl) one_3 (ri_arg ha76) hb77)) rfl rfl rfl ?_
      have hb78 : k40_2 < m0_2.length := (by first | omega | (simp only [List.length_set, List.length_append, List.length_cons, List.length_nil, List.length_replicate]; omega) | (rw [sortI_length]; simp only [List.length_cons, List.length_nil]; omega))
      refine TL.op (yq (y_idx (k := k40_2) (ev_t rfl) (ev_t rfl) (by first | omega | simp) slT_34 (ri_row 0 rfl) hb78)) rfl rfl rfl ?_
      refine TL.storeI 0 (ev_t rfl) (ev_t rfl) one_3 rfl hb78 ?_
      refine TL.nil ?_
      refine TN.blockN ?_
      refine TN.seq ?_
      refine TC.region ?_
      refine TL.op (yq (y_add (ev_t rfl) ev_c (by unfold In64; constructor <;> omega))) rfl rfl rfl ?_
      refine TL.op (yq (y_move (ev_t rfl))) rfl rfl rfl ?_
      refine TL.nil ?_
      exact TN.hand (mf2, (k40_2 + 1), (m0_2.set k40_2 ((m.getD ((((((F_slices_Concat_Sint_int ([a, reqs])).take (a.length + k24_1)).drop 0).getD k40_2 0)).toNat) []).getD (((reqs.getD k24_1 0)).toNat) 0))) ⟨(by first | omega | (simp [-List.getD_eq_getElem?_getD] <;> omega)), (by simp only [List.length_set]; exact hi2_1), (by omega), hL2⟩ (Nat.lt_succ_self _) ⟨rfl, rfl, rfl, rfl, rfl, rfl, rfl, rfl, rfl, rfl, rfl, rfl, trivial⟩ (fun w hw => hw)
    · rw [bif_neg h72] at hL2
      have q73 := (of_decide_eq_false h72)
      refine TC.exit ?_
      refine TN.thenE ?_
      refine TN.thenE ?_
      rw [← hL2, elim_next] at hL1
      try dsimp only at hL1
      refine TN.blockH ?_
      refine TN.seq ?_
      refine TC.region ?_
      refine TL.op (yq (y_move (ev_t rfl))) rfl rfl rfl ?_
      refine TL.op (yq (y_move (ev_t rfl))) rfl rfl rfl ?_
      refine TL.op (yq (y_nilp (ev_t rfl))) rfl rfl rfl ?_
      refine TL.op (yq (y_fa (fa_106_1 g1_3) (ev_t rfl))) rfl rfl rfl ?_
      refine TL.op (yq (y_ldb 3 (ev_t rfl) one_49 rfl rfl)) rfl rfl rfl ?_
      refine TL.op (yq (y_move (ev_t rfl))) rfl rfl rfl ?_
      refine TL.buildU slT_49 (ev_t rfl) (fun w hw => ((ri_row 0 rfl) w hw).ln) rfl (fun v12_6 => ?_)
      refine TL.appendT 2 1 rfl (ev_t rfl) (ev_t rfl) rfl rfl slT_49 (rd_row 0 rfl) (by first | omega | (simp [-List.getD_eq_getElem?_getD] <;> omega)) rfl (fun v12_7 => ?_)
      refine TL.op (yq (y_nilp (ev_t rfl))) rfl rfl rfl ?_
      refine TL.op (yq (y_fa (fa_106_1 g1_3) (ev_t rfl))) rfl rfl rfl ?_
      refine TL.storeB 4 (ev_t rfl) (ev_t rfl) one_49 rfl (by first | decide | simp) (fun w hw => (ln_one ((fun w hw => ((rii_tab 2 rfl) w hw).1) w hw).ln)) ?_
      refine TL.nil ?_
      refine TN.blockN ?_
      refine TN.seq ?_
      refine TC.region ?_
      refine TL.op (yq (y_add (ev_t rfl) ev_c (by unfold In64; constructor <;> omega))) rfl rfl rfl ?_
      refine TL.op (yq (y_move (ev_t rfl))) rfl rfl rfl ?_
      refine TL.nil ?_
      exact TN.hand (mf1, (k24_1 + 1), (zg1_3_1_1 ++ [m0_2]), v12_7, (uzg1_3_1_1 ++ [r6_3])) ⟨(by first | omega | (simp [-List.getD_eq_getElem?_getD] <;> omega)), (by first | omega | (simp [-List.getD_eq_getElem?_getD] <;> omega)), (by omega), hL1⟩ (Nat.lt_succ_self _) ⟨rfl, rfl, rfl, rfl, rfl, rfl, rfl, trivial⟩ (fun w hw => Hp.sublist hw (.cons _ (.cons _ (.cons_cons _ (.cons_cons _ (.cons_cons _ (.cons_cons _ .slnil)))))))
  · rw [bif_neg h65] at hL1
    have q66 := (of_decide_eq_false h65)
    refine TC.exit ?_
    refine TN.thenE ?_
    refine TN.thenE ?_
    rw [← hL1, elim_next] at hF
    try dsimp only at hF
    refine TN.blockH ?_
    refine TN.seq ?_
    refine TC.seq ?_
    refine TC.region ?_
    refine TL.op (yq (y_move (ev_t rfl))) rfl rfl rfl ?_
    refine TL.op (yq (y_assign (ev_t rfl))) rfl rfl rfl ?_
    refine TL.nil ?_
    refine TN.seq ?_
    refine TC.ret ?_
    subst hF
    exact TN.ret1 rfl (ev_t rfl) (fun w' hw => ⟨(g1_3, vzg1_3_1_1, uzg1_3_1_1), rfl, Hp.picks [2, 0] (by decide) rfl hw⟩)

set_option maxRecDepth 4000 in
set_option maxHeartbeats 1000000 in
theorem spec_l7Point_ok (w : World) (va : Value) (a : List Int) (ha : RI w va a) (vreqs : Value) (reqs : List Int) (hreqs : RI w vreqs reqs) (l : Int) (hp0 : 0 ≤ l) (hp1 : l < a.length + reqs.length) (hp2 : a.length ≤ 3) (hp3 : reqs.length ≤ 60) :
    Calls Try.prog 163 ([va, vreqs, (.int .i64 l)] : List Value).toArray w (Ret (.int .i64 (F_spec_l7Point a reqs l)) (Hp w [])) := by
  obtain ⟨rz, hF⟩ : ∃ rz, (F_spec_l7Point a reqs l) = rz := ⟨_, rfl⟩
  rw [hF]
  unfold F_spec_l7Point at hF
  have hlen_a := arg_len ha
  have hlen_reqs := arg_len hreqs
  refine calls_tc Try.func163 rfl rfl rfl ?_
  change TC _ _ _ _ (Hp w []) [(0, va), (1, vreqs), (2, (.int .i64 l))]
  refine TC.seq ?_
  refine TC.region ?_
  refine TL.op (yq (y_assign ev_c)) rfl rfl rfl ?_
  refine TL.nil ?_
  refine TN.seq ?_
  refine TC.seq ?_
  refine TC.seq ?_
  refine TC.region ?_
  refine TL.op (yq (y_move (ev_t rfl))) rfl rfl rfl ?_
  refine TL.op (yq (y_move (ev_t rfl))) rfl rfl rfl ?_
  refine TL.op (yq (y_len (ev_t rfl) Try.underlying34 (fun w hw => ((ri_arg ha) w hw).ln))) rfl rfl rfl ?_
  refine TL.op (yq (y_lss (ev_t rfl) (ev_t rfl))) rfl rfl rfl ?_
  refine TL.nil ?_
  refine TN.seq ?_
  refine TC.cond (b := decide (l < (a.length : Int))) (ev_t rfl) (fun h5 => ?_) (fun h5 => ?_)
  · rw [bif_pos h5] at hF
    have q6 := (of_decide_eq_true h5)
    refine TC.seq ?_
    refine TC.region ?_
    refine TL.op (yq (y_move (ev_t rfl))) rfl rfl rfl ?_
    refine TL.op (yq (y_move (ev_t rfl))) rfl rfl rfl ?_
    have hb7 : (l).toNat < a.length := (by first | omega | (simp only [List.length_set, List.length_append, List.length_cons, List.length_nil, List.length_replicate]; omega) | (rw [sortI_length]; simp only [List.length_cons, List.length_nil]; omega))
    refine TL.op (yq (y_idx (k := (l).toNat) (ev_t rfl) (ev_t rfl) (by first | omega | simp) slT_34 (ri_arg ha) hb7)) rfl rfl rfl ?_
    refine TL.op (yq (y_ldi (ev_t rfl) one_3 (ri_arg ha) hb7)) rfl rfl rfl ?_
    refine TL.op (yq (y_assign (ev_t rfl))) rfl rfl rfl ?_
    refine TL.nil ?_
    refine TN.seq ?_
    refine TC.ret ?_
    refine TN.thenR ?_
    subst hF
    exact TN.ret1 rfl (ev_t rfl) (fun w' hw => ⟨rfl, hw⟩)
  · rw [bif_neg h5] at hF
    have q6 := (of_decide_eq_false h5)
    refine TC.skip ?_
    refine TN.seq ?_
    refine TC.seq ?_
    refine TC.region ?_
    refine TL.op (yq (y_move (ev_t rfl))) rfl rfl rfl ?_
    refine TL.op (yq (y_move (ev_t rfl))) rfl rfl rfl ?_
    refine TL.op (yq (y_move (ev_t rfl))) rfl rfl rfl ?_
    refine TL.op (yq (y_len (ev_t rfl) Try.underlying34 (fun w hw => ((ri_arg ha) w hw).ln))) rfl rfl rfl ?_
    refine TL.op (yq (y_sub (ev_t rfl) (ev_t rfl) (by unfold In64; constructor <;> omega))) rfl rfl rfl ?_
    have hb8 : (l - (a.length : Int)).toNat < reqs.length := (by first | omega | (simp only [List.length_set, List.length_append, List.length_cons, List.length_nil, List.length_replicate]; omega) | (rw [sortI_length]; simp only [List.length_cons, List.length_nil]; omega))
    refine TL.op (yq (y_idx (k := (l - (a.length : Int)).toNat) (ev_t rfl) (ev_t rfl) (by first | omega | simp) slT_34 (ri_arg hreqs) hb8)) rfl rfl rfl ?_
    refine TL.op (yq (y_ldi (ev_t rfl) one_3 (ri_arg hreqs) hb8)) rfl rfl rfl ?_
    refine TL.op (yq (y_assign (ev_t rfl))) rfl rfl rfl ?_
    refine TL.nil ?_
    refine TN.seq ?_
    refine TC.ret ?_
    subst hF
    exact TN.ret1 rfl (ev_t rfl) (fun w' hw => ⟨rfl, hw⟩)

set_option maxRecDepth 4000 in
set_option maxHeartbeats 1000000 in
theorem spec_l7Gap_ok (w : World) (vm : Value) (um : List Value) (m : List (List Int)) (hm : RII w vm um m) (va : Value) (a : List Int) (ha : RI w va a) (vreqs : Value) (reqs : List Int) (hreqs : RI w vreqs reqs) (l : Int) (i : Int) (hp0 : Sv m a reqs) (hp1 : 0 ≤ l) (hp2 : l < a.length + reqs.length) (hp3 : 0 ≤ i) (hp4 : i < reqs.length) :
    Calls Try.prog 137 ([(.agg #[vm]), va, vreqs, (.int .i64 l), (.int .i64 i)] : List Value).toArray w (Ret (.int .i64 (F_spec_l7Gap m a reqs l i)) (Hp w [])) := by
  obtain ⟨rz, hF⟩ : ∃ rz, (F_spec_l7Gap m a reqs l i) = rz := ⟨_, rfl⟩
  rw [hF]
  unfold F_spec_l7Gap at hF
  have hTab := hp0.tab
  have hn3 := hp0.cf.n3
  have hr60 := hp0.r60
  have hpt : F_spec_l7Point a reqs l = (a ++ reqs).getD l.toNat 0 := by have := point_app a reqs l.toNat; rwa [Int.toNat_of_nonneg hp1] at this
  have hpe := app_el hp0.cf.el hp0.el l.toNat (by omega)
  have hre := hp0.el i.toNat (by omega)
  have hrw := hTab.rows (F_spec_l7Point a reqs l).toNat
  have hlen_m := argT_len hm
  have hlen_a := arg_len ha
  have hlen_reqs := arg_len hreqs
  refine calls_tc Try.func137 rfl rfl rfl ?_
  change TC _ _ _ _ (Hp w []) [(0, (.agg #[vm])), (1, va), (2, vreqs), (3, (.int .i64 l)), (4, (.int .i64 i))]
  refine TC.seq ?_
  refine TC.region ?_
  refine TL.box (ev_t rfl) rfl (fun g0_0 => ?_)
  refine TL.op (yq (y_assign ev_c)) rfl rfl rfl ?_
  refine TL.nil ?_
  refine TN.seq ?_
  refine TC.seq ?_
  refine TC.regionQ (by kernel_rfl) (by kernel_rfl) dr_hp ?_
  refine TQ.op (yq (y_fa (fa_55_0 g0_0) (ev_t rfl))) rfl rfl rfl ?_
  refine TQ.op (yq (y_ldb 0 (ev_t rfl) one_49 rfl rfl)) rfl rfl rfl ?_
  refine TQ.op (yq (y_move (ev_t rfl))) rfl rfl rfl ?_
  refine TQ.op (yq (y_move (ev_t rfl))) rfl rfl rfl ?_
  refine TQ.op (yq (y_move (ev_t rfl))) rfl rfl rfl ?_
  refine TQ.op (y_call (vs := [va, vreqs, (.int .i64 l)]) (v := (.int .i64 (F_spec_l7Point a reqs l))) en_163 ⟨(ev_t rfl), (ev_t rfl), (ev_t rfl), trivial⟩ (fun w hw => spec_l7Point_ok w va a ((ri_arg ha) w hw) vreqs reqs ((ri_arg hreqs) w hw) l (by first | assumption | omega | grind) (by first | assumption | omega | grind) (by first | assumption | omega | grind) (by first | assumption | omega | grind))) rfl rfl rfl ?_
  have hb5 : ((F_spec_l7Point a reqs l)).toNat < m.length := (by first | omega | (simp only [List.length_set, List.length_append, List.length_cons, List.length_nil, List.length_replicate]; omega) | (rw [sortI_length]; simp only [List.length_cons, List.length_nil]; omega))
  refine TQ.op (yq (y_idx (k := ((F_spec_l7Point a reqs l)).toNat) (ev_t rfl) (ev_t rfl) (by first | omega | simp) slT_49 (fun w hw => ((rii_arg hm) w hw).1) hb5)) rfl rfl rfl ?_
  have ha6 := hm.row (i := ((F_spec_l7Point a reqs l)).toNat) hb5
  refine TQ.op (yq (y_ldA (ev_t rfl) one_34 (rii_arg hm) hb5)) rfl rfl rfl ?_
  refine TQ.op (yq (y_move (ev_t rfl))) rfl rfl rfl ?_
  refine TQ.op (yq (y_move (ev_t rfl))) rfl rfl rfl ?_
  have hb7 : (i).toNat < reqs.length := (by first | omega | (simp only [List.length_set, List.length_append, List.length_cons, List.length_nil, List.length_replicate]; omega) | (rw [sortI_length]; simp only [List.length_cons, List.length_nil]; omega))
  refine TQ.op (yq (y_idx (k := (i).toNat) (ev_t rfl) (ev_t rfl) (by first | omega | simp) slT_34 (ri_arg hreqs) hb7)) rfl rfl rfl ?_
  refine TQ.op (yq (y_ldi (ev_t rfl) one_3 (ri_arg hreqs) hb7)) rfl rfl rfl ?_
  have hb8 : ((reqs.getD ((i).toNat) 0)).toNat < (m.getD (((F_spec_l7Point a reqs l)).toNat) []).length := (by first | omega | (simp only [List.length_set, List.length_append, List.length_cons, List.length_nil, List.length_replicate]; omega) | (rw [sortI_length]; simp only [List.length_cons, List.length_nil]; omega))
  refine TQ.op (yq (y_idx (k := ((reqs.getD ((i).toNat) 0)).toNat) (ev_t rfl) (ev_t rfl) (by first | omega | simp) slT_34 (ri_arg ha6) hb8)) rfl rfl rfl ?_
  refine TQ.op (yq (y_ldi (ev_t rfl) one_3 (ri_arg ha6) hb8)) rfl rfl rfl ?_
  refine TQ.op (yq (y_assign (ev_t rfl))) rfl rfl rfl ?_
  refine TQ.nil ?_
  refine TN.seq ?_
  refine TC.ret ?_
  subst hF
  exact TN.ret1 rfl (ev_t rfl) (fun w' hw => ⟨rfl, Hp.sublist hw (List.nil_sublist _)⟩)

set_option maxRecDepth 4000 in
set_option maxHeartbeats 1000000 in
theorem spec_l7Holders_ok (w : World) (many : Int) (vbefore : Value) (before : List Int) (hbefore : RI w vbefore before) (hp0 : 0 ≤ many) (hp1 : many ≤ 1000000) (hp2 : ∀ i, i < before.length → 0 ≤ before.getD i 0 ∧ before.getD i 0 < many) (hp3 : before.length ≤ 1000) :
    Calls Try.prog 164 ([(.int .i64 many), vbefore] : List Value).toArray w (fun e w' => ∃ i : Value, e = .returned i ∧ Hp w [rowI 3 i (F_spec_l7Holders many before)] w') := by
  obtain ⟨rz, hF⟩ : ∃ rz, (F_spec_l7Holders many before) = rz := ⟨_, rfl⟩
  rw [hF]
  unfold F_spec_l7Holders at hF
  have hlen_before := arg_len hbefore
  refine calls_tc Try.func164 rfl rfl rfl ?_
  change TC _ _ _ _ (Hp w []) [(0, (.int .i64 many)), (1, vbefore)]
  refine TC.seq ?_
  refine TC.region ?_
  refine TL.op (yq (y_assign ev_c)) rfl rfl rfl ?_
  refine TL.nil ?_
  refine TN.seq ?_
  refine TC.seq ?_
  refine TC.region ?_
  refine TL.op (yq (y_move (ev_t rfl))) rfl rfl rfl ?_
  refine TL.makeSlice (n := (many).toNat) (ev_t rfl) (ev_t rfl) (by omega) slT_34 rfl (by omega) (by unfold maxLen; omega) rfl (fun v1_1 => ?_)
  refine TL.cls (fun w hw => hw.zeros) ?_
  refine TL.op (yq (y_assign (ev_t rfl))) rfl rfl rfl ?_
  refine TL.nil ?_
  refine TN.seq ?_
  refine TC.seq ?_
  refine TC.seq ?_
  refine TC.region ?_
  refine TL.op (yq (y_assign ev_c)) rfl rfl rfl ?_
  refine TL.nil ?_
  refine TN.seq ?_
  refine TC.block ?_
  obtain ⟨c22, hc23⟩ : ∃ c, F_spec_l7Holders_L1 many ((((many).toNat) - 0) + 1) (0, (List.replicate ((many).toNat) (0 : Int))) = c := ⟨_, rfl⟩
  rw [hc23] at hF
  refine TC.loop (ι := Nat × Nat × List Int) (fun (fu1, l1, out1) => [(0, (.int .i64 many)), (1, vbefore), (5, v1_1), (6, (.int .i64 (l1 : Int)))]) (fun (fu1, l1, out1) => Hp w [rowI 3 v1_1 out1]) (fun (fu1, l1, out1) => (l1 ≤ ((many).toNat)) ∧ (out1.length = many.toNat) ∧ ((many).toNat) - l1 < fu1 ∧ F_spec_l7Holders_L1 many fu1 (l1, out1) = c22) (fun (fu1, l1, out1) => fu1) ((((many).toNat) - 0) + 1, 0, (List.replicate ((many).toNat) (0 : Int))) ⟨(by first | omega | (simp [-List.getD_eq_getElem?_getD] <;> omega)), (by first | omega | (simp [-List.getD_eq_getElem?_getD] <;> omega)), (by omega), hc23⟩ ⟨rfl, rfl, rfl, rfl, trivial⟩ (fun w hw => hw) ?_
  rintro ⟨fu1, l1, out1⟩ hJ1
  obtain ⟨hi1_0, hi1_1, hmu1, hL1⟩ : (l1 ≤ ((many).toNat)) ∧ (out1.length = many.toNat) ∧ ((many).toNat) - l1 < fu1 ∧ F_spec_l7Holders_L1 many fu1 (l1, out1) = c22 := hJ1
  change TC _ _ _ _ (Hp w [rowI 3 v1_1 out1]) [(0, (.int .i64 many)), (1, vbefore), (5, v1_1), (6, (.int .i64 (l1 : Int)))]
  obtain ⟨mf1, rfl⟩ : ∃ m, fu1 = m + 1 := ⟨fu1 - 1, by omega⟩
  rw [F_spec_l7Holders_L1_s] at hL1
  refine TC.seq ?_
  refine TC.seq ?_
  refine TC.region ?_
  refine TL.op (yq (y_move (ev_t rfl))) rfl rfl rfl ?_
  refine TL.op (yq (y_move (ev_t rfl))) rfl rfl rfl ?_
  refine TL.op (yq (y_lss (ev_t rfl) (ev_t rfl))) rfl rfl rfl ?_
  refine TL.nil ?_
  refine TN.seq ?_
  refine TC.cond (b := decide ((l1 : Int) < many)) (ev_t rfl) (fun h24 => ?_) (fun h24 => ?_)
  · rw [bif_pos h24] at hL1
    have q25 := (of_decide_eq_true h24)
    refine TC.skip ?_
    refine TN.seq ?_
    refine TC.seq ?_
    refine TC.block ?_
    refine TC.region ?_
    refine TL.op (yq (y_move (ev_t rfl))) rfl rfl rfl ?_
    refine TL.op (yq (y_move (ev_t rfl))) rfl rfl rfl ?_
    have hb26 : l1 < out1.length := (by first | omega | (simp only [List.length_set, List.length_append, List.length_cons, List.length_nil, List.length_replicate]; omega) | (rw [sortI_length]; simp only [List.length_cons, List.length_nil]; omega))
    refine TL.op (yq (y_idx (k := l1) (ev_t rfl) (ev_t rfl) (by first | omega | simp) slT_34 (ri_row 0 rfl) hb26)) rfl rfl rfl ?_
    refine TL.storeI 0 (ev_t rfl) ev_c one_3 rfl hb26 ?_
    refine TL.nil ?_
    refine TN.blockN ?_
    refine TN.seq ?_
    refine TC.region ?_
    refine TL.op (yq (y_move (ev_t rfl))) rfl rfl rfl ?_
    refine TL.op (yq (y_add (ev_t rfl) ev_c (by unfold In64; constructor <;> omega))) rfl rfl rfl ?_
    refine TL.op (yq (y_assign (ev_t rfl))) rfl rfl rfl ?_
    refine TL.nil ?_
    exact TN.hand (mf1, (l1 + 1), (out1.set l1 (-1))) ⟨(by first | omega | (simp [-List.getD_eq_getElem?_getD] <;> omega)), (by first | omega | (simp [-List.getD_eq_getElem?_getD] <;> omega)), (by omega), hL1⟩ (Nat.lt_succ_self _) ⟨rfl, rfl, rfl, rfl, trivial⟩ (fun w hw => hw)
  · rw [bif_neg h24] at hL1
    have q25 := (of_decide_eq_false h24)
    refine TC.exit ?_
    refine TN.thenE ?_
    refine TN.thenE ?_
    rw [← hL1, elim_next] at hF
    try dsimp only at hF
    refine TN.blockH ?_
    refine TN.seq ?_
    refine TC.seq ?_
    refine TC.seq ?_
    refine TC.region ?_
    refine TL.op (yq (y_assign ev_c)) rfl rfl rfl ?_
    refine TL.nil ?_
    refine TN.seq ?_
    refine TC.block ?_
    obtain ⟨c27, hc28⟩ : ∃ c, F_spec_l7Holders_L2 before ((before.length - 0) + 1) (0, out1) = c := ⟨_, rfl⟩
    rw [hc28] at hF
    refine TC.loop (ι := Nat × Nat × List Int) (fun (fu2, i2, out2) => [(1, vbefore), (5, v1_1), (7, (.int .i64 (i2 : Int)))]) (fun (fu2, i2, out2) => Hp w [rowI 3 v1_1 out2]) (fun (fu2, i2, out2) => (i2 ≤ before.length) ∧ (out2.length = many.toNat) ∧ before.length - i2 < fu2 ∧ F_spec_l7Holders_L2 before fu2 (i2, out2) = c27) (fun (fu2, i2, out2) => fu2) ((before.length - 0) + 1, 0, out1) ⟨(by first | omega | (simp [-List.getD_eq_getElem?_getD] <;> omega)), (by first | omega | (simp [-List.getD_eq_getElem?_getD] <;> omega)), (by omega), hc28⟩ ⟨rfl, rfl, rfl, trivial⟩ (fun w hw => hw) ?_
    rintro ⟨fu2, i2, out2⟩ hJ2
    obtain ⟨hi2_0, hi2_1, hmu2, hL2⟩ : (i2 ≤ before.length) ∧ (out2.length = many.toNat) ∧ before.length - i2 < fu2 ∧ F_spec_l7Holders_L2 before fu2 (i2, out2) = c27 := hJ2
    change TC _ _ _ _ (Hp w [rowI 3 v1_1 out2]) [(1, vbefore), (5, v1_1), (7, (.int .i64 (i2 : Int)))]
    obtain ⟨mf2, rfl⟩ : ∃ m, fu2 = m + 1 := ⟨fu2 - 1, by omega⟩
    rw [F_spec_l7Holders_L2_s] at hL2
    have hbe := hp2 i2
    refine TC.seq ?_
    refine TC.seq ?_
    refine TC.region ?_
    refine TL.op (yq (y_move (ev_t rfl))) rfl rfl rfl ?_
    refine TL.op (yq (y_move (ev_t rfl))) rfl rfl rfl ?_
    refine TL.op (yq (y_len (ev_t rfl) Try.underlying34 (fun w hw => ((ri_arg hbefore) w hw).ln))) rfl rfl rfl ?_
    refine TL.op (yq (y_lss (ev_t rfl) (ev_t rfl))) rfl rfl rfl ?_
    refine TL.nil ?_
    refine TN.seq ?_
    refine TC.cond (b := decide ((i2 : Int) < (before.length : Int))) (ev_t rfl) (fun h29 => ?_) (fun h29 => ?_)
    · rw [bif_pos h29] at hL2
      have q30 := (of_decide_eq_true h29)
      refine TC.skip ?_
      refine TN.seq ?_
      refine TC.seq ?_
      refine TC.block ?_
      refine TC.region ?_
      refine TL.op (yq (y_move (ev_t rfl))) rfl rfl rfl ?_
      refine TL.op (yq (y_move (ev_t rfl))) rfl rfl rfl ?_
      refine TL.op (yq (y_move (ev_t rfl))) rfl rfl rfl ?_
      have hb31 : i2 < before.length := (by first | omega | (simp only [List.length_set, List.length_append, List.length_cons, List.length_nil, List.length_replicate]; omega) | (rw [sortI_length]; simp only [List.length_cons, List.length_nil]; omega))
      refine TL.op (yq (y_idx (k := i2) (ev_t rfl) (ev_t rfl) (by first | omega | simp) slT_34 (ri_arg hbefore) hb31)) rfl rfl rfl ?_
      refine TL.op (yq (y_ldi (ev_t rfl) one_3 (ri_arg hbefore) hb31)) rfl rfl rfl ?_
      refine TL.op (yq (y_move (ev_t rfl))) rfl rfl rfl ?_
      have hb32 : ((before.getD i2 0)).toNat < out2.length := (by first | omega | (simp only [List.length_set, List.length_append, List.length_cons, List.length_nil, List.length_replicate]; omega) | (rw [sortI_length]; simp only [List.length_cons, List.length_nil]; omega))
      refine TL.op (yq (y_idx (k := ((before.getD i2 0)).toNat) (ev_t rfl) (ev_t rfl) (by first | omega | simp) slT_34 (ri_row 0 rfl) hb32)) rfl rfl rfl ?_
      refine TL.storeI 0 (ev_t rfl) (ev_t rfl) one_3 rfl hb32 ?_
      refine TL.nil ?_
      refine TN.blockN ?_
      refine TN.seq ?_
      refine TC.region ?_
      refine TL.op (yq (y_move (ev_t rfl))) rfl rfl rfl ?_
      refine TL.op (yq (y_add (ev_t rfl) ev_c (by unfold In64; constructor <;> omega))) rfl rfl rfl ?_
      refine TL.op (yq (y_assign (ev_t rfl))) rfl rfl rfl ?_
      refine TL.nil ?_
      exact TN.hand (mf2, (i2 + 1), (out2.set (((before.getD i2 0)).toNat) (i2 : Int))) ⟨(by first | omega | (simp [-List.getD_eq_getElem?_getD] <;> omega)), (by first | omega | (simp [-List.getD_eq_getElem?_getD] <;> omega)), (by omega), hL2⟩ (Nat.lt_succ_self _) ⟨rfl, rfl, rfl, trivial⟩ (fun w hw => hw)
    · rw [bif_neg h29] at hL2
      have q30 := (of_decide_eq_false h29)
      refine TC.exit ?_
      refine TN.thenE ?_
      refine TN.thenE ?_
      rw [← hL2, elim_next] at hF
      try dsimp only at hF
      refine TN.blockH ?_
      refine TN.seq ?_
      refine TC.seq ?_
      refine TC.region ?_
      refine TL.op (yq (y_move (ev_t rfl))) rfl rfl rfl ?_
      refine TL.op (yq (y_assign (ev_t rfl))) rfl rfl rfl ?_
      refine TL.nil ?_
      refine TN.seq ?_
      refine TC.ret ?_
      subst hF
      exact TN.ret1 rfl (ev_t rfl) (fun w' hw => ⟨v1_1, rfl, hw⟩)

end Go.Proofs.Ytcmhgkcifejgcaa
namespace Go.Proofs.Ytcmhgkcifejgcaa
set_option linter.unusedVariables false
set_option linter.unusedSimpArgs false
open Go Go.RowKit
set_option linter.unusedVariables false

set_option maxRecDepth 4000 in
set_option maxHeartbeats 1000000 in
theorem spec_l7Reach_ok (w : World) (vm : Value) (um : List Value) (m : List (List Int)) (hm : RII w vm um m) (va : Value) (a : List Int) (ha : RI w va a) (vreqs : Value) (reqs : List Int) (hreqs : RI w vreqs reqs) (vbefore : Value) (before : List Int) (hbefore : RI w vbefore before) (vholders : Value) (holders : List Int) (hholders : RI w vholders holders) (hp0 : ∃ p r, Rq m a reqs before holders p r) :
    Calls Try.prog 165 ([(.agg #[vm]), va, vreqs, vbefore, vholders] : List Value).toArray w (fun e w' => ∃ i : Value × Value, e = .returned (.tuple #[i.1, i.2]) ∧ Hp w [rowI 3 i.1 ((F_spec_l7Reach m a reqs before holders).1), rowI 3 i.2 ((F_spec_l7Reach m a reqs before holders).2)] w') := by
  obtain ⟨rz, hF⟩ : ∃ rz, (F_spec_l7Reach m a reqs before holders) = rz := ⟨_, rfl⟩
  rw [hF]
  unfold F_spec_l7Reach at hF
  obtain ⟨p, r, hq⟩ := hp0
  have hS := hq.sv
  have hn3 := hS.cf.n3
  have hr60 := hS.r60
  have hir := hq.ir
  have hlh := hq.pre.lh
  have hga := fun l i : Int => gap_any hS l i
  have hgi := fun k : Nat => hq.hold k
  have hlen_m := argT_len hm
  have hlen_a := arg_len ha
  have hlen_reqs := arg_len hreqs
  have hlen_before := arg_len hbefore
  have hlen_holders := arg_len hholders
  refine calls_tc Try.func165 rfl rfl rfl ?_
  change TC _ _ _ _ (Hp w []) [(0, (.agg #[vm])), (1, va), (2, vreqs), (3, vbefore), (4, vholders)]
  refine TC.seq ?_
  refine TC.region ?_
  refine TL.box (ev_t rfl) rfl (fun g0_0 => ?_)
  refine TL.op (yq (y_assign ev_c)) rfl rfl rfl ?_
  refine TL.op (yq (y_assign ev_c)) rfl rfl rfl ?_
  refine TL.nil ?_
  refine TN.seq ?_
  refine TC.seq ?_
  refine TC.region ?_
  refine TL.op (yq (y_move (ev_t rfl))) rfl rfl rfl ?_
  refine TL.op (yq (y_len (ev_t rfl) Try.underlying34 (fun w hw => ((ri_arg hbefore) w hw).ln))) rfl rfl rfl ?_
  refine TL.op (yq (y_assign (ev_t rfl))) rfl rfl rfl ?_
  refine TL.nil ?_
  refine TN.seq ?_
  refine TC.seq ?_
  refine TC.region ?_
  refine TL.op (yq (y_move (ev_t rfl))) rfl rfl rfl ?_
  refine TL.op (yq (y_add (ev_t rfl) ev_c (by unfold In64; constructor <;> omega))) rfl rfl rfl ?_
  refine TL.makeSlice (n := (before.length + 1)) (ev_t rfl) (ev_t rfl) (by omega) slT_34 rfl (by omega) (by unfold maxLen; omega) rfl (fun v2_2 => ?_)
  refine TL.cls (fun w hw => hw.zeros) ?_
  refine TL.op (yq (y_assign (ev_t rfl))) rfl rfl rfl ?_
  refine TL.nil ?_
  refine TN.seq ?_
  refine TC.seq ?_
  refine TC.region ?_
  refine TL.op (yq (y_move (ev_t rfl))) rfl rfl rfl ?_
  refine TL.op (yq (y_add (ev_t rfl) ev_c (by unfold In64; constructor <;> omega))) rfl rfl rfl ?_
  refine TL.makeSlice (n := (before.length + 1)) (ev_t rfl) (ev_t rfl) (by omega) slT_34 rfl (by omega) (by unfold maxLen; omega) rfl (fun v3_2 => ?_)
  refine TL.cls (fun w hw => hw.zeros) ?_
  refine TL.op (yq (y_assign (ev_t rfl))) rfl rfl rfl ?_
  refine TL.nil ?_
  refine TN.seq ?_
  refine TC.seq ?_
  refine TC.seq ?_
  refine TC.region ?_
  refine TL.op (yq (y_assign ev_c)) rfl rfl rfl ?_
  refine TL.nil ?_
  refine TN.seq ?_
  refine TC.block ?_
  obtain ⟨c82, hc83⟩ : ∃ c, F_spec_l7Reach_L1 before ((before.length - 0) + 1) (0, (List.replicate (before.length + 1) (0 : Int))) = c := ⟨_, rfl⟩
  rw [hc83] at hF
  refine TC.loop (ι := Nat × Nat × List Int) (fun (fu1, k15_1, m0_1) => [(1, va), (2, vreqs), (4, vholders), (5, (.pointer (some ⟨g0_0, 0, none⟩))), (12, (.int .i64 (before.length : Int))), (13, v2_2), (14, v3_2), (15, (.int .i64 (k15_1 : Int)))]) (fun (fu1, k15_1, m0_1) => Hp w [rowI 3 v3_2 (List.replicate (before.length + 1) (0 : Int)), rowI 3 v2_2 m0_1, .blk g0_0 55 [vm]]) (fun (fu1, k15_1, m0_1) => (k15_1 ≤ before.length) ∧ (m0_1.length = before.length + 1) ∧ (∀ x, x ≤ before.length → m0_1.getD x 0 = if x < k15_1 then 1099511627776 else 0) ∧ before.length - k15_1 < fu1 ∧ F_spec_l7Reach_L1 before fu1 (k15_1, m0_1) = c82) (fun (fu1, k15_1, m0_1) => fu1) ((before.length - 0) + 1, 0, (List.replicate (before.length + 1) (0 : Int))) ⟨(by first | omega | (simp [-List.getD_eq_getElem?_getD] <;> omega)), (by first | omega | (simp [-List.getD_eq_getElem?_getD] <;> omega)), (fun x hx => by rw [getD_rep _ _ _ _ (by omega)]; rfl), (by omega), hc83⟩ ⟨rfl, rfl, rfl, rfl, rfl, rfl, rfl, rfl, trivial⟩ (fun w hw => hw) ?_
  rintro ⟨fu1, k15_1, m0_1⟩ hJ1
  obtain ⟨hi1_0, hi1_1, hi1_2, hmu1, hL1⟩ : (k15_1 ≤ before.length) ∧ (m0_1.length = before.length + 1) ∧ (∀ x, x ≤ before.length → m0_1.getD x 0 = if x < k15_1 then 1099511627776 else 0) ∧ before.length - k15_1 < fu1 ∧ F_spec_l7Reach_L1 before fu1 (k15_1, m0_1) = c82 := hJ1
  change TC _ _ _ _ (Hp w [rowI 3 v3_2 (List.replicate (before.length + 1) (0 : Int)), rowI 3 v2_2 m0_1, .blk g0_0 55 [vm]]) [(1, va), (2, vreqs), (4, vholders), (5, (.pointer (some ⟨g0_0, 0, none⟩))), (12, (.int .i64 (before.length : Int))), (13, v2_2), (14, v3_2), (15, (.int .i64 (k15_1 : Int)))]
  obtain ⟨mf1, rfl⟩ : ∃ m, fu1 = m + 1 := ⟨fu1 - 1, by omega⟩
  rw [F_spec_l7Reach_L1_s] at hL1
  refine TC.seq ?_
  refine TC.seq ?_
  refine TC.region ?_
  refine TL.op (yq (y_move (ev_t rfl))) rfl rfl rfl ?_
  refine TL.op (yq (y_move (ev_t rfl))) rfl rfl rfl ?_
  refine TL.op (yq (y_lss (ev_t rfl) (ev_t rfl))) rfl rfl rfl ?_
  refine TL.nil ?_
  refine TN.seq ?_
  refine TC.cond (b := decide ((k15_1 : Int) < (before.length : Int))) (ev_t rfl) (fun h84 => ?_) (fun h84 => ?_)
  · rw [bif_pos h84] at hL1
    have q85 := (of_decide_eq_true h84)
    refine TC.skip ?_
    refine TN.seq ?_
    refine TC.seq ?_
    refine TC.block ?_
    refine TC.region ?_
    refine TL.op (yq (y_move (ev_t rfl))) rfl rfl rfl ?_
    refine TL.op (yq (y_move (ev_t rfl))) rfl rfl rfl ?_
    have hb86 : k15_1 < m0_1.length := (by first | omega | (simp only [List.length_set, List.length_append, List.length_cons, List.length_nil, List.length_replicate]; omega) | (rw [sortI_length]; simp only [List.length_cons, List.length_nil]; omega))
    refine TL.op (yq (y_idx (k := k15_1) (ev_t rfl) (ev_t rfl) (by first | omega | simp) slT_34 (ri_row 1 rfl) hb86)) rfl rfl rfl ?_
    refine TL.storeI 1 (ev_t rfl) ev_c one_3 rfl hb86 ?_
    refine TL.nil ?_
    refine TN.blockN ?_
    refine TN.seq ?_
    refine TC.region ?_
    refine TL.op (yq (y_move (ev_t rfl))) rfl rfl rfl ?_
    refine TL.op (yq (y_add (ev_t rfl) ev_c (by unfold In64; constructor <;> omega))) rfl rfl rfl ?_
    refine TL.op (yq (y_assign (ev_t rfl))) rfl rfl rfl ?_
    refine TL.nil ?_
    exact TN.hand (mf1, (k15_1 + 1), (m0_1.set k15_1 1099511627776)) ⟨(by first | omega | (simp [-List.getD_eq_getElem?_getD] <;> omega)), (by first | omega | (simp [-List.getD_eq_getElem?_getD] <;> omega)), (reach_fill hi1_1 hi1_2), (by omega), hL1⟩ (Nat.lt_succ_self _) ⟨rfl, rfl, rfl, rfl, rfl, rfl, rfl, rfl, trivial⟩ (fun w hw => hw)
  · rw [bif_neg h84] at hL1
    have q85 := (of_decide_eq_false h84)
    refine TC.exit ?_
    refine TN.thenE ?_
    refine TN.thenE ?_
    rw [← hL1, elim_next] at hF
    try dsimp only at hF
    have hk15 : k15_1 = before.length := by omega
    have hbi := hq.init hi1_1 (by rw [hk15] at hi1_2; exact hi1_2)
    refine TN.blockH ?_
    refine TN.seq ?_
    refine TC.seq ?_
    refine TC.seq ?_
    refine TC.region ?_
    refine TL.op (yq (y_assign ev_c)) rfl rfl rfl ?_
    refine TL.nil ?_
    refine TN.seq ?_
    refine TC.block ?_
    obtain ⟨c87, hc88⟩ : ∃ c, F_spec_l7Reach_L2 m a reqs before holders ((2 * (Th.lsum m0_1 + 1000000).toNat + (bif true then 1 else 0)) + 1) (true, (List.replicate (before.length + 1) (0 : Int)), m0_1) = c := ⟨_, rfl⟩
    rw [hc88] at hF
    refine TC.loop (ι := Nat × Bool × List Int × List Int) (fun (fu2, k16_2, m0_2, m1_2) => [(1, va), (2, vreqs), (4, vholders), (5, (.pointer (some ⟨g0_0, 0, none⟩))), (12, (.int .i64 (before.length : Int))), (13, v2_2), (14, v3_2), (16, (.bool k16_2))]) (fun (fu2, k16_2, m0_2, m1_2) => Hp w [rowI 3 v3_2 m0_2, rowI 3 v2_2 m1_2, .blk g0_0 55 [vm]]) (fun (fu2, k16_2, m0_2, m1_2) => (Th.Bf before.length a.length (fun l x => gap m a reqs l x) holders p m1_2 m0_2) ∧ 2 * (Th.lsum m1_2 + 1000000).toNat + (bif k16_2 then 1 else 0) < fu2 ∧ F_spec_l7Reach_L2 m a reqs before holders fu2 (k16_2, m0_2, m1_2) = c87) (fun (fu2, k16_2, m0_2, m1_2) => fu2) ((2 * (Th.lsum m0_1 + 1000000).toNat + (bif true then 1 else 0)) + 1, true, (List.replicate (before.length + 1) (0 : Int)), m0_1) ⟨hbi, (by omega), hc88⟩ ⟨rfl, rfl, rfl, rfl, rfl, rfl, rfl, rfl, trivial⟩ (fun w hw => hw) ?_
    rintro ⟨fu2, k16_2, m0_2, m1_2⟩ hJ2
    obtain ⟨hi2_0, hmu2, hL2⟩ : (Th.Bf before.length a.length (fun l x => gap m a reqs l x) holders p m1_2 m0_2) ∧ 2 * (Th.lsum m1_2 + 1000000).toNat + (bif k16_2 then 1 else 0) < fu2 ∧ F_spec_l7Reach_L2 m a reqs before holders fu2 (k16_2, m0_2, m1_2) = c87 := hJ2
    change TC _ _ _ _ (Hp w [rowI 3 v3_2 m0_2, rowI 3 v2_2 m1_2, .blk g0_0 55 [vm]]) [(1, va), (2, vreqs), (4, vholders), (5, (.pointer (some ⟨g0_0, 0, none⟩))), (12, (.int .i64 (before.length : Int))), (13, v2_2), (14, v3_2), (16, (.bool k16_2))]
    obtain ⟨mf2, rfl⟩ : ∃ m, fu2 = m + 1 := ⟨fu2 - 1, by omega⟩
    rw [F_spec_l7Reach_L2_s] at hL2
    refine TC.seq ?_
    refine TC.seq ?_
    refine TC.region ?_
    refine TL.op (yq (y_move (ev_t rfl))) rfl rfl rfl ?_
    refine TL.nil ?_
    refine TN.seq ?_
    refine TC.cond (b := k16_2) (ev_t rfl) (fun h89 => ?_) (fun h89 => ?_)
    · rw [bif_pos h89] at hL2
      have q90 := h89
      have hb1 : (bif k16_2 then 1 else 0 : Nat) = 1 := by rw [q90]; rfl
      refine TC.skip ?_
      refine TN.seq ?_
      refine TC.block ?_
      refine TC.seq ?_
      refine TC.region ?_
      refine TL.op (yq (y_assign ev_c)) rfl rfl rfl ?_
      refine TL.nil ?_
      refine TN.seq ?_
      refine TC.seq ?_
      refine TC.region ?_
      refine TL.op (yq (y_assign ev_c)) rfl rfl rfl ?_
      refine TL.nil ?_
      refine TN.seq ?_
      refine TC.block ?_
      obtain ⟨c91, hc92⟩ : ∃ c, F_spec_l7Reach_L3 m a reqs before holders ((before.length + 1 - 0) + 1) (false, 0, m0_2, m1_2) = c := ⟨_, rfl⟩
      rw [hc92] at hL2
      refine TC.loop (ι := Nat × Bool × Nat × List Int × List Int) (fun (fu3, k16_3, k17_3, m0_3, m1_3) => [(1, va), (2, vreqs), (4, vholders), (5, (.pointer (some ⟨g0_0, 0, none⟩))), (12, (.int .i64 (before.length : Int))), (13, v2_2), (14, v3_2), (16, (.bool k16_3)), (17, (.int .i64 (k17_3 : Int)))]) (fun (fu3, k16_3, k17_3, m0_3, m1_3) => Hp w [rowI 3 v3_2 m0_3, rowI 3 v2_2 m1_3, .blk g0_0 55 [vm]]) (fun (fu3, k16_3, k17_3, m0_3, m1_3) => (Th.Bf before.length a.length (fun l x => gap m a reqs l x) holders p m1_3 m0_3) ∧ (Th.Rnd k16_3 m1_3 m1_2) ∧ (k17_3 ≤ before.length + 1) ∧ before.length + 1 - k17_3 < fu3 ∧ F_spec_l7Reach_L3 m a reqs before holders fu3 (k16_3, k17_3, m0_3, m1_3) = c91) (fun (fu3, k16_3, k17_3, m0_3, m1_3) => fu3) ((before.length + 1 - 0) + 1, false, 0, m0_2, m1_2) ⟨hi2_0, (Th.Rnd.init _), (by first | omega | (simp [-List.getD_eq_getElem?_getD] <;> omega)), (by omega), hc92⟩ ⟨rfl, rfl, rfl, rfl, rfl, rfl, rfl, rfl, rfl, trivial⟩ (fun w hw => hw) ?_
      rintro ⟨fu3, k16_3, k17_3, m0_3, m1_3⟩ hJ3
      obtain ⟨hi3_0, hi3_1, hi3_2, hmu3, hL3⟩ : (Th.Bf before.length a.length (fun l x => gap m a reqs l x) holders p m1_3 m0_3) ∧ (Th.Rnd k16_3 m1_3 m1_2) ∧ (k17_3 ≤ before.length + 1) ∧ before.length + 1 - k17_3 < fu3 ∧ F_spec_l7Reach_L3 m a reqs before holders fu3 (k16_3, k17_3, m0_3, m1_3) = c91 := hJ3
      change TC _ _ _ _ (Hp w [rowI 3 v3_2 m0_3, rowI 3 v2_2 m1_3, .blk g0_0 55 [vm]]) [(1, va), (2, vreqs), (4, vholders), (5, (.pointer (some ⟨g0_0, 0, none⟩))), (12, (.int .i64 (before.length : Int))), (13, v2_2), (14, v3_2), (16, (.bool k16_3)), (17, (.int .i64 (k17_3 : Int)))]
      obtain ⟨mf3, rfl⟩ : ∃ m, fu3 = m + 1 := ⟨fu3 - 1, by omega⟩
      rw [F_spec_l7Reach_L3_s] at hL3
      refine TC.seq ?_
      refine TC.seq ?_
      refine TC.region ?_
      refine TL.op (yq (y_move (ev_t rfl))) rfl rfl rfl ?_
      refine TL.op (yq (y_move (ev_t rfl))) rfl rfl rfl ?_
      refine TL.op (yq (y_leq (ev_t rfl) (ev_t rfl))) rfl rfl rfl ?_
      refine TL.nil ?_
      refine TN.seq ?_
      refine TC.cond (b := decide ((k17_3 : Int) ≤ (before.length : Int))) (ev_t rfl) (fun h93 => ?_) (fun h93 => ?_)
      · rw [bif_pos h93] at hL3
        have q94 := (of_decide_eq_true h93)
        refine TC.skip ?_
        refine TN.seq ?_
        refine TC.seq ?_
        refine TC.block ?_
        refine TC.seq ?_
        refine TC.region ?_
        refine TL.op (yq (y_assign ev_c)) rfl rfl rfl ?_
        refine TL.nil ?_
        refine TN.seq ?_
        refine TC.block ?_
        obtain ⟨c95, hc96⟩ : ∃ c, F_spec_l7Reach_L4 m a reqs holders k17_3 ((a.length + k17_3 - 0) + 1) (k16_3, 0, m0_3, m1_3) = c := ⟨_, rfl⟩
        rw [hc96] at hL3
        refine TC.loop (ι := Nat × Bool × Nat × List Int × List Int) (fun (fu4, k16_4, k18_4, m0_4, m1_4) => [(1, va), (2, vreqs), (4, vholders), (5, (.pointer (some ⟨g0_0, 0, none⟩))), (12, (.int .i64 (before.length : Int))), (13, v2_2), (14, v3_2), (16, (.bool k16_4)), (17, (.int .i64 (k17_3 : Int))), (18, (.int .i64 (k18_4 : Int)))]) (fun (fu4, k16_4, k18_4, m0_4, m1_4) => Hp w [rowI 3 v3_2 m0_4, rowI 3 v2_2 m1_4, .blk g0_0 55 [vm]]) (fun (fu4, k16_4, k18_4, m0_4, m1_4) => (Th.Bf before.length a.length (fun l x => gap m a reqs l x) holders p m1_4 m0_4) ∧ (Th.Rnd k16_4 m1_4 m1_2) ∧ (k18_4 ≤ a.length + k17_3) ∧ a.length + k17_3 - k18_4 < fu4 ∧ F_spec_l7Reach_L4 m a reqs holders k17_3 fu4 (k16_4, k18_4, m0_4, m1_4) = c95) (fun (fu4, k16_4, k18_4, m0_4, m1_4) => fu4) ((a.length + k17_3 - 0) + 1, k16_3, 0, m0_3, m1_3) ⟨hi3_0, hi3_1, (by first | omega | (simp [-List.getD_eq_getElem?_getD] <;> omega)), (by omega), hc96⟩ ⟨rfl, rfl, rfl, rfl, rfl, rfl, rfl, rfl, rfl, rfl, trivial⟩ (fun w hw => hw) ?_
        rintro ⟨fu4, k16_4, k18_4, m0_4, m1_4⟩ hJ4
        obtain ⟨hi4_0, hi4_1, hi4_2, hmu4, hL4⟩ : (Th.Bf before.length a.length (fun l x => gap m a reqs l x) holders p m1_4 m0_4) ∧ (Th.Rnd k16_4 m1_4 m1_2) ∧ (k18_4 ≤ a.length + k17_3) ∧ a.length + k17_3 - k18_4 < fu4 ∧ F_spec_l7Reach_L4 m a reqs holders k17_3 fu4 (k16_4, k18_4, m0_4, m1_4) = c95 := hJ4
        change TC _ _ _ _ (Hp w [rowI 3 v3_2 m0_4, rowI 3 v2_2 m1_4, .blk g0_0 55 [vm]]) [(1, va), (2, vreqs), (4, vholders), (5, (.pointer (some ⟨g0_0, 0, none⟩))), (12, (.int .i64 (before.length : Int))), (13, v2_2), (14, v3_2), (16, (.bool k16_4)), (17, (.int .i64 (k17_3 : Int))), (18, (.int .i64 (k18_4 : Int)))]
        obtain ⟨mf4, rfl⟩ : ∃ m, fu4 = m + 1 := ⟨fu4 - 1, by omega⟩
        rw [F_spec_l7Reach_L4_s] at hL4
        have hl4 := hi4_0.lf
        have hm4 := hi4_0.lm
        have hgk := hgi k18_4
        have hg1 := hga (k18_4 : Int) (k17_3 : Int)
        have hg2 := hga (k18_4 : Int) (holders.getD k18_4 0)
        have hb4 := (hi4_0.low hq.pre).1 k17_3 (by omega)
        refine TC.seq ?_
        refine TC.seq ?_
        refine TC.region ?_
        refine TL.op (yq (y_move (ev_t rfl))) rfl rfl rfl ?_
        refine TL.op (yq (y_move (ev_t rfl))) rfl rfl rfl ?_
        refine TL.op (yq (y_len (ev_t rfl) Try.underlying34 (fun w hw => ((ri_arg ha) w hw).ln))) rfl rfl rfl ?_
        refine TL.op (yq (y_move (ev_t rfl))) rfl rfl rfl ?_
        refine TL.op (yq (y_add (ev_t rfl) (ev_t rfl) (by unfold In64; constructor <;> omega))) rfl rfl rfl ?_
        refine TL.op (yq (y_lss (ev_t rfl) (ev_t rfl))) rfl rfl rfl ?_
        refine TL.op (yq (y_move (ev_t rfl))) rfl rfl rfl ?_
        refine TL.opw (w_t rfl rfl rfl) (fun hg => yq (y_move (ev_t rfl))) rfl rfl ?_
        refine TL.opw (w_t rfl rfl rfl) (fun hg => yq (y_move (ev_t rfl))) rfl rfl ?_
        refine TL.opw (w_t rfl rfl rfl) (fun hg => yq (y_idx (k := k17_3) (ev_g rfl hg) (ev_g rfl hg) (by have hgf := (of_decide_eq_true hg); first | omega | simp) slT_34 (ri_row 1 rfl) (show k17_3 < m1_4.length by have hgf := (of_decide_eq_true hg); omega))) rfl rfl ?_
        refine TL.opw (w_t rfl rfl rfl) (fun hg => yq (y_ldi (ev_g rfl hg) one_3 (ri_row 1 rfl) (show k17_3 < m1_4.length by have hgf := (of_decide_eq_true hg); omega))) rfl rfl ?_
        refine TL.opw (w_t rfl rfl rfl) (fun hg => yq (y_lss (ev_g rfl hg) ev_c)) rfl rfl ?_
        refine TL.op (yq (y_and (ev_t rfl) (fun hq => (ev_g rfl hq)))) rfl rfl rfl ?_
        refine TL.nil ?_
        refine TN.seq ?_
        refine TC.cond (b := ((decide ((k18_4 : Int) < (a.length : Int) + (k17_3 : Int))) && (decide ((m1_4.getD k17_3 0) < 1099511627776)))) (ev_t rfl) (fun h97 => ?_) (fun h97 => ?_)
        · rw [bif_pos h97] at hL4
          have q98 := (and_imp (and_t h97) (fun h => (of_decide_eq_true h)) (fun h => (of_decide_eq_true h)))
          refine TC.skip ?_
          refine TN.seq ?_
          refine TC.seq ?_
          refine TC.block ?_
          refine TC.seq ?_
          refine TC.region ?_
          refine TL.op (yq (y_move (ev_t rfl))) rfl rfl rfl ?_
          refine TL.op (yq (y_move (ev_t rfl))) rfl rfl rfl ?_
          have hb99 : k18_4 < holders.length := (by first | omega | (simp only [List.length_set, List.length_append, List.length_cons, List.length_nil, List.length_replicate]; omega) | (rw [sortI_length]; simp only [List.length_cons, List.length_nil]; omega))
          refine TL.op (yq (y_idx (k := k18_4) (ev_t rfl) (ev_t rfl) (by first | omega | simp) slT_34 (ri_arg hholders) hb99)) rfl rfl rfl ?_
          refine TL.op (yq (y_ldi (ev_t rfl) one_3 (ri_arg hholders) hb99)) rfl rfl rfl ?_
          refine TL.op (yq (y_assign (ev_t rfl))) rfl rfl rfl ?_
          refine TL.nil ?_
          refine TN.seq ?_
          refine TC.seq ?_
          refine TC.regionQ (by kernel_rfl) (by kernel_rfl) dr_hp ?_
          refine TQ.op (yq (y_move (ev_t rfl))) rfl rfl rfl ?_
          refine TQ.op (yq (y_geq (ev_t rfl) ev_c)) rfl rfl rfl ?_
          refine TQ.op (yq (y_move (ev_t rfl))) rfl rfl rfl ?_
          refine TQ.opw (w_t rfl rfl rfl) (fun hg => yq (y_move (ev_t rfl))) rfl rfl ?_
          refine TQ.opw (w_t rfl rfl rfl) (fun hg => yq (y_move (ev_t rfl))) rfl rfl ?_
          refine TQ.opw (w_t rfl rfl rfl) (fun hg => yq (y_idx (k := k17_3) (ev_g rfl hg) (ev_g rfl hg) (by have hgf := (of_decide_eq_true hg); first | omega | simp) slT_34 (ri_row 1 rfl) (show k17_3 < m1_4.length by have hgf := (of_decide_eq_true hg); omega))) rfl rfl ?_
          refine TQ.opw (w_t rfl rfl rfl) (fun hg => yq (y_ldi (ev_g rfl hg) one_3 (ri_row 1 rfl) (show k17_3 < m1_4.length by have hgf := (of_decide_eq_true hg); omega))) rfl rfl ?_
          refine TQ.opw (w_t rfl rfl rfl) (fun hg => yq (y_ldagg (cs := [vm]) 2 (ev_t rfl) agg_55 rfl)) rfl rfl ?_
          refine TQ.opw (w_t rfl rfl rfl) (fun hg => yq (y_move (ev_t rfl))) rfl rfl ?_
          refine TQ.opw (w_t rfl rfl rfl) (fun hg => yq (y_move (ev_t rfl))) rfl rfl ?_
          refine TQ.opw (w_t rfl rfl rfl) (fun hg => yq (y_move (ev_t rfl))) rfl rfl ?_
          refine TQ.opw (w_t rfl rfl rfl) (fun hg => yq (y_move (ev_t rfl))) rfl rfl ?_
          refine TQ.opw (w_t rfl rfl rfl) (fun hg => y_call (vs := [(.agg #[vm]), va, vreqs, (.int .i64 (k18_4 : Int)), (.int .i64 (k17_3 : Int))]) (v := (.int .i64 (F_spec_l7Gap m a reqs (k18_4 : Int) (k17_3 : Int)))) en_137 ⟨(ev_g rfl hg), (ev_g rfl hg), (ev_g rfl hg), (ev_g rfl hg), (ev_g rfl hg), trivial⟩ (fun w hw => spec_l7Gap_ok w vm um m ((rii_arg hm) w hw) va a ((ri_arg ha) w hw) vreqs reqs ((ri_arg hreqs) w hw) (k18_4 : Int) (k17_3 : Int) (by have hgf := (of_decide_eq_true hg); first | assumption | omega | (have hq := hgf.n6; omega) | (have hq := hgf.1.n6; omega) | grind) (by have hgf := (of_decide_eq_true hg); first | assumption | omega | (have hq := hgf.n6; omega) | (have hq := hgf.1.n6; omega) | grind) (by have hgf := (of_decide_eq_true hg); first | assumption | omega | (have hq := hgf.n6; omega) | (have hq := hgf.1.n6; omega) | grind) (by have hgf := (of_decide_eq_true hg); first | assumption | omega | (have hq := hgf.n6; omega) | (have hq := hgf.1.n6; omega) | grind) (by have hgf := (of_decide_eq_true hg); first | assumption | omega | (have hq := hgf.n6; omega) | (have hq := hgf.1.n6; omega) | grind))) rfl rfl ?_
          refine TQ.opw (w_t rfl rfl rfl) (fun hg => yq (y_add (ev_g rfl hg) (ev_g rfl hg) (by unfold In64; constructor <;> omega))) rfl rfl ?_
          refine TQ.opw (w_t rfl rfl rfl) (fun hg => yq (y_ldagg (cs := [vm]) 2 (ev_t rfl) agg_55 rfl)) rfl rfl ?_
          refine TQ.opw (w_t rfl rfl rfl) (fun hg => yq (y_move (ev_t rfl))) rfl rfl ?_
          refine TQ.opw (w_t rfl rfl rfl) (fun hg => yq (y_move (ev_t rfl))) rfl rfl ?_
          refine TQ.opw (w_t rfl rfl rfl) (fun hg => yq (y_move (ev_t rfl))) rfl rfl ?_
          refine TQ.opw (w_t rfl rfl rfl) (fun hg => yq (y_move (ev_t rfl))) rfl rfl ?_
          refine TQ.opw (w_t rfl rfl rfl) (fun hg => y_call (vs := [(.agg #[vm]), va, vreqs, (.int .i64 (k18_4 : Int)), (.int .i64 (holders.getD k18_4 0))]) (v := (.int .i64 (F_spec_l7Gap m a reqs (k18_4 : Int) (holders.getD k18_4 0)))) en_137 ⟨(ev_g rfl hg), (ev_g rfl hg), (ev_g rfl hg), (ev_g rfl hg), (ev_g rfl hg), trivial⟩ (fun w hw => spec_l7Gap_ok w vm um m ((rii_arg hm) w hw) va a ((ri_arg ha) w hw) vreqs reqs ((ri_arg hreqs) w hw) (k18_4 : Int) (holders.getD k18_4 0) (by have hgf := (of_decide_eq_true hg); first | assumption | omega | (have hq := hgf.n6; omega) | (have hq := hgf.1.n6; omega) | grind) (by have hgf := (of_decide_eq_true hg); first | assumption | omega | (have hq := hgf.n6; omega) | (have hq := hgf.1.n6; omega) | grind) (by have hgf := (of_decide_eq_true hg); first | assumption | omega | (have hq := hgf.n6; omega) | (have hq := hgf.1.n6; omega) | grind) (by have hgf := (of_decide_eq_true hg); first | assumption | omega | (have hq := hgf.n6; omega) | (have hq := hgf.1.n6; omega) | grind) (by have hgf := (of_decide_eq_true hg); first | assumption | omega | (have hq := hgf.n6; omega) | (have hq := hgf.1.n6; omega) | grind))) rfl rfl ?_
          refine TQ.opw (w_t rfl rfl rfl) (fun hg => yq (y_sub (ev_g rfl hg) (ev_g rfl hg) (by unfold In64; constructor <;> omega))) rfl rfl ?_
          refine TQ.opw (w_t rfl rfl rfl) (fun hg => yq (y_move (ev_t rfl))) rfl rfl ?_
          refine TQ.opw (w_t rfl rfl rfl) (fun hg => yq (y_move (ev_t rfl))) rfl rfl ?_
          refine TQ.opw (w_t rfl rfl rfl) (fun hg => yq (y_idx (k := ((holders.getD k18_4 0)).toNat) (ev_g rfl hg) (ev_g rfl hg) (by have hgf := (of_decide_eq_true hg); first | omega | simp) slT_34 (ri_row 1 rfl) (show ((holders.getD k18_4 0)).toNat < m1_4.length by have hgf := (of_decide_eq_true hg); omega))) rfl rfl ?_
          refine TQ.opw (w_t rfl rfl rfl) (fun hg => yq (y_ldi (ev_g rfl hg) one_3 (ri_row 1 rfl) (show ((holders.getD k18_4 0)).toNat < m1_4.length by have hgf := (of_decide_eq_true hg); omega))) rfl rfl ?_
          refine TQ.opw (w_t rfl rfl rfl) (fun hg => yq (y_lss (ev_g rfl hg) (ev_g rfl hg))) rfl rfl ?_
          refine TQ.op (yq (y_and (ev_t rfl) (fun hq => (ev_g rfl hq)))) rfl rfl rfl ?_
          refine TQ.nil ?_
          refine TN.seq ?_
          refine TC.cond (b := ((decide (0 ≤ (holders.getD k18_4 0))) && (decide (((m1_4.getD k17_3 0) + (F_spec_l7Gap m a reqs (k18_4 : Int) (k17_3 : Int))) - (F_spec_l7Gap m a reqs (k18_4 : Int) (holders.getD k18_4 0)) < (m1_4.getD (((holders.getD k18_4 0)).toNat) 0))))) (ev_t rfl) (fun h100 => ?_) (fun h100 => ?_)
          · rw [bif_pos h100] at hL4
            have q101 := (and_imp (and_t h100) (fun h => (of_decide_eq_true h)) (fun h => (of_decide_eq_true h)))
            have hst := hq.step hi4_0 (x := k17_3) (l := k18_4) (by omega) (by omega) (by omega) q101.1 q101.2
            refine TC.seq ?_
            refine TC.regionT 21 (by kernel_rfl) (by kernel_rfl) dr_hp ?_
            refine TQ.op (yq (y_move (ev_t rfl))) rfl rfl rfl ?_
            refine TQ.op (yq (y_move (ev_t rfl))) rfl rfl rfl ?_
            refine TQ.op (yq (y_move (ev_t rfl))) rfl rfl rfl ?_
            refine TQ.op (yq (y_move (ev_t rfl))) rfl rfl rfl ?_
            have hb102 : k17_3 < m1_4.length := (by first | omega | (simp only [List.length_set, List.length_append, List.length_cons, List.length_nil, List.length_replicate]; omega) | (rw [sortI_length]; simp only [List.length_cons, List.length_nil]; omega))
            refine TQ.op (yq (y_idx (k := k17_3) (ev_t rfl) (ev_t rfl) (by first | omega | simp) slT_34 (ri_row 1 rfl) hb102)) rfl rfl rfl ?_
            refine TQ.op (yq (y_ldi (ev_t rfl) one_3 (ri_row 1 rfl) hb102)) rfl rfl rfl ?_
            refine TQ.op (yq (y_ldagg (cs := [vm]) 2 (ev_t rfl) agg_55 rfl)) rfl rfl rfl ?_
            refine TQ.op (yq (y_move (ev_t rfl))) rfl rfl rfl ?_
            refine TQ.op (yq (y_move (ev_t rfl))) rfl rfl rfl ?_
            refine TQ.op (yq (y_move (ev_t rfl))) rfl rfl rfl ?_
            refine TQ.op (yq (y_move (ev_t rfl))) rfl rfl rfl ?_
            refine TQ.op (y_call (vs := [(.agg #[vm]), va, vreqs, (.int .i64 (k18_4 : Int)), (.int .i64 (k17_3 : Int))]) (v := (.int .i64 (F_spec_l7Gap m a reqs (k18_4 : Int) (k17_3 : Int)))) en_137 ⟨(ev_t rfl), (ev_t rfl), (ev_t rfl), (ev_t rfl), (ev_t rfl), trivial⟩ (fun w hw => spec_l7Gap_ok w vm um m ((rii_arg hm) w hw) va a ((ri_arg ha) w hw) vreqs reqs ((ri_arg hreqs) w hw) (k18_4 : Int) (k17_3 : Int) (by first | assumption | omega | grind) (by first | assumption | omega | grind) (by first | assumption | omega | grind) (by first | assumption | omega | grind) (by first | assumption | omega | grind))) rfl rfl rfl ?_
            refine TQ.op (yq (y_add (ev_t rfl) (ev_t rfl) (by unfold In64; constructor <;> omega))) rfl rfl rfl ?_
            refine TQ.op (yq (y_ldagg (cs := [vm]) 2 (ev_t rfl) agg_55 rfl)) rfl rfl rfl ?_
            refine TQ.op (yq (y_move (ev_t rfl))) rfl rfl rfl ?_
            refine TQ.op (yq (y_move (ev_t rfl))) rfl rfl rfl ?_
            refine TQ.op (yq (y_move (ev_t rfl))) rfl rfl rfl ?_
            refine TQ.op (yq (y_move (ev_t rfl))) rfl rfl rfl ?_
            refine TQ.op (y_call (vs := [(.agg #[vm]), va, vreqs, (.int .i64 (k18_4 : Int)), (.int .i64 (holders.getD k18_4 0))]) (v := (.int .i64 (F_spec_l7Gap m a reqs (k18_4 : Int) (holders.getD k18_4 0)))) en_137 ⟨(ev_t rfl), (ev_t rfl), (ev_t rfl), (ev_t rfl), (ev_t rfl), trivial⟩ (fun w hw => spec_l7Gap_ok w vm um m ((rii_arg hm) w hw) va a ((ri_arg ha) w hw) vreqs reqs ((ri_arg hreqs) w hw) (k18_4 : Int) (holders.getD k18_4 0) (by first | assumption | omega | grind) (by first | assumption | omega | grind) (by first | assumption | omega | grind) (by first | assumption | omega | grind) (by first | assumption | omega | grind))) rfl rfl rfl ?_
            refine TQ.op (yq (y_sub (ev_t rfl) (ev_t rfl) (by unfold In64; constructor <;> omega))) rfl rfl rfl ?_
            have hb103 : ((holders.getD k18_4 0)).toNat < m1_4.length := (by first | omega | (simp only [List.length_set, List.length_append, List.length_cons, List.length_nil, List.length_replicate]; omega) | (rw [sortI_length]; simp only [List.length_cons, List.length_nil]; omega))
            refine TQ.op (yq (y_idx (k := ((holders.getD k18_4 0)).toNat) (ev_t rfl) (ev_t rfl) (by first | omega | simp) slT_34 (ri_row 1 rfl) hb103)) rfl rfl rfl ?_
            refine TQ.tail ?_
            refine TL.storeI 1 (ev_t rfl) (ev_t rfl) one_3 rfl hb103 ?_
            refine TL.nil ?_
            refine TN.seq ?_
            refine TC.seq ?_
            refine TC.region ?_
            refine TL.op (yq (y_move (ev_t rfl))) rfl rfl rfl ?_
            refine TL.op (yq (y_move (ev_t rfl))) rfl rfl rfl ?_
            refine TL.op (yq (y_move (ev_t rfl))) rfl rfl rfl ?_
            have hb104 : ((holders.getD k18_4 0)).toNat < m0_4.length := (by first | omega | (simp only [List.length_set, List.length_append, List.length_cons, List.length_nil, List.length_replicate]; omega) | (rw [sortI_length]; simp only [List.length_cons, List.length_nil]; omega))
            refine TL.op (yq (y_idx (k := ((holders.getD k18_4 0)).toNat) (ev_t rfl) (ev_t rfl) (by first | omega | simp) slT_34 (ri_row 0 rfl) hb104)) rfl rfl rfl ?_
            refine TL.storeI 0 (ev_t rfl) (ev_t rfl) one_3 rfl hb104 ?_
            refine TL.nil ?_
            refine TN.seq ?_
            refine TC.region ?_
            refine TL.op (yq (y_assign ev_c)) rfl rfl rfl ?_
            refine TL.nil ?_
            refine TN.blockN ?_
            refine TN.seq ?_
            refine TC.region ?_
            refine TL.op (yq (y_move (ev_t rfl))) rfl rfl rfl ?_
            refine TL.op (yq (y_add (ev_t rfl) ev_c (by unfold In64; constructor <;> omega))) rfl rfl rfl ?_
            refine TL.op (yq (y_assign (ev_t rfl))) rfl rfl rfl ?_
            refine TL.nil ?_
            exact TN.hand (mf4, true, (k18_4 + 1), (m0_4.set (((holders.getD k18_4 0)).toNat) (k17_3 : Int)), (m1_4.set (((holders.getD k18_4 0)).toNat) (((m1_4.getD k17_3 0) + (F_spec_l7Gap m a reqs (k18_4 : Int) (k17_3 : Int))) - (F_spec_l7Gap m a reqs (k18_4 : Int) (holders.getD k18_4 0))))) ⟨(by first | exact hst.1 | exact hi4_0), (by first | exact hi4_1.up hst.2 | exact hi4_1), (by first | omega | (simp [-List.getD_eq_getElem?_getD] <;> omega)), (by omega), hL4⟩ (Nat.lt_succ_self _) ⟨rfl, rfl, rfl, rfl, rfl, rfl, rfl, rfl, rfl, rfl, trivial⟩ (fun w hw => hw)
          · rw [bif_neg h100] at hL4
            have q101 := ((and_f h100).imp (fun h => (of_decide_eq_false h)) (fun h => (of_decide_eq_false h)))
            refine TC.skip ?_
            refine TN.blockN ?_
            refine TN.seq ?_
            refine TC.region ?_
            refine TL.op (yq (y_move (ev_t rfl))) rfl rfl rfl ?_
            refine TL.op (yq (y_add (ev_t rfl) ev_c (by unfold In64; constructor <;> omega))) rfl rfl rfl ?_
            refine TL.op (yq (y_assign (ev_t rfl))) rfl rfl rfl ?_
            refine TL.nil ?_
            exact TN.hand (mf4, k16_4, (k18_4 + 1), m0_4, m1_4) ⟨(by first | exact hst.1 | exact hi4_0), (by first | exact hi4_1.up hst.2 | exact hi4_1), (by first | omega | (simp [-List.getD_eq_getElem?_getD] <;> omega)), (by omega), hL4⟩ (Nat.lt_succ_self _) ⟨rfl, rfl, rfl, rfl, rfl, rfl, rfl, rfl, rfl, rfl, trivial⟩ (fun w hw => hw)
        · rw [bif_neg h97] at hL4
          have q98 := ((and_f h97).imp (fun h => (of_decide_eq_false h)) (fun h => (of_decide_eq_false h)))
          refine TC.exit ?_
          refine TN.thenE ?_
          refine TN.thenE ?_
          rw [← hL4, elim_next] at hL3
          try dsimp only at hL3
          refine TN.blockH ?_
          refine TN.blockN ?_
          refine TN.seq ?_
          refine TC.region ?_
          refine TL.op (yq (y_move (ev_t rfl))) rfl rfl rfl ?_
          refine TL.op (yq (y_add (ev_t rfl) ev_c (by unfold In64; constructor <;> omega))) rfl rfl rfl ?_
          refine TL.op (yq (y_assign (ev_t rfl))) rfl rfl rfl ?_
          refine TL.nil ?_
          exact TN.hand (mf3, k16_4, (k17_3 + 1), m0_4, m1_4) ⟨hi4_0, hi4_1, (by first | omega | (simp [-List.getD_eq_getElem?_getD] <;> omega)), (by omega), hL3⟩ (Nat.lt_succ_self _) ⟨rfl, rfl, rfl, rfl, rfl, rfl, rfl, rfl, rfl, trivial⟩ (fun w hw => hw)
      · rw [bif_neg h93] at hL3
        have q94 := (of_decide_eq_false h93)
        refine TC.exit ?_
        refine TN.thenE ?_
        refine TN.thenE ?_
        rw [← hL3, elim_next] at hL2
        try dsimp only at hL2
        refine TN.blockH ?_
        refine TN.blockN ?_
        have hmu2 := hi3_1.mu (hi3_0.low hq.pre).2
        exact TN.hand (mf2, k16_3, m0_3, m1_3) ⟨hi3_0, (by omega), hL2⟩ (Nat.lt_succ_self _) ⟨rfl, rfl, rfl, rfl, rfl, rfl, rfl, rfl, trivial⟩ (fun w hw => hw)
    · rw [bif_neg h89] at hL2
      have q90 := h89
      refine TC.exit ?_
      refine TN.thenE ?_
      refine TN.thenE ?_
      rw [← hL2, elim_next] at hF
      try dsimp only at hF
      refine TN.blockH ?_
      refine TN.seq ?_
      refine TC.seq ?_
      refine TC.region ?_
      refine TL.op (yq (y_move (ev_t rfl))) rfl rfl rfl ?_
      refine TL.op (yq (y_move (ev_t rfl))) rfl rfl rfl ?_
      refine TL.op (yq (y_assign (ev_t rfl))) rfl rfl rfl ?_
      refine TL.op (yq (y_assign (ev_t rfl))) rfl rfl rfl ?_
      refine TL.nil ?_
      refine TN.seq ?_
      refine TC.ret ?_
      subst hF
      exact TN.ret2 rfl (ev_t rfl) (ev_t rfl) (fun w' hw => ⟨(v2_2, v3_2), rfl, Hp.picks [1, 0] (by decide) rfl hw⟩)

end Go.Proofs.Ytcmhgkcifejgcaa
namespace Go.Proofs.Ytcmhgkcifejgcaa
set_option linter.unusedVariables false
set_option linter.unusedSimpArgs false
open Go Go.RowKit
set_option linter.unusedVariables false

set_option maxRecDepth 4000 in
set_option maxHeartbeats 1000000 in
theorem spec_l7Add_ok (w : World) (vm : Value) (um : List Value) (m : List (List Int)) (hm : RII w vm um m) (va : Value) (a : List Int) (ha : RI w va a) (vreqs : Value) (reqs : List Int) (hreqs : RI w vreqs reqs) (vbefore : Value) (before : List Int) (hbefore : RI w vbefore before) (hp0 : ∃ p r, Aq m a reqs before p r) (hp1 : before.length < reqs.length) :
    Calls Try.prog 138 ([(.agg #[vm]), va, vreqs, vbefore] : List Value).toArray w (fun e w' => ∃ i : Value, e = .returned i ∧ Hp w [rowI 3 i (F_spec_l7Add m a reqs before)] w') := by
  obtain ⟨rz, hF⟩ : ∃ rz, (F_spec_l7Add m a reqs before) = rz := ⟨_, rfl⟩
  rw [hF]
  unfold F_spec_l7Add at hF
  obtain ⟨p, r, hA⟩ := hp0
  have hq := hA.rq hp1
  have hS := hA.sv
  have hn3 := hS.cf.n3
  have hr60 := hS.r60
  have hFn := reach_fin hq
  have hF1 := hFn.bf.lf
  have hF2 := hFn.bf.lm
  have hlh := hq.pre.lh
  have hga := fun l i : Int => gap_any hS l i
  have hnb := hA.hb
  have hlen_m := argT_len hm
  have hlen_a := arg_len ha
  have hlen_reqs := arg_len hreqs
  have hlen_before := arg_len hbefore
  refine calls_tc Try.func138 rfl rfl rfl ?_
  change TC _ _ _ _ (Hp w []) [(0, (.agg #[vm])), (1, va), (2, vreqs), (3, vbefore)]
  refine TC.seq ?_
  refine TC.region ?_
  refine TL.box (ev_t rfl) rfl (fun g0_0 => ?_)
  refine TL.op (yq (y_assign ev_c)) rfl rfl rfl ?_
  refine TL.nil ?_
  refine TN.seq ?_
  refine TC.seq ?_
  refine TC.region ?_
  refine TL.op (yq (y_move (ev_t rfl))) rfl rfl rfl ?_
  refine TL.op (yq (y_len (ev_t rfl) Try.underlying34 (fun w hw => ((ri_arg hbefore) w hw).ln))) rfl rfl rfl ?_
  refine TL.op (yq (y_assign (ev_t rfl))) rfl rfl rfl ?_
  refine TL.nil ?_
  refine TN.seq ?_
  refine TC.seq ?_
  refine TC.region ?_
  refine TL.op (yq (y_move (ev_t rfl))) rfl rfl rfl ?_
  refine TL.op (yq (y_len (ev_t rfl) Try.underlying34 (fun w hw => ((ri_arg ha) w hw).ln))) rfl rfl rfl ?_
  refine TL.op (yq (y_move (ev_t rfl))) rfl rfl rfl ?_
  refine TL.op (yq (y_add (ev_t rfl) (ev_t rfl) (by unfold In64; constructor <;> omega))) rfl rfl rfl ?_
  refine TL.op (yq (y_move (ev_t rfl))) rfl rfl rfl ?_
  refine TL.callr (ι := Value) (vs := [(.int .i64 ((a.length : Int) + (before.length : Int))), vbefore]) (fun i => i) (fun i => [rowI 3 i (F_spec_l7Holders ((a.length : Int) + (before.length : Int)) before)]) en_164 ⟨(ev_t rfl), (ev_t rfl), trivial⟩ rfl (fun w hw => spec_l7Holders_ok w ((a.length : Int) + (before.length : Int)) vbefore before ((ri_arg hbefore) w hw) (by first | assumption | omega | grind) (by first | assumption | omega | grind) (by first | assumption | omega | grind) (by first | assumption | omega | grind)) (fun r2_5 => ?_)
  refine TL.op (yq (y_assign (ev_t rfl))) rfl rfl rfl ?_
  refine TL.nil ?_
  refine TN.seq ?_
  refine TC.seq ?_
  refine TC.region ?_
  refine TL.op (yq (y_ldagg (cs := [vm]) 1 (ev_t rfl) agg_55 rfl)) rfl rfl rfl ?_
  refine TL.op (yq (y_move (ev_t rfl))) rfl rfl rfl ?_
  refine TL.op (yq (y_move (ev_t rfl))) rfl rfl rfl ?_
  refine TL.op (yq (y_move (ev_t rfl))) rfl rfl rfl ?_
  refine TL.op (yq (y_move (ev_t rfl))) rfl rfl rfl ?_
  refine TL.callr (ι := Value × Value) (vs := [(.agg #[vm]), va, vreqs, vbefore, r2_5]) (fun i => (.tuple #[i.1, i.2])) (fun i => [rowI 3 i.1 ((F_spec_l7Reach m a reqs before (F_spec_l7Holders ((a.length : Int) + (before.length : Int)) before)).1), rowI 3 i.2 ((F_spec_l7Reach m a reqs before (F_spec_l7Holders ((a.length : Int) + (before.length : Int)) before)).2)]) en_165 ⟨(ev_t rfl), (ev_t rfl), (ev_t rfl), (ev_t rfl), (ev_t rfl), trivial⟩ rfl (fun w hw => spec_l7Reach_ok w vm um m ((rii_arg hm) w hw) va a ((ri_arg ha) w hw) vreqs reqs ((ri_arg hreqs) w hw) vbefore before ((ri_arg hbefore) w hw) r2_5 (F_spec_l7Holders ((a.length : Int) + (before.length : Int)) before) ((ri_row 0 rfl) w hw) (by first | assumption | omega | grind)) (fun r3_5 => ?_)
  refine TL.op (yq (y_move (ev_t rfl))) rfl rfl rfl ?_
  refine TL.op (yq (y_extract (ev_t rfl) rfl)) rfl rfl rfl ?_
  refine TL.op (yq (y_extract (ev_t rfl) rfl)) rfl rfl rfl ?_
  refine TL.op (yq (y_assign (ev_t rfl))) rfl rfl rfl ?_
  refine TL.op (yq (y_assign (ev_t rfl))) rfl rfl rfl ?_
  refine TL.nil ?_
  refine TN.seq ?_
  refine TC.seq ?_
  refine TC.region ?_
  refine TL.op (yq (y_assign ev_c)) rfl rfl rfl ?_
  refine TL.nil ?_
  refine TN.seq ?_
  refine TC.seq ?_
  refine TC.region ?_
  refine TL.op (yq (y_assign ev_c)) rfl rfl rfl ?_
  refine TL.nil ?_
  refine TN.seq ?_
  refine TC.seq ?_
  refine TC.region ?_
  refine TL.op (yq (y_assign ev_c)) rfl rfl rfl ?_
  refine TL.nil ?_
  refine TN.seq ?_
  refine TC.seq ?_
  refine TC.seq ?_
  refine TC.region ?_
  refine TL.op (yq (y_assign ev_c)) rfl rfl rfl ?_
  refine TL.nil ?_
  refine TN.seq ?_
  refine TC.block ?_
  obtain ⟨c53, hc54⟩ : ∃ c, F_spec_l7Add_L1 m a reqs before ((before.length + 1 - 0) + 1) (1099511627776, 0, 0, 0) = c := ⟨_, rfl⟩
  rw [hc54] at hF
  refine TC.loop (ι := Nat × Int × Nat × Nat × Nat) (fun (fu1, k13_1, k14_1, k15_1, k16_1) => [(1, va), (2, vreqs), (3, vbefore), (4, (.pointer (some ⟨g0_0, 0, none⟩))), (9, (.int .i64 (before.length : Int))), (10, r2_5), (11, r3_5.1), (12, r3_5.2), (13, (.int .i64 k13_1)), (14, (.int .i64 (k14_1 : Int))), (15, (.int .i64 (k15_1 : Int))), (16, (.int .i64 (k16_1 : Int)))]) (fun (fu1, k13_1, k14_1, k15_1, k16_1) => Hp w [rowI 3 r3_5.1 ((F_spec_l7Reach m a reqs before (F_spec_l7Holders ((a.length : Int) + (before.length : Int)) before)).1), rowI 3 r3_5.2 ((F_spec_l7Reach m a reqs before (F_spec_l7Holders ((a.length : Int) + (before.length : Int)) before)).2), rowI 3 r2_5 (F_spec_l7Holders ((a.length : Int) + (before.length : Int)) before), .blk g0_0 55 [vm]]) (fun (fu1, k13_1, k14_1, k15_1, k16_1) => (k16_1 ≤ before.length + 1) ∧ (Th.Best before.length a.length (fun l x => gap m a reqs l x) (F_spec_l7Holders ((a.length : Int) + (before.length : Int)) before) (F_spec_l7Reach m a reqs before (F_spec_l7Holders ((a.length : Int) + (before.length : Int)) before)).1 k16_1 0 k13_1 k14_1 k15_1) ∧ before.length + 1 - k16_1 < fu1 ∧ F_spec_l7Add_L1 m a reqs before fu1 (k13_1, k14_1, k15_1, k16_1) = c53) (fun (fu1, k13_1, k14_1, k15_1, k16_1) => fu1) ((before.length + 1 - 0) + 1, 1099511627776, 0, 0, 0) ⟨(by first | omega | (simp [-List.getD_eq_getElem?_getD] <;> omega)), Th.Best.init, (by omega), hc54⟩ ⟨rfl, rfl, rfl, rfl, rfl, rfl, rfl, rfl, rfl, rfl, rfl, rfl, trivial⟩ (fun w hw => hw) ?_
  rintro ⟨fu1, k13_1, k14_1, k15_1, k16_1⟩ hJ1
  obtain ⟨hi1_0, hi1_1, hmu1, hL1⟩ : (k16_1 ≤ before.length + 1) ∧ (Th.Best before.length a.length (fun l x => gap m a reqs l x) (F_spec_l7Holders ((a.length : Int) + (before.length : Int)) before) (F_spec_l7Reach m a reqs before (F_spec_l7Holders ((a.length : Int) + (before.length : Int)) before)).1 k16_1 0 k13_1 k14_1 k15_1) ∧ before.length + 1 - k16_1 < fu1 ∧ F_spec_l7Add_L1 m a reqs before fu1 (k13_1, k14_1, k15_1, k16_1) = c53 := hJ1
  change TC _ _ _ _ (Hp w [rowI 3 r3_5.1 ((F_spec_l7Reach m a reqs before (F_spec_l7Holders ((a.length : Int) + (before.length : Int)) before)).1), rowI 3 r3_5.2 ((F_spec_l7Reach m a reqs before (F_spec_l7Holders ((a.length : Int) + (before.length : Int)) before)).2), rowI 3 r2_5 (F_spec_l7Holders ((a.length : Int) + (before.length : Int)) before), .blk g0_0 55 [vm]]) [(1, va), (2, vreqs), (3, vbefore), (4, (.pointer (some ⟨g0_0, 0, none⟩))), (9, (.int .i64 (before.length : Int))), (10, r2_5), (11, r3_5.1), (12, r3_5.2), (13, (.int .i64 k13_1)), (14, (.int .i64 (k14_1 : Int))), (15, (.int .i64 (k15_1 : Int))), (16, (.int .i64 (k16_1 : Int)))]
  obtain ⟨mf1, rfl⟩ : ∃ m, fu1 = m + 1 := ⟨fu1 - 1, by omega⟩
  rw [F_spec_l7Add_L1_s] at hL1
  refine TC.seq ?_
  refine TC.seq ?_
  refine TC.region ?_
  refine TL.op (yq (y_move (ev_t rfl))) rfl rfl rfl ?_
  refine TL.op (yq (y_move (ev_t rfl))) rfl rfl rfl ?_
  refine TL.op (yq (y_leq (ev_t rfl) (ev_t rfl))) rfl rfl rfl ?_
  refine TL.nil ?_
  refine TN.seq ?_
  refine TC.cond (b := decide ((k16_1 : Int) ≤ (before.length : Int))) (ev_t rfl) (fun h55 => ?_) (fun h55 => ?_)
  · rw [bif_pos h55] at hL1
    have q56 := (of_decide_eq_true h55)
    refine TC.skip ?_
    refine TN.seq ?_
    refine TC.seq ?_
    refine TC.block ?_
    refine TC.seq ?_
    refine TC.region ?_
    refine TL.op (yq (y_assign ev_c)) rfl rfl rfl ?_
    refine TL.nil ?_
    refine TN.seq ?_
    refine TC.block ?_
    obtain ⟨c57, hc58⟩ : ∃ c, F_spec_l7Add_L2 m a reqs before k16_1 (((((a.length : Int) + (k16_1 : Int)).toNat) - 0) + 1) (k13_1, k14_1, k15_1, 0) = c := ⟨_, rfl⟩
    rw [hc58] at hL1
    refine TC.loop (ι := Nat × Int × Nat × Nat × Nat) (fun (fu2, k13_2, k14_2, k15_2, k17_2) => [(1, va), (2, vreqs), (3, vbefore), (4, (.pointer (some ⟨g0_0, 0, none⟩))), (9, (.int .i64 (before.length : Int))), (10, r2_5), (11, r3_5.1), (12, r3_5.2), (13, (.int .i64 k13_2)), (14, (.int .i64 (k14_2 : Int))), (15, (.int .i64 (k15_2 : Int))), (16, (.int .i64 (k16_1 : Int))), (17, (.int .i64 (k17_2 : Int)))]) (fun (fu2, k13_2, k14_2, k15_2, k17_2) => Hp w [rowI 3 r3_5.1 ((F_spec_l7Reach m a reqs before (F_spec_l7Holders ((a.length : Int) + (before.length : Int)) before)).1), rowI 3 r3_5.2 ((F_spec_l7Reach m a reqs before (F_spec_l7Holders ((a.length : Int) + (before.length : Int)) before)).2), rowI 3 r2_5 (F_spec_l7Holders ((a.length : Int) + (before.length : Int)) before), .blk g0_0 55 [vm]]) (fun (fu2, k13_2, k14_2, k15_2, k17_2) => (k17_2 ≤ (((a.length : Int) + (k16_1 : Int)).toNat)) ∧ (Th.Best before.length a.length (fun l x => gap m a reqs l x) (F_spec_l7Holders ((a.length : Int) + (before.length : Int)) before) (F_spec_l7Reach m a reqs before (F_spec_l7Holders ((a.length : Int) + (before.length : Int)) before)).1 k16_1 k17_2 k13_2 k14_2 k15_2) ∧ (((a.length : Int) + (k16_1 : Int)).toNat) - k17_2 < fu2 ∧ F_spec_l7Add_L2 m a reqs before k16_1 fu2 (k13_2, k14_2, k15_2, k17_2) = c57) (fun (fu2, k13_2, k14_2, k15_2, k17_2) => fu2) (((((a.length : Int) + (k16_1 : Int)).toNat) - 0) + 1, k13_1, k14_1, k15_1, 0) ⟨(by first | omega | (simp [-List.getD_eq_getElem?_getD] <;> omega)), hi1_1, (by omega), hc58⟩ ⟨rfl, rfl, rfl, rfl, rfl, rfl, rfl, rfl, rfl, rfl, rfl, rfl, rfl, trivial⟩ (fun w hw => hw) ?_
    rintro ⟨fu2, k13_2, k14_2, k15_2, k17_2⟩ hJ2
    obtain ⟨hi2_0, hi2_1, hmu2, hL2⟩ : (k17_2 ≤ (((a.length : Int) + (k16_1 : Int)).toNat)) ∧ (Th.Best before.length a.length (fun l x => gap m a reqs l x) (F_spec_l7Holders ((a.length : Int) + (before.length : Int)) before) (F_spec_l7Reach m a reqs before (F_spec_l7Holders ((a.length : Int) + (before.length : Int)) before)).1 k16_1 k17_2 k13_2 k14_2 k15_2) ∧ (((a.length : Int) + (k16_1 : Int)).toNat) - k17_2 < fu2 ∧ F_spec_l7Add_L2 m a reqs before k16_1 fu2 (k13_2, k14_2, k15_2, k17_2) = c57 := hJ2
    change TC _ _ _ _ (Hp w [rowI 3 r3_5.1 ((F_spec_l7Reach m a reqs before (F_spec_l7Holders ((a.length : Int) + (before.length : Int)) before)).1), rowI 3 r3_5.2 ((F_spec_l7Reach m a reqs before (F_spec_l7Holders ((a.length : Int) + (before.length : Int)) before)).2), rowI 3 r2_5 (F_spec_l7Holders ((a.length : Int) + (before.length : Int)) before), .blk g0_0 55 [vm]]) [(1, va), (2, vreqs), (3, vbefore), (4, (.pointer (some ⟨g0_0, 0, none⟩))), (9, (.int .i64 (before.length : Int))), (10, r2_5), (11, r3_5.1), (12, r3_5.2), (13, (.int .i64 k13_2)), (14, (.int .i64 (k14_2 : Int))), (15, (.int .i64 (k15_2 : Int))), (16, (.int .i64 (k16_1 : Int))), (17, (.int .i64 (k17_2 : Int)))]
    obtain ⟨mf2, rfl⟩ : ∃ m, fu2 = m + 1 := ⟨fu2 - 1, by omega⟩
    rw [F_spec_l7Add_L2_s] at hL2
    have hb2 := (hFn.bf.low hq.pre).1 k16_1 (by omega)
    have hg1 := hga (k17_2 : Int) (k16_1 : Int)
    refine TC.seq ?_
    refine TC.seq ?_
    refine TC.region ?_
    refine TL.op (yq (y_move (ev_t rfl))) rfl rfl rfl ?_
    refine TL.op (yq (y_move (ev_t rfl))) rfl rfl rfl ?_
    refine TL.op (yq (y_len (ev_t rfl) Try.underlying34 (fun w hw => ((ri_arg ha) w hw).ln))) rfl rfl rfl ?_
    refine TL.op (yq (y_move (ev_t rfl))) rfl rfl rfl ?_
    refine TL.op (yq (y_add (ev_t rfl) (ev_t rfl) (by unfold In64; constructor <;> omega))) rfl rfl rfl ?_
    refine TL.op (yq (y_lss (ev_t rfl) (ev_t rfl))) rfl rfl rfl ?_
    refine TL.nil ?_
    refine TN.seq ?_
    refine TC.cond (b := decide ((k17_2 : Int) < (a.length : Int) + (k16_1 : Int))) (ev_t rfl) (fun h59 => ?_) (fun h59 => ?_)
    · rw [bif_pos h59] at hL2
      have q60 := (of_decide_eq_true h59)
      refine TC.skip ?_
      refine TN.seq ?_
      refine TC.seq ?_
      refine TC.block ?_
      refine TC.seq ?_
      refine TC.regionQ (by kernel_rfl) (by kernel_rfl) dr_hp ?_
      refine TQ.op (yq (y_move (ev_t rfl))) rfl rfl rfl ?_
      refine TQ.op (yq (y_move (ev_t rfl))) rfl rfl rfl ?_
      have hb61 : k17_2 < (F_spec_l7Holders ((a.length : Int) + (before.length : Int)) before).length := (by first | omega | (simp only [List.length_set, List.length_append, List.length_cons, List.length_nil, List.length_replicate]; omega) | (rw [sortI_length]; simp only [List.length_cons, List.length_nil]; omega))
      refine TQ.op (yq (y_idx (k := k17_2) (ev_t rfl) (ev_t rfl) (by first | omega | simp) slT_34 (ri_row 2 rfl) hb61)) rfl rfl rfl ?_
      refine TQ.op (yq (y_ldi (ev_t rfl) one_3 (ri_row 2 rfl) hb61)) rfl rfl rfl ?_
      refine TQ.op (yq (y_lss (ev_t rfl) ev_c)) rfl rfl rfl ?_
      refine TQ.op (yq (y_move (ev_t rfl))) rfl rfl rfl ?_
      refine TQ.opw (w_t rfl rfl rfl) (fun hg => yq (y_move (ev_t rfl))) rfl rfl ?_
      refine TQ.opw (w_t rfl rfl rfl) (fun hg => yq (y_move (ev_t rfl))) rfl rfl ?_
      refine TQ.opw (w_t rfl rfl rfl) (fun hg => yq (y_idx (k := k16_1) (ev_g rfl hg) (ev_g rfl hg) (by have hgf := (of_decide_eq_true hg); first | omega | simp) slT_34 (ri_row 0 rfl) (show k16_1 < (F_spec_l7Reach m a reqs before (F_spec_l7Holders ((a.length : Int) + (before.length : Int)) before)).1.length by have hgf := (of_decide_eq_true hg); omega))) rfl rfl ?_
      refine TQ.opw (w_t rfl rfl rfl) (fun hg => yq (y_ldi (ev_g rfl hg) one_3 (ri_row 0 rfl) (show k16_1 < (F_spec_l7Reach m a reqs before (F_spec_l7Holders ((a.length : Int) + (before.length : Int)) before)).1.length by have hgf := (of_decide_eq_true hg); omega))) rfl rfl ?_
      refine TQ.opw (w_t rfl rfl rfl) (fun hg => yq (y_ldagg (cs := [vm]) 3 (ev_t rfl) agg_55 rfl)) rfl rfl ?_
      refine TQ.opw (w_t rfl rfl rfl) (fun hg => yq (y_move (ev_t rfl))) rfl rfl ?_
      refine TQ.opw (w_t rfl rfl rfl) (fun hg => yq (y_move (ev_t rfl))) rfl rfl ?_
      refine TQ.opw (w_t rfl rfl rfl) (fun hg => yq (y_move (ev_t rfl))) rfl rfl ?_
      refine TQ.opw (w_t rfl rfl rfl) (fun hg => yq (y_move (ev_t rfl))) rfl rfl ?_
      refine TQ.opw (w_t rfl rfl rfl) (fun hg => y_call (vs := [(.agg #[vm]), va, vreqs, (.int .i64 (k17_2 : Int)), (.int .i64 (k16_1 : Int))]) (v := (.int .i64 (F_spec_l7Gap m a reqs (k17_2 : Int) (k16_1 : Int)))) en_137 ⟨(ev_g rfl hg), (ev_g rfl hg), (ev_g rfl hg), (ev_g rfl hg), (ev_g rfl hg), trivial⟩ (fun w hw => spec_l7Gap_ok w vm um m ((rii_arg hm) w hw) va a ((ri_arg ha) w hw) vreqs reqs ((ri_arg hreqs) w hw) (k17_2 : Int) (k16_1 : Int) (by have hgf := (of_decide_eq_true hg); first | assumption | omega | (have hq := hgf.n6; omega) | (have hq := hgf.1.n6; omega) | grind) (by have hgf := (of_decide_eq_true hg); first | assumption | omega | (have hq := hgf.n6; omega) | (have hq := hgf.1.n6; omega) | grind) (by have hgf := (of_decide_eq_true hg); first | assumption | omega | (have hq := hgf.n6; omega) | (have hq := hgf.1.n6; omega) | grind) (by have hgf := (of_decide_eq_true hg); first | assumption | omega | (have hq := hgf.n6; omega) | (have hq := hgf.1.n6; omega) | grind) (by have hgf := (of_decide_eq_true hg); first | assumption | omega | (have hq := hgf.n6; omega) | (have hq := hgf.1.n6; omega) | grind))) rfl rfl ?_
      refine TQ.opw (w_t rfl rfl rfl) (fun hg => yq (y_add (ev_g rfl hg) (ev_g rfl hg) (by unfold In64; constructor <;> omega))) rfl rfl ?_
      refine TQ.opw (w_t rfl rfl rfl) (fun hg => yq (y_move (ev_t rfl))) rfl rfl ?_
      refine TQ.opw (w_t rfl rfl rfl) (fun hg => yq (y_lss (ev_g rfl hg) (ev_g rfl hg))) rfl rfl ?_
      refine TQ.op (yq (y_and (ev_t rfl) (fun hq => (ev_g rfl hq)))) rfl rfl rfl ?_
      refine TQ.nil ?_
      refine TN.seq ?_
      refine TC.cond (b := ((decide (((F_spec_l7Holders ((a.length : Int) + (before.length : Int)) before).getD k17_2 0) < 0)) && (decide (((F_spec_l7Reach m a reqs before (F_spec_l7Holders ((a.length : Int) + (before.length : Int)) before)).1.getD k16_1 0) + (F_spec_l7Gap m a reqs (k17_2 : Int) (k16_1 : Int)) < k13_2)))) (ev_t rfl) (fun h62 => ?_) (fun h62 => ?_)
      · rw [bif_pos h62] at hL2
        have q63 := (and_imp (and_t h62) (fun h => (of_decide_eq_true h)) (fun h => (of_decide_eq_true h)))
        have htk := q63
        refine TC.seq ?_
        refine TC.regionQ (by kernel_rfl) (by kernel_rfl) dr_hp ?_
        refine TQ.op (yq (y_move (ev_t rfl))) rfl rfl rfl ?_
        refine TQ.op (yq (y_move (ev_t rfl))) rfl rfl rfl ?_
        have hb64 : k16_1 < (F_spec_l7Reach m a reqs before (F_spec_l7Holders ((a.length : Int) + (before.length : Int)) before)).1.length := (by first | omega | (simp only [List.length_set, List.length_append, List.length_cons, List.length_nil, List.length_replicate]; omega) | (rw [sortI_length]; simp only [List.length_cons, List.length_nil]; omega))
        refine TQ.op (yq (y_idx (k := k16_1) (ev_t rfl) (ev_t rfl) (by first | omega | simp) slT_34 (ri_row 0 rfl) hb64)) rfl rfl rfl ?_
        refine TQ.op (yq (y_ldi (ev_t rfl) one_3 (ri_row 0 rfl) hb64)) rfl rfl rfl ?_
        refine TQ.op (yq (y_ldagg (cs := [vm]) 3 (ev_t rfl) agg_55 rfl)) rfl rfl rfl ?_
        refine TQ.op (yq (y_move (ev_t rfl))) rfl rfl rfl ?_
        refine TQ.op (yq (y_move (ev_t rfl))) rfl rfl rfl ?_
        refine TQ.op (yq (y_move (ev_t rfl))) rfl rfl rfl ?_
        refine TQ.op (yq (y_move (ev_t rfl))) rfl rfl rfl ?_
        refine TQ.op (y_call (vs := [(.agg #[vm]), va, vreqs, (.int .i64 (k17_2 : Int)), (.int .i64 (k16_1 : Int))]) (v := (.int .i64 (F_spec_l7Gap m a reqs (k17_2 : Int) (k16_1 : Int)))) en_137 ⟨(ev_t rfl), (ev_t rfl), (ev_t rfl), (ev_t rfl), (ev_t rfl), trivial⟩ (fun w hw => spec_l7Gap_ok w vm um m ((rii_arg hm) w hw) va a ((ri_arg ha) w hw) vreqs reqs ((ri_arg hreqs) w hw) (k17_2 : Int) (k16_1 : Int) (by first | assumption | omega | grind) (by first | assumption | omega | grind) (by first | assumption | omega | grind) (by first | assumption | omega | grind) (by first | assumption | omega | grind))) rfl rfl rfl ?_
        refine TQ.op (yq (y_add (ev_t rfl) (ev_t rfl) (by unfold In64; constructor <;> omega))) rfl rfl rfl ?_
        refine TQ.op (yq (y_assign (ev_t rfl))) rfl rfl rfl ?_
        refine TQ.nil ?_
        refine TN.seq ?_
        refine TC.seq ?_
        refine TC.region ?_
        refine TL.op (yq (y_move (ev_t rfl))) rfl rfl rfl ?_
        refine TL.op (yq (y_assign (ev_t rfl))) rfl rfl rfl ?_
        refine TL.nil ?_
        refine TN.seq ?_
        refine TC.region ?_
        refine TL.op (yq (y_move (ev_t rfl))) rfl rfl rfl ?_
        refine TL.op (yq (y_assign (ev_t rfl))) rfl rfl rfl ?_
        refine TL.nil ?_
        refine TN.blockN ?_
        refine TN.seq ?_
        refine TC.region ?_
        refine TL.op (yq (y_move (ev_t rfl))) rfl rfl rfl ?_
        refine TL.op (yq (y_add (ev_t rfl) ev_c (by unfold In64; constructor <;> omega))) rfl rfl rfl ?_
        refine TL.op (yq (y_assign (ev_t rfl))) rfl rfl rfl ?_
        refine TL.nil ?_
        exact TN.hand (mf2, ((F_spec_l7Reach m a reqs before (F_spec_l7Holders ((a.length : Int) + (before.length : Int)) before)).1.getD k16_1 0) + (F_spec_l7Gap m a reqs (k17_2 : Int) (k16_1 : Int)), k16_1, k17_2, (k17_2 + 1)) ⟨(by first | omega | (simp [-List.getD_eq_getElem?_getD] <;> omega)), (by first | exact add_take hq hi2_1 (by omega) (by omega) htk | exact add_keep hq hi2_1 (by omega) htn), (by omega), hL2⟩ (Nat.lt_succ_self _) ⟨rfl, rfl, rfl, rfl, rfl, rfl, rfl, rfl, rfl, rfl, rfl, rfl, rfl, trivial⟩ (fun w hw => hw)
      · rw [bif_neg h62] at hL2
        have q63 := ((and_f h62).imp (fun h => (of_decide_eq_false h)) (fun h => (of_decide_eq_false h)))
        have htn := q63
        refine TC.skip ?_
        refine TN.blockN ?_
        refine TN.seq ?_
        refine TC.region ?_
        refine TL.op (yq (y_move (ev_t rfl))) rfl rfl rfl ?_
        refine TL.op (yq (y_add (ev_t rfl) ev_c (by unfold In64; constructor <;> omega))) rfl rfl rfl ?_
        refine TL.op (yq (y_assign (ev_t rfl))) rfl rfl rfl ?_
        refine TL.nil ?_
        exact TN.hand (mf2, k13_2, k14_2, k15_2, (k17_2 + 1)) ⟨(by first | omega | (simp [-List.getD_eq_getElem?_getD] <;> omega)), (by first | exact add_take hq hi2_1 (by omega) (by omega) htk | exact add_keep hq hi2_1 (by omega) htn), (by omega), hL2⟩ (Nat.lt_succ_self _) ⟨rfl, rfl, rfl, rfl, rfl, rfl, rfl, rfl, rfl, rfl, rfl, rfl, rfl, trivial⟩ (fun w hw => hw)
    · rw [bif_neg h59] at hL2
      have q60 := (of_decide_eq_false h59)
      refine TC.exit ?_
      refine TN.thenE ?_
      refine TN.thenE ?_
      rw [← hL2, elim_next] at hL1
      try dsimp only at hL1
      refine TN.blockH ?_
      refine TN.blockN ?_
      refine TN.seq ?_
      refine TC.region ?_
      refine TL.op (yq (y_move (ev_t rfl))) rfl rfl rfl ?_
      refine TL.op (yq (y_add (ev_t rfl) ev_c (by unfold In64; constructor <;> omega))) rfl rfl rfl ?_
      refine TL.op (yq (y_assign (ev_t rfl))) rfl rfl rfl ?_
      refine TL.nil ?_
      exact TN.hand (mf1, k13_2, k14_2, k15_2, (k16_1 + 1)) ⟨(by first | omega | (simp [-List.getD_eq_getElem?_getD] <;> omega)), (hi2_1.row (by omega)), (by omega), hL1⟩ (Nat.lt_succ_self _) ⟨rfl, rfl, rfl, rfl, rfl, rfl, rfl, rfl, rfl, rfl, rfl, rfl, trivial⟩ (fun w hw => hw)
  · rw [bif_neg h55] at hL1
    have q56 := (of_decide_eq_false h55)
    refine TC.exit ?_
    refine TN.thenE ?_
    refine TN.thenE ?_
    rw [← hL1, elim_next] at hF
    try dsimp only at hF
    have hpk := hi1_1.pick (by omega) hq.pre hFn.bf.src
    have hai := Th.Ag.init hq.pre hFn hpk.1
    have hpx := hpk.1.xi
    have hpl := hpk.1.lk
    refine TN.blockH ?_
    refine TN.seq ?_
    refine TC.seq ?_
    refine TC.region ?_
    refine TL.op (yq (y_move (ev_t rfl))) rfl rfl rfl ?_
    refine TL.callr (ι := Value) (vs := [vbefore]) (fun i => i) (fun i => [rowI 3 i before]) en_107 ⟨(ev_t rfl), trivial⟩ rfl (fun w hw => spec_l1Own_ok w vbefore before ((ri_arg hbefore) w hw) (by first | assumption | omega | grind)) (fun r17_1 => ?_)
    refine TL.buildI (zs := [.const (.int .i64 0)]) (qs := [0]) slT_34 rfl ⟨ev_c, trivial⟩ rfl (by decide) rfl (fun v17_2 => ?_)
    refine TL.appendI 1 (ev_t rfl) (ev_t rfl) rfl slT_34 (ri_row 0 rfl) (by first | omega | (simp [-List.getD_eq_getElem?_getD] <;> omega)) rfl (fun v17_3 => ?_)
    refine TL.op (yq (y_assign (ev_t rfl))) rfl rfl rfl ?_
    refine TL.nil ?_
    refine TN.seq ?_
    refine TC.seq ?_
    refine TC.block ?_
    obtain ⟨c65, hc66⟩ : ∃ c, F_spec_l7Add_L3 m a reqs before ((Th.dep before.length (F_spec_l7Reach m a reqs before (F_spec_l7Holders ((a.length : Int) + (before.length : Int)) before)).2 (before.length + 1) (k14_1 : Int).toNat) + 1) ((k14_1 : Int), (k15_1 : Int), (before ++ ([0]))) = c := ⟨_, rfl⟩
    rw [hc66] at hF
    refine TC.loop (ι := Nat × Int × Int × List Int) (fun (fu3, k14_3, k15_3, m0_3) => [(9, (.int .i64 (before.length : Int))), (12, r3_5.2), (14, (.int .i64 k14_3)), (15, (.int .i64 k15_3)), (18, v17_3)]) (fun (fu3, k14_3, k15_3, m0_3) => Hp w [rowI 3 v17_3 m0_3, rowI 3 r3_5.2 ((F_spec_l7Reach m a reqs before (F_spec_l7Holders ((a.length : Int) + (before.length : Int)) before)).2)]) (fun (fu3, k14_3, k15_3, m0_3) => (0 ≤ k14_3) ∧ (0 ≤ k15_3) ∧ (Th.Ag before.length a.length (a.length + reqs.length) (fun l x => gap m a reqs l x) before (F_spec_l7Holders ((a.length : Int) + (before.length : Int)) before) (fun x => if x = before.length then 0 else p x) r (F_spec_l7Reach m a reqs before (F_spec_l7Holders ((a.length : Int) + (before.length : Int)) before)).1 (F_spec_l7Reach m a reqs before (F_spec_l7Holders ((a.length : Int) + (before.length : Int)) before)).2 k13_1 m0_3 k14_3.toNat k15_3.toNat) ∧ Th.dep before.length (F_spec_l7Reach m a reqs before (F_spec_l7Holders ((a.length : Int) + (before.length : Int)) before)).2 (before.length + 1) k14_3.toNat < fu3 ∧ F_spec_l7Add_L3 m a reqs before fu3 (k14_3, k15_3, m0_3) = c65) (fun (fu3, k14_3, k15_3, m0_3) => fu3) ((Th.dep before.length (F_spec_l7Reach m a reqs before (F_spec_l7Holders ((a.length : Int) + (before.length : Int)) before)).2 (before.length + 1) (k14_1 : Int).toNat) + 1, (k14_1 : Int), (k15_1 : Int), (before ++ ([0]))) ⟨(by first | omega | (simp [-List.getD_eq_getElem?_getD] <;> omega)), (by first | omega | (simp [-List.getD_eq_getElem?_getD] <;> omega)), hai, (by omega), hc66⟩ ⟨rfl, rfl, rfl, rfl, rfl, trivial⟩ (fun w hw => Hp.sublist hw (.cons _ (.cons_cons _ (.cons _ (.cons_cons _ (.cons _ (.cons _ .slnil))))))) ?_
    rintro ⟨fu3, k14_3, k15_3, m0_3⟩ hJ3
    obtain ⟨hi3_0, hi3_1, hi3_2, hmu3, hL3⟩ : (0 ≤ k14_3) ∧ (0 ≤ k15_3) ∧ (Th.Ag before.length a.length (a.length + reqs.length) (fun l x => gap m a reqs l x) before (F_spec_l7Holders ((a.length : Int) + (before.length : Int)) before) (fun x => if x = before.length then 0 else p x) r (F_spec_l7Reach m a reqs before (F_spec_l7Holders ((a.length : Int) + (before.length : Int)) before)).1 (F_spec_l7Reach m a reqs before (F_spec_l7Holders ((a.length : Int) + (before.length : Int)) before)).2 k13_1 m0_3 k14_3.toNat k15_3.toNat) ∧ Th.dep before.length (F_spec_l7Reach m a reqs before (F_spec_l7Holders ((a.length : Int) + (before.length : Int)) before)).2 (before.length + 1) k14_3.toNat < fu3 ∧ F_spec_l7Add_L3 m a reqs before fu3 (k14_3, k15_3, m0_3) = c65 := hJ3
    change TC _ _ _ _ (Hp w [rowI 3 v17_3 m0_3, rowI 3 r3_5.2 ((F_spec_l7Reach m a reqs before (F_spec_l7Holders ((a.length : Int) + (before.length : Int)) before)).2)]) [(9, (.int .i64 (before.length : Int))), (12, r3_5.2), (14, (.int .i64 k14_3)), (15, (.int .i64 k15_3)), (18, v17_3)]
    obtain ⟨mf3, rfl⟩ : ∃ m, fu3 = m + 1 := ⟨fu3 - 1, by omega⟩
    rw [F_spec_l7Add_L3_s] at hL3
    have hlo3 := hi3_2.lo
    have hai3 := hi3_2.ai
    refine TC.seq ?_
    refine TC.seq ?_
    refine TC.region ?_
    refine TL.op (yq (y_move (ev_t rfl))) rfl rfl rfl ?_
    refine TL.op (yq (y_move (ev_t rfl))) rfl rfl rfl ?_
    refine TL.op (yq (y_neq (ev_t rfl) (ev_t rfl))) rfl rfl rfl ?_
    refine TL.nil ?_
    refine TN.seq ?_
    refine TC.cond (b := !decide (k14_3 = (before.length : Int))) (ev_t rfl) (fun h67 => ?_) (fun h67 => ?_)
    · rw [bif_pos h67] at hL3
      have q68 := (of_decide_eq_false (not_t h67))
      have hsp := add_step hq hFn hi3_0 hi3_1 hi3_2 q68
      refine TC.skip ?_
      refine TN.seq ?_
      refine TC.block ?_
      refine TC.seq ?_
      refine TC.region ?_
      refine TL.op (yq (y_move (ev_t rfl))) rfl rfl rfl ?_
      refine TL.op (yq (y_move (ev_t rfl))) rfl rfl rfl ?_
      have hb69 : (k14_3).toNat < m0_3.length := (by first | omega | (simp only [List.length_set, List.length_append, List.length_cons, List.length_nil, List.length_replicate]; omega) | (rw [sortI_length]; simp only [List.length_cons, List.length_nil]; omega))
      refine TL.op (yq (y_idx (k := (k14_3).toNat) (ev_t rfl) (ev_t rfl) (by first | omega | simp) slT_34 (ri_row 0 rfl) hb69)) rfl rfl rfl ?_
      refine TL.op (yq (y_ldi (ev_t rfl) one_3 (ri_row 0 rfl) hb69)) rfl rfl rfl ?_
      refine TL.op (yq (y_assign (ev_t rfl))) rfl rfl rfl ?_
      refine TL.nil ?_
      refine TN.seq ?_
      refine TC.seq ?_
      refine TC.region ?_
      refine TL.op (yq (y_move (ev_t rfl))) rfl rfl rfl ?_
      refine TL.op (yq (y_move (ev_t rfl))) rfl rfl rfl ?_
      refine TL.op (yq (y_move (ev_t rfl))) rfl rfl rfl ?_
      have hb70 : (k14_3).toNat < m0_3.length := (by first | omega | (simp only [List.length_set, List.length_append, List.length_cons, List.length_nil, List.length_replicate]; omega) | (rw [sortI_length]; simp only [List.length_cons, List.length_nil]; omega))
      refine TL.op (yq (y_idx (k := (k14_3).toNat) (ev_t rfl) (ev_t rfl) (by first | omega | simp) slT_34 (ri_row 0 rfl) hb70)) rfl rfl rfl ?_
      refine TL.storeI 0 (ev_t rfl) (ev_t rfl) one_3 rfl hb70 ?_
      refine TL.nil ?_
      refine TN.seq ?_
      refine TC.seq ?_
      refine TC.region ?_
      refine TL.op (yq (y_move (ev_t rfl))) rfl rfl rfl ?_
      refine TL.op (yq (y_assign (ev_t rfl))) rfl rfl rfl ?_
      refine TL.nil ?_
      refine TN.seq ?_
      refine TC.region ?_
      refine TL.op (yq (y_move (ev_t rfl))) rfl rfl rfl ?_
      refine TL.op (yq (y_move (ev_t rfl))) rfl rfl rfl ?_
      have hb71 : (k14_3).toNat < (F_spec_l7Reach m a reqs before (F_spec_l7Holders ((a.length : Int) + (before.length : Int)) before)).2.length := (by first | omega | (simp only [List.length_set, List.length_append, List.length_cons, List.length_nil, List.length_replicate]; omega) | (rw [sortI_length]; simp only [List.length_cons, List.length_nil]; omega))
      refine TL.op (yq (y_idx (k := (k14_3).toNat) (ev_t rfl) (ev_t rfl) (by first | omega | simp) slT_34 (ri_row 1 rfl) hb71)) rfl rfl rfl ?_
      refine TL.op (yq (y_ldi (ev_t rfl) one_3 (ri_row 1 rfl) hb71)) rfl rfl rfl ?_
      refine TL.op (yq (y_assign (ev_t rfl))) rfl rfl rfl ?_
      refine TL.nil ?_
      refine TN.blockN ?_
      have hmu3 := hsp.2.2.2
      exact TN.hand (mf3, ((F_spec_l7Reach m a reqs before (F_spec_l7Holders ((a.length : Int) + (before.length : Int)) before)).2.getD ((k14_3).toNat) 0), (m0_3.getD ((k14_3).toNat) 0), (m0_3.set ((k14_3).toNat) k15_3)) ⟨hsp.1, hsp.2.1, hsp.2.2.1, (by omega), hL3⟩ (Nat.lt_succ_self _) ⟨rfl, rfl, rfl, rfl, rfl, trivial⟩ (fun w hw => hw)
    · rw [bif_neg h67] at hL3
      have q68 := (of_decide_eq_true (not_f h67))
      refine TC.exit ?_
      refine TN.thenE ?_
      refine TN.thenE ?_
      rw [← hL3, elim_next] at hF
      try dsimp only at hF
      refine TN.blockH ?_
      refine TN.seq ?_
      refine TC.seq ?_
      refine TC.region ?_
      refine TL.op (yq (y_move (ev_t rfl))) rfl rfl rfl ?_
      refine TL.op (yq (y_move (ev_t rfl))) rfl rfl rfl ?_
      refine TL.op (yq (y_move (ev_t rfl))) rfl rfl rfl ?_
      have hb72 : before.length < m0_3.length := (by first | omega | (simp only [List.length_set, List.length_append, List.length_cons, List.length_nil, List.length_replicate]; omega) | (rw [sortI_length]; simp only [List.length_cons, List.length_nil]; omega))
      refine TL.op (yq (y_idx (k := before.length) (ev_t rfl) (ev_t rfl) (by first | omega | simp) slT_34 (ri_row 0 rfl) hb72)) rfl rfl rfl ?_
      refine TL.storeI 0 (ev_t rfl) (ev_t rfl) one_3 rfl hb72 ?_
      refine TL.nil ?_
      refine TN.seq ?_
      refine TC.seq ?_
      refine TC.region ?_
      refine TL.op (yq (y_move (ev_t rfl))) rfl rfl rfl ?_
      refine TL.op (yq (y_assign (ev_t rfl))) rfl rfl rfl ?_
      refine TL.nil ?_
      refine TN.seq ?_
      refine TC.ret ?_
      subst hF
      exact TN.ret1 rfl (ev_t rfl) (fun w' hw => ⟨v17_3, rfl, Hp.sublist hw (.cons_cons _ (.cons _ .slnil))⟩)

set_option maxRecDepth 4000 in
set_option maxHeartbeats 1000000 in
theorem spec_l7Flow_ok (w : World) (vm : Value) (um : List Value) (m : List (List Int)) (hm : RII w vm um m) (va : Value) (a : List Int) (ha : RI w va a) (vreqs : Value) (reqs : List Int) (hreqs : RI w vreqs reqs) (hp0 : Sv m a reqs) :
    Calls Try.prog 99 ([(.agg #[vm]), va, vreqs] : List Value).toArray w (fun e w' => ∃ i : Value, e = .returned i ∧ Hp w [rowI 3 i (F_spec_l7Flow m a reqs)] w') := by
  obtain ⟨rz, hF⟩ : ∃ rz, (F_spec_l7Flow m a reqs) = rz := ⟨_, rfl⟩
  rw [hF]
  unfold F_spec_l7Flow at hF
  have hr60 := hp0.r60
  have hlen_m := argT_len hm
  have hlen_a := arg_len ha
  have hlen_reqs := arg_len hreqs
  refine calls_tc Try.func99 rfl rfl rfl ?_
  change TC _ _ _ _ (Hp w []) [(0, (.agg #[vm])), (1, va), (2, vreqs)]
  refine TC.seq ?_
  refine TC.region ?_
  refine TL.box (ev_t rfl) rfl (fun g0_0 => ?_)
  refine TL.op (yq (y_assign ev_c)) rfl rfl rfl ?_
  refine TL.nil ?_
  refine TN.seq ?_
  refine TC.seq ?_
  refine TC.region ?_
  refine TL.buildI (zs := []) (qs := []) slT_34 rfl trivial rfl (by decide) rfl (fun v1_0 => ?_)
  refine TL.op (yq (y_assign (ev_t rfl))) rfl rfl rfl ?_
  refine TL.nil ?_
  refine TN.seq ?_
  refine TC.seq ?_
  refine TC.block ?_
  obtain ⟨c5, hc6⟩ : ∃ c, F_spec_l7Flow_L1 m a reqs ((reqs.length - ([] : List Int).length) + 1) ([] : List Int) = c := ⟨_, rfl⟩
  rw [hc6] at hF
  refine TC.loop (ι := Nat × List Int × Value) (fun (fu1, out1, vout1) => [(1, va), (2, vreqs), (3, (.pointer (some ⟨g0_0, 0, none⟩))), (7, vout1)]) (fun (fu1, out1, vout1) => Hp w [rowI 3 vout1 out1, .blk g0_0 55 [vm]]) (fun (fu1, out1, vout1) => (∃ p r, Aq m a reqs out1 p r) ∧ (out1.length ≤ reqs.length) ∧ reqs.length - out1.length < fu1 ∧ F_spec_l7Flow_L1 m a reqs fu1 out1 = c5) (fun (fu1, out1, vout1) => fu1) ((reqs.length - ([] : List Int).length) + 1, ([] : List Int), v1_0) ⟨(aq_nil hp0), (by first | omega | (simp [-List.getD_eq_getElem?_getD] <;> omega)), (by omega), hc6⟩ ⟨rfl, rfl, rfl, rfl, trivial⟩ (fun w hw => hw) ?_
  rintro ⟨fu1, out1, vout1⟩ hJ1
  obtain ⟨hi1_0, hi1_1, hmu1, hL1⟩ : (∃ p r, Aq m a reqs out1 p r) ∧ (out1.length ≤ reqs.length) ∧ reqs.length - out1.length < fu1 ∧ F_spec_l7Flow_L1 m a reqs fu1 out1 = c5 := hJ1
  change TC _ _ _ _ (Hp w [rowI 3 vout1 out1, .blk g0_0 55 [vm]]) [(1, va), (2, vreqs), (3, (.pointer (some ⟨g0_0, 0, none⟩))), (7, vout1)]
  obtain ⟨mf1, rfl⟩ : ∃ m, fu1 = m + 1 := ⟨fu1 - 1, by omega⟩
  rw [F_spec_l7Flow_L1_s] at hL1
  refine TC.seq ?_
  refine TC.seq ?_
  refine TC.region ?_
  refine TL.op (yq (y_move (ev_t rfl))) rfl rfl rfl ?_
  refine TL.op (yq (y_len (ev_t rfl) Try.underlying34 (fun w hw => ((ri_row 0 rfl) w hw).ln))) rfl rfl rfl ?_
  refine TL.op (yq (y_move (ev_t rfl))) rfl rfl rfl ?_
  refine TL.op (yq (y_len (ev_t rfl) Try.underlying34 (fun w hw => ((ri_arg hreqs) w hw).ln))) rfl rfl rfl ?_
  refine TL.op (yq (y_lss (ev_t rfl) (ev_t rfl))) rfl rfl rfl ?_
  refine TL.nil ?_
  refine TN.seq ?_
  refine TC.cond (b := decide ((out1.length : Int) < (reqs.length : Int))) (ev_t rfl) (fun h7 => ?_) (fun h7 => ?_)
  · rw [bif_pos h7] at hL1
    have q8 := (of_decide_eq_true h7)
    refine TC.skip ?_
    refine TN.seq ?_
    refine TC.block ?_
    refine TC.region ?_
    refine TL.op (yq (y_ldagg (cs := [vm]) 1 (ev_t rfl) agg_55 rfl)) rfl rfl rfl ?_
    refine TL.op (yq (y_move (ev_t rfl))) rfl rfl rfl ?_
    refine TL.op (yq (y_move (ev_t rfl))) rfl rfl rfl ?_
    refine TL.op (yq (y_move (ev_t rfl))) rfl rfl rfl ?_
    refine TL.callr (ι := Value) (vs := [(.agg #[vm]), va, vreqs, vout1]) (fun i => i) (fun i => [rowI 3 i (F_spec_l7Add m a reqs out1)]) en_138 ⟨(ev_t rfl), (ev_t rfl), (ev_t rfl), (ev_t rfl), trivial⟩ rfl (fun w hw => spec_l7Add_ok w vm um m ((rii_arg hm) w hw) va a ((ri_arg ha) w hw) vreqs reqs ((ri_arg hreqs) w hw) vout1 out1 ((ri_row 0 rfl) w hw) (by first | assumption | omega | grind) (by first | assumption | omega | grind)) (fun r3_4 => ?_)
    refine TL.op (yq (y_assign (ev_t rfl))) rfl rfl rfl ?_
    refine TL.nil ?_
    refine TN.blockN ?_
    have hal := (aq_add hi1_0 (by omega)).2
    exact TN.hand (mf1, (F_spec_l7Add m a reqs out1), r3_4) ⟨(aq_add hi1_0 (by omega)).1, (by first | omega | (simp [-List.getD_eq_getElem?_getD] <;> omega)), (by omega), hL1⟩ (Nat.lt_succ_self _) ⟨rfl, rfl, rfl, rfl, trivial⟩ (fun w hw => Hp.sublist hw (.cons_cons _ (.cons _ (.cons_cons _ .slnil))))
  · rw [bif_neg h7] at hL1
    have q8 := (of_decide_eq_false h7)
    refine TC.exit ?_
    refine TN.thenE ?_
    refine TN.thenE ?_
    rw [← hL1, elim_next] at hF
    try dsimp only at hF
    refine TN.blockH ?_
    refine TN.seq ?_
    refine TC.seq ?_
    refine TC.region ?_
    refine TL.op (yq (y_move (ev_t rfl))) rfl rfl rfl ?_
    refine TL.op (yq (y_assign (ev_t rfl))) rfl rfl rfl ?_
    refine TL.nil ?_
    refine TN.seq ?_
    refine TC.ret ?_
    subst hF
    exact TN.ret1 rfl (ev_t rfl) (fun w' hw => ⟨vout1, rfl, Hp.sublist hw (.cons_cons _ (.cons _ .slnil))⟩)

set_option maxRecDepth 4000 in
set_option maxHeartbeats 1000000 in
theorem spec_l7Cost_ok (w : World) (vm : Value) (um : List Value) (m : List (List Int)) (hm : RII w vm um m) (va : Value) (a : List Int) (ha : RI w va a) (vreqs : Value) (reqs : List Int) (hreqs : RI w vreqs reqs) (vbefore : Value) (before : List Int) (hbefore : RI w vbefore before) (hp0 : Sv m a reqs) (hp1 : before.length = reqs.length) (hp2 : ∀ i, i < before.length → 0 ≤ before.getD i 0 ∧ before.getD i 0 < a.length + reqs.length) :
    Calls Try.prog 98 ([(.agg #[vm]), va, vreqs, vbefore] : List Value).toArray w (Ret (.int .i64 (F_spec_l7Cost m a reqs before)) (Hp w [])) := by
  obtain ⟨rz, hF⟩ : ∃ rz, (F_spec_l7Cost m a reqs before) = rz := ⟨_, rfl⟩
  rw [hF]
  unfold F_spec_l7Cost at hF
  have hr60 := hp0.r60
  have hlen_m := argT_len hm
  have hlen_a := arg_len ha
  have hlen_reqs := arg_len hreqs
  have hlen_before := arg_len hbefore
  refine calls_tc Try.func98 rfl rfl rfl ?_
  change TC _ _ _ _ (Hp w []) [(0, (.agg #[vm])), (1, va), (2, vreqs), (3, vbefore)]
  refine TC.seq ?_
  refine TC.region ?_
  refine TL.box (ev_t rfl) rfl (fun g0_0 => ?_)
  refine TL.op (yq (y_assign ev_c)) rfl rfl rfl ?_
  refine TL.nil ?_
  refine TN.seq ?_
  refine TC.seq ?_
  refine TC.region ?_
  refine TL.op (yq (y_assign ev_c)) rfl rfl rfl ?_
  refine TL.nil ?_
  refine TN.seq ?_
  refine TC.seq ?_
  refine TC.seq ?_
  refine TC.region ?_
  refine TL.op (yq (y_assign ev_c)) rfl rfl rfl ?_
  refine TL.nil ?_
  refine TN.seq ?_
  refine TC.block ?_
  obtain ⟨c10, hc11⟩ : ∃ c, F_spec_l7Cost_L1 m a reqs before ((before.length - 0) + 1) (0, 0) = c := ⟨_, rfl⟩
  rw [hc11] at hF
  refine TC.loop (ι := Nat × Int × Nat) (fun (fu1, sum1, i1) => [(1, va), (2, vreqs), (3, vbefore), (4, (.pointer (some ⟨g0_0, 0, none⟩))), (9, (.int .i64 sum1)), (10, (.int .i64 (i1 : Int)))]) (fun (fu1, sum1, i1) => Hp w [.blk g0_0 55 [vm]]) (fun (fu1, sum1, i1) => (i1 ≤ before.length) ∧ (0 ≤ sum1) ∧ (sum1 ≤ 99 * i1) ∧ before.length - i1 < fu1 ∧ F_spec_l7Cost_L1 m a reqs before fu1 (sum1, i1) = c10) (fun (fu1, sum1, i1) => fu1) ((before.length - 0) + 1, 0, 0) ⟨(by first | omega | (simp [-List.getD_eq_getElem?_getD] <;> omega)), (by first | omega | (simp [-List.getD_eq_getElem?_getD] <;> omega)), (by first | omega | (simp [-List.getD_eq_getElem?_getD] <;> omega)), (by omega), hc11⟩ ⟨rfl, rfl, rfl, rfl, rfl, rfl, trivial⟩ (fun w hw => hw) ?_
  rintro ⟨fu1, sum1, i1⟩ hJ1
  obtain ⟨hi1_0, hi1_1, hi1_2, hmu1, hL1⟩ : (i1 ≤ before.length) ∧ (0 ≤ sum1) ∧ (sum1 ≤ 99 * i1) ∧ before.length - i1 < fu1 ∧ F_spec_l7Cost_L1 m a reqs before fu1 (sum1, i1) = c10 := hJ1
  change TC _ _ _ _ (Hp w [.blk g0_0 55 [vm]]) [(1, va), (2, vreqs), (3, vbefore), (4, (.pointer (some ⟨g0_0, 0, none⟩))), (9, (.int .i64 sum1)), (10, (.int .i64 (i1 : Int)))]
  obtain ⟨mf1, rfl⟩ : ∃ m, fu1 = m + 1 := ⟨fu1 - 1, by omega⟩
  rw [F_spec_l7Cost_L1_s] at hL1
  have hbe := hp2 i1
  have hga := gap_any hp0 (before.getD i1 0) (i1 : Int)
  refine TC.seq ?_
  refine TC.seq ?_
  refine TC.region ?_
  refine TL.op (yq (y_move (ev_t rfl))) rfl rfl rfl ?_
  refine TL.op (yq (y_move (ev_t rfl))) rfl rfl rfl ?_
  refine TL.op (yq (y_len (ev_t rfl) Try.underlying34 (fun w hw => ((ri_arg hbefore) w hw).ln))) rfl rfl rfl ?_
  refine TL.op (yq (y_lss (ev_t rfl) (ev_t rfl))) rfl rfl rfl ?_
  refine TL.nil ?_
  refine TN.seq ?_
  refine TC.cond (b := decide ((i1 : Int) < (before.length : Int))) (ev_t rfl) (fun h12 => ?_) (fun h12 => ?_)
  · rw [bif_pos h12] at hL1
    have q13 := (of_decide_eq_true h12)
    refine TC.skip ?_
    refine TN.seq ?_
    refine TC.seq ?_
    refine TC.block ?_
    refine TC.regionQ (by kernel_rfl) (by kernel_rfl) dr_hp ?_
    refine TQ.op (yq (y_move (ev_t rfl))) rfl rfl rfl ?_
    refine TQ.op (yq (y_ldagg (cs := [vm]) 0 (ev_t rfl) agg_55 rfl)) rfl rfl rfl ?_
    refine TQ.op (yq (y_move (ev_t rfl))) rfl rfl rfl ?_
    refine TQ.op (yq (y_move (ev_t rfl))) rfl rfl rfl ?_
    refine TQ.op (yq (y_move (ev_t rfl))) rfl rfl rfl ?_
    refine TQ.op (yq (y_move (ev_t rfl))) rfl rfl rfl ?_
    have hb14 : i1 < before.length := (by first | omega | (simp only [List.length_set, List.length_append, List.length_cons, List.length_nil, List.length_replicate]; omega) | (rw [sortI_length]; simp only [List.length_cons, List.length_nil]; omega))
    refine TQ.op (yq (y_idx (k := i1) (ev_t rfl) (ev_t rfl) (by first | omega | simp) slT_34 (ri_arg hbefore) hb14)) rfl rfl rfl ?_
    refine TQ.op (yq (y_ldi (ev_t rfl) one_3 (ri_arg hbefore) hb14)) rfl rfl rfl ?_
    refine TQ.op (yq (y_move (ev_t rfl))) rfl rfl rfl ?_
    refine TQ.op (y_call (vs := [(.agg #[vm]), va, vreqs, (.int .i64 (before.getD i1 0)), (.int .i64 (i1 : Int))]) (v := (.int .i64 (F_spec_l7Gap m a reqs (before.getD i1 0) (i1 : Int)))) en_137 ⟨(ev_t rfl), (ev_t rfl), (ev_t rfl), (ev_t rfl), (ev_t rfl), trivial⟩ (fun w hw => spec_l7Gap_ok w vm um m ((rii_arg hm) w hw) va a ((ri_arg ha) w hw) vreqs reqs ((ri_arg hreqs) w hw) (before.getD i1 0) (i1 : Int) (by first | assumption | omega | grind) (by first | assumption | omega | grind) (by first | assumption | omega | grind) (by first | assumption | omega | grind) (by first | assumption | omega | grind))) rfl rfl rfl ?_
    refine TQ.op (yq (y_add (ev_t rfl) (ev_t rfl) (by unfold In64; constructor <;> omega))) rfl rfl rfl ?_
    refine TQ.op (yq (y_assign (ev_t rfl))) rfl rfl rfl ?_
    refine TQ.nil ?_
    refine TN.blockN ?_
    refine TN.seq ?_
    refine TC.region ?_
    refine TL.op (yq (y_move (ev_t rfl))) rfl rfl rfl ?_
    refine TL.op (yq (y_add (ev_t rfl) ev_c (by unfold In64; constructor <;> omega))) rfl rfl rfl ?_
    refine TL.op (yq (y_assign (ev_t rfl))) rfl rfl rfl ?_
    refine TL.nil ?_
    exact TN.hand (mf1, sum1 + (F_spec_l7Gap m a reqs (before.getD i1 0) (i1 : Int)), (i1 + 1)) ⟨(by first | omega | (simp [-List.getD_eq_getElem?_getD] <;> omega)), (by first | omega | (simp [-List.getD_eq_getElem?_getD] <;> omega)), (by first | omega | (simp [-List.getD_eq_getElem?_getD] <;> omega)), (by omega), hL1⟩ (Nat.lt_succ_self _) ⟨rfl, rfl, rfl, rfl, rfl, rfl, trivial⟩ (fun w hw => hw)
  · rw [bif_neg h12] at hL1
    have q13 := (of_decide_eq_false h12)
    refine TC.exit ?_
    refine TN.thenE ?_
    refine TN.thenE ?_
    rw [← hL1, elim_next] at hF
    try dsimp only at hF
    refine TN.blockH ?_
    refine TN.seq ?_
    refine TC.seq ?_
    refine TC.region ?_
    refine TL.op (yq (y_move (ev_t rfl))) rfl rfl rfl ?_
    refine TL.op (yq (y_assign (ev_t rfl))) rfl rfl rfl ?_
    refine TL.nil ?_
    refine TN.seq ?_
    refine TC.ret ?_
    subst hF
    exact TN.ret1 rfl (ev_t rfl) (fun w' hw => ⟨rfl, Hp.sublist hw (List.nil_sublist _)⟩)

set_option maxRecDepth 4000 in
set_option maxHeartbeats 1000000 in
theorem spec_FlowCost_ok (w : World) (vm : Value) (um : List Value) (m : List (List Int)) (hm : RII w vm um m) (va : Value) (a : List Int) (ha : RI w va a) (vreqs : Value) (reqs : List Int) (hreqs : RI w vreqs reqs)  :
    Calls Try.prog 50 ([(.agg #[vm]), va, vreqs] : List Value).toArray w (Ret (.tuple #[(.int .i64 ((F_spec_FlowCost m a reqs).1)), (.bool ((F_spec_FlowCost m a reqs).2))]) (Hp w [])) := by
  obtain ⟨rz, hF⟩ : ∃ rz, (F_spec_FlowCost m a reqs) = rz := ⟨_, rfl⟩
  rw [hF]
  unfold F_spec_FlowCost at hF
  have hlen_m := argT_len hm
  have hlen_a := arg_len ha
  have hlen_reqs := arg_len hreqs
  refine calls_tc Try.func50 rfl rfl rfl ?_
  change TC _ _ _ _ (Hp w []) [(0, (.agg #[vm])), (1, va), (2, vreqs)]
  refine TC.seq ?_
  refine TC.region ?_
  refine TL.box (ev_t rfl) rfl (fun g0_0 => ?_)
  refine TL.op (yq (y_assign ev_c)) rfl rfl rfl ?_
  refine TL.op (yq (y_assign ev_c)) rfl rfl rfl ?_
  refine TL.nil ?_
  refine TN.seq ?_
  refine TC.seq ?_
  refine TC.seq ?_
  refine TC.region ?_
  refine TL.op (yq (y_ldagg (cs := [vm]) 0 (ev_t rfl) agg_55 rfl)) rfl rfl rfl ?_
  refine TL.op (y_call (vs := [(.agg #[vm])]) (v := (.bool (F_spec_l6Good m))) en_88 ⟨(ev_t rfl), trivial⟩ (fun w hw => spec_l6Good_ok w vm um m ((rii_arg hm) w hw))) rfl rfl rfl ?_
  refine TL.op (yq (y_not (ev_t rfl))) rfl rfl rfl ?_
  refine TL.op (yq (y_move (ev_t rfl))) rfl rfl rfl ?_
  refine TL.opw (w_f rfl rfl rfl) (fun hg => yq (y_ldagg (cs := [vm]) 0 (ev_t rfl) agg_55 rfl)) rfl rfl ?_
  refine TL.opw (w_f rfl rfl rfl) (fun hg => yq (y_move (ev_t rfl))) rfl rfl ?_
  refine TL.opw (w_f rfl rfl rfl) (fun hg => yq (y_move (ev_t rfl))) rfl rfl ?_
  refine TL.opw (w_f rfl rfl rfl) (fun hg => y_call (vs := [(.agg #[vm]), va, vreqs]) (v := (.bool (F_spec_l6Start m a reqs))) en_97 ⟨(ev_g rfl hg), (ev_g rfl hg), (ev_g rfl hg), trivial⟩ (fun w hw => spec_l6Start_ok w vm um m ((rii_arg hm) w hw) va a ((ri_arg ha) w hw) vreqs reqs ((ri_arg hreqs) w hw))) rfl rfl ?_
  refine TL.opw (w_f rfl rfl rfl) (fun hg => yq (y_not (ev_g rfl hg))) rfl rfl ?_
  refine TL.op (yq (y_or (ev_t rfl) (fun hq => (ev_g rfl hq)))) rfl rfl rfl ?_
  refine TL.nil ?_
  refine TN.seq ?_
  refine TC.cond (b := ((!(F_spec_l6Good m)) || (!(F_spec_l6Start m a reqs)))) (ev_t rfl) (fun h3 => ?_) (fun h3 => ?_)
  · rw [bif_pos h3] at hF
    have q4 := ((or_t h3).imp (fun h => (not_t h)) (fun h => (not_t h)))
    refine TC.seq ?_
    refine TC.region ?_
    refine TL.op (yq (y_assign ev_c)) rfl rfl rfl ?_
    refine TL.op (yq (y_assign ev_c)) rfl rfl rfl ?_
    refine TL.nil ?_
    refine TN.seq ?_
    refine TC.ret ?_
    refine TN.thenR ?_
    subst hF
    exact TN.ret2 rfl (ev_t rfl) (ev_t rfl) (fun w' hw => ⟨rfl, Hp.sublist hw (List.nil_sublist _)⟩)
  · rw [bif_neg h3] at hF
    have q4 := (and_imp (or_f h3) (fun h => (l6Good_t (not_f h))) (fun h => (l6Start_t (not_f h))))
    have hS := q4.2
    have hfw := flow_ok hS
    have hf1 := hfw.1
    have hf2 := hfw.2.1
    refine TC.skip ?_
    refine TN.seq ?_
    refine TC.seq ?_
    refine TC.regionH 10 (Hp w [.blk g0_0 55 [vm]]) rfl (by kernel_rfl) dr_hp (fun w hw => hw) ?_
    refine TH.take 0 rfl (by kernel_rfl) (y_ldagg (cs := [vm]) 0 (ev_t rfl) agg_55 rfl) rfl rfl rfl ?_
    refine TH.take 1 rfl (by kernel_rfl) (y_move (ev_t rfl)) rfl rfl rfl ?_
    refine TH.take 2 rfl (by kernel_rfl) (y_move (ev_t rfl)) rfl rfl rfl ?_
    refine TH.take 3 rfl (by kernel_rfl) (y_ldagg (cs := [vm]) 0 (ev_t rfl) agg_55 rfl) rfl rfl rfl ?_
    refine TH.take 4 rfl (by kernel_rfl) (y_move (ev_t rfl)) rfl rfl rfl ?_
    refine TH.take 5 rfl (by kernel_rfl) (y_move (ev_t rfl)) rfl rfl rfl ?_
    refine TH.loud 6 rfl (by kernel_rfl) ?_
    refine TL.callr (ι := Value) (vs := [(.agg #[vm]), va, vreqs]) (fun i => i) (fun i => [rowI 3 i (F_spec_l7Flow m a reqs)]) en_99 ⟨(ev_t rfl), (ev_t rfl), (ev_t rfl), trivial⟩ rfl (fun w hw => spec_l7Flow_ok w vm um m ((rii_arg hm) w hw) va a ((ri_arg ha) w hw) vreqs reqs ((ri_arg hreqs) w hw) (by first | assumption | omega | grind)) (fun r3_6 => ?_)
    refine TL.nil ?_
    refine TH.back (fun w hw => Hp.sublist hw (.cons _ (.cons_cons _ .slnil))) ?_
    refine TH.loud 7 rfl (by kernel_rfl) ?_
    refine TL.op (y_call (vs := [(.agg #[vm]), va, vreqs, r3_6]) (v := (.int .i64 (F_spec_l7Cost m a reqs (F_spec_l7Flow m a reqs)))) en_98 ⟨(ev_t rfl), (ev_t rfl), (ev_t rfl), (ev_t rfl), trivial⟩ (fun w hw => spec_l7Cost_ok w vm um m ((rii_arg hm) w hw) va a ((ri_arg ha) w hw) vreqs reqs ((ri_arg hreqs) w hw) r3_6 (F_spec_l7Flow m a reqs) ((ri_row 0 rfl) w hw) (by first | assumption | omega | grind) (by first | assumption | omega | grind) (by first | assumption | omega | grind))) rfl rfl rfl ?_
    refine TL.nil ?_
    refine TH.back (fun w hw => Hp.sublist hw (.cons _ (.cons_cons _ .slnil))) ?_
    refine TH.take 8 rfl (by kernel_rfl) (y_assign (ev_t rfl)) rfl rfl rfl ?_
    refine TH.take 9 rfl (by kernel_rfl) (y_assign ev_c) rfl rfl rfl ?_
    refine TH.done (by kernel_rfl) ?_
    refine TN.seq ?_
    refine TC.ret ?_
    subst hF
    exact TN.ret2 rfl (ev_t rfl) (ev_t rfl) (fun w' hw => ⟨rfl, Hp.sublist hw (List.nil_sublist _)⟩)

end Go.Proofs.Ytcmhgkcifejgcaa
