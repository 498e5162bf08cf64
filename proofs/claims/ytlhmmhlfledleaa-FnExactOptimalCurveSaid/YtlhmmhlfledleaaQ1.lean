/-
  Walks of functions of the program: each computes its plain function. No condition but the bounds that are typed.
-/
import Derived.Test.YtlhmmhlfledleaaQL
namespace Go.Proofs.Ytlhmmhlfledleaa
open Go Go.RowKit
set_option linter.unusedVariables false

set_option maxRecDepth 4000 in
set_option maxHeartbeats 1000000 in
theorem spec_l1In_ok (w : World) (x : Int) (a : Int) (b : Int)  :
    Calls Try.prog 83 ([(.int .i64 x), (.int .i64 a), (.int .i64 b)] : List Value).toArray w (Ret (.bool (F_spec_l1In x a b)) (Hp w [])) := by
  obtain ⟨rz, hF⟩ : ∃ rz, (F_spec_l1In x a b) = rz := ⟨_, rfl⟩
  rw [hF]
  unfold F_spec_l1In at hF
  refine calls_tc Try.func83 rfl rfl rfl ?_
  change TC _ _ _ _ (Hp w []) [(0, (.int .i64 x)), (1, (.int .i64 a)), (2, (.int .i64 b))]
  refine TC.seq ?_
  refine TC.region ?_
  refine TL.op (yq (y_assign ev_c)) rfl rfl rfl ?_
  refine TL.nil ?_
  refine TN.seq ?_
  refine TC.seq ?_
  refine TC.region ?_
  refine TL.op (yq (y_move (ev_t rfl))) rfl rfl rfl ?_
  refine TL.op (yq (y_move (ev_t rfl))) rfl rfl rfl ?_
  refine TL.op (yq (y_geq (ev_t rfl) (ev_t rfl))) rfl rfl rfl ?_
  refine TL.op (yq (y_move (ev_t rfl))) rfl rfl rfl ?_
  refine TL.opw (w_t rfl rfl rfl) (fun hg => yq (y_move (ev_t rfl))) rfl rfl ?_
  refine TL.opw (w_t rfl rfl rfl) (fun hg => yq (y_move (ev_t rfl))) rfl rfl ?_
  refine TL.opw (w_t rfl rfl rfl) (fun hg => yq (y_leq (ev_g rfl hg) (ev_g rfl hg))) rfl rfl ?_
  refine TL.op (yq (y_and (ev_t rfl) (fun hq => (ev_g rfl hq)))) rfl rfl rfl ?_
  refine TL.op (yq (y_assign (ev_t rfl))) rfl rfl rfl ?_
  refine TL.nil ?_
  refine TN.seq ?_
  refine TC.ret ?_
  subst hF
  exact TN.ret1 rfl (ev_t rfl) (fun w' hw => ⟨rfl, hw⟩)

set_option maxRecDepth 4000 in
set_option maxHeartbeats 1000000 in
theorem impl_within_ok (w : World) (n : Int) (lo : Int) (hi : Int)  :
    Calls Try.prog 88 ([(.int .i64 n), (.int .i64 lo), (.int .i64 hi)] : List Value).toArray w (Ret (.bool (F_impl_within n lo hi)) (Hp w [])) := by
  obtain ⟨rz, hF⟩ : ∃ rz, (F_impl_within n lo hi) = rz := ⟨_, rfl⟩
  rw [hF]
  unfold F_impl_within at hF
  refine calls_tc Try.func88 rfl rfl rfl ?_
  change TC _ _ _ _ (Hp w []) [(0, (.int .i64 n)), (1, (.int .i64 lo)), (2, (.int .i64 hi))]
  refine TC.seq ?_
  refine TC.region ?_
  refine TL.op (yq (y_assign ev_c)) rfl rfl rfl ?_
  refine TL.nil ?_
  refine TN.seq ?_
  refine TC.seq ?_
  refine TC.region ?_
  refine TL.op (yq (y_move (ev_t rfl))) rfl rfl rfl ?_
  refine TL.op (yq (y_move (ev_t rfl))) rfl rfl rfl ?_
  refine TL.op (yq (y_geq (ev_t rfl) (ev_t rfl))) rfl rfl rfl ?_
  refine TL.op (yq (y_move (ev_t rfl))) rfl rfl rfl ?_
  refine TL.opw (w_t rfl rfl rfl) (fun hg => yq (y_move (ev_t rfl))) rfl rfl ?_
  refine TL.opw (w_t rfl rfl rfl) (fun hg => yq (y_move (ev_t rfl))) rfl rfl ?_
  refine TL.opw (w_t rfl rfl rfl) (fun hg => yq (y_leq (ev_g rfl hg) (ev_g rfl hg))) rfl rfl ?_
  refine TL.op (yq (y_and (ev_t rfl) (fun hq => (ev_g rfl hq)))) rfl rfl rfl ?_
  refine TL.op (yq (y_assign (ev_t rfl))) rfl rfl rfl ?_
  refine TL.nil ?_
  refine TN.seq ?_
  refine TC.ret ?_
  subst hF
  exact TN.ret1 rfl (ev_t rfl) (fun w' hw => ⟨rfl, hw⟩)

set_option maxRecDepth 4000 in
set_option maxHeartbeats 1000000 in
theorem spec_l1Has_ok (w : World) (vl : Value) (l : List Int) (hl : RI w vl l) (n : Int)  :
    Calls Try.prog 70 ([vl, (.int .i64 n)] : List Value).toArray w (Ret (.bool (F_spec_l1Has l n)) (Hp w [])) := by
  obtain ⟨rz, hF⟩ : ∃ rz, (F_spec_l1Has l n) = rz := ⟨_, rfl⟩
  rw [hF]
  unfold F_spec_l1Has at hF
  have hlen_l := arg_len hl
  refine calls_tc Try.func70 rfl rfl rfl ?_
  change TC _ _ _ _ (Hp w []) [(0, vl), (1, (.int .i64 n))]
  refine TC.seq ?_
  refine TC.region ?_
  refine TL.op (yq (y_assign ev_c)) rfl rfl rfl ?_
  refine TL.nil ?_
  refine TN.seq ?_
  refine TC.seq ?_
  refine TC.seq ?_
  refine TC.region ?_
  refine TL.op (yq (y_assign ev_c)) rfl rfl rfl ?_
  refine TL.nil ?_
  refine TN.seq ?_
  refine TC.block ?_
  obtain ⟨c11, hc12⟩ : ∃ c, F_spec_l1Has_L1 l n ((l.length - 0) + 1) 0 = c := ⟨_, rfl⟩
  rw [hc12] at hF
  refine TC.loop (ι := Nat × Nat) (fun (fu1, i1) => [(0, vl), (1, (.int .i64 n)), (5, (.int .i64 (i1 : Int)))]) (fun (fu1, i1) => Hp w []) (fun (fu1, i1) => (i1 ≤ l.length) ∧ l.length - i1 < fu1 ∧ F_spec_l1Has_L1 l n fu1 i1 = c11) (fun (fu1, i1) => fu1) ((l.length - 0) + 1, 0) ⟨(by first | omega | (simp [-List.getD_eq_getElem?_getD] <;> omega)), (by omega), hc12⟩ ⟨rfl, rfl, rfl, trivial⟩ (fun w hw => hw) ?_
  rintro ⟨fu1, i1⟩ hJ1
  obtain ⟨hi1_0, hmu1, hL1⟩ : (i1 ≤ l.length) ∧ l.length - i1 < fu1 ∧ F_spec_l1Has_L1 l n fu1 i1 = c11 := hJ1
  change TC _ _ _ _ (Hp w []) [(0, vl), (1, (.int .i64 n)), (5, (.int .i64 (i1 : Int)))]
  obtain ⟨mf1, rfl⟩ : ∃ m, fu1 = m + 1 := ⟨fu1 - 1, by omega⟩
  rw [F_spec_l1Has_L1_s] at hL1
  refine TC.seq ?_
  refine TC.seq ?_
  refine TC.region ?_
  refine TL.op (yq (y_move (ev_t rfl))) rfl rfl rfl ?_
  refine TL.op (yq (y_move (ev_t rfl))) rfl rfl rfl ?_
  refine TL.op (yq (y_len (ev_t rfl) Try.underlying22 (fun w hw => ((ri_arg hl) w hw).ln))) rfl rfl rfl ?_
  refine TL.op (yq (y_lss (ev_t rfl) (ev_t rfl))) rfl rfl rfl ?_
  refine TL.nil ?_
  refine TN.seq ?_
  refine TC.cond (b := decide ((i1 : Int) < (l.length : Int))) (ev_t rfl) (fun h13 => ?_) (fun h13 => ?_)
  · rw [bif_pos h13] at hL1
    have q14 := (of_decide_eq_true h13)
    refine TC.skip ?_
    refine TN.seq ?_
    refine TC.seq ?_
    refine TC.block ?_
    refine TC.seq ?_
    refine TC.region ?_
    refine TL.op (yq (y_move (ev_t rfl))) rfl rfl rfl ?_
    refine TL.op (yq (y_move (ev_t rfl))) rfl rfl rfl ?_
    have hb15 : i1 < l.length := (by first | omega | (simp only [List.length_set, List.length_append, List.length_cons, List.length_nil, List.length_replicate]; omega) | (rw [sortI_length]; simp only [List.length_cons, List.length_nil]; omega))
    refine TL.op (yq (y_idx (k := i1) (ev_t rfl) (ev_t rfl) (by first | omega | simp) slT_22 (ri_arg hl) hb15)) rfl rfl rfl ?_
    refine TL.op (yq (y_ldi (ev_t rfl) one_3 (ri_arg hl) hb15)) rfl rfl rfl ?_
    refine TL.op (yq (y_move (ev_t rfl))) rfl rfl rfl ?_
    refine TL.op (yq (y_eql (ev_t rfl) (ev_t rfl))) rfl rfl rfl ?_
    refine TL.nil ?_
    refine TN.seq ?_
    refine TC.cond (b := decide ((l.getD i1 0) = n)) (ev_t rfl) (fun h16 => ?_) (fun h16 => ?_)
    · rw [bif_pos h16] at hL1
      have q17 := (of_decide_eq_true h16)
      refine TC.seq ?_
      refine TC.region ?_
      refine TL.op (yq (y_assign ev_c)) rfl rfl rfl ?_
      refine TL.nil ?_
      refine TN.seq ?_
      refine TC.ret ?_
      refine TN.blockR ?_
      refine TN.thenR ?_
      refine TN.thenR ?_
      rw [← hL1, elim_ret] at hF
      refine TN.blockR ?_
      refine TN.thenR ?_
      subst hF
      exact TN.ret1 rfl (ev_t rfl) (fun w' hw => ⟨rfl, hw⟩)
    · rw [bif_neg h16] at hL1
      have q17 := (of_decide_eq_false h16)
      refine TC.skip ?_
      refine TN.blockN ?_
      refine TN.seq ?_
      refine TC.region ?_
      refine TL.op (yq (y_move (ev_t rfl))) rfl rfl rfl ?_
      refine TL.op (yq (y_add (ev_t rfl) ev_c (by unfold In64; omega))) rfl rfl rfl ?_
      refine TL.op (yq (y_assign (ev_t rfl))) rfl rfl rfl ?_
      refine TL.nil ?_
      exact TN.hand (mf1, (i1 + 1)) ⟨(by first | omega | (simp [-List.getD_eq_getElem?_getD] <;> omega)), (by omega), hL1⟩ (Nat.lt_succ_self _) ⟨rfl, rfl, rfl, trivial⟩ (fun w hw => hw)
  · rw [bif_neg h13] at hL1
    have q14 := (of_decide_eq_false h13)
    refine TC.exit ?_
    refine TN.thenE ?_
    refine TN.thenE ?_
    rw [← hL1, elim_next] at hF
    try dsimp only at hF
    refine TN.blockH ?_
    refine TN.seq ?_
    refine TC.seq ?_
    refine TC.region ?_
    refine TL.op (yq (y_assign ev_c)) rfl rfl rfl ?_
    refine TL.nil ?_
    refine TN.seq ?_
    refine TC.ret ?_
    subst hF
    exact TN.ret1 rfl (ev_t rfl) (fun w' hw => ⟨rfl, hw⟩)

set_option maxRecDepth 4000 in
set_option maxHeartbeats 1000000 in
theorem spec_l1Own_ok (w : World) (va : Value) (a : List Int) (ha : RI w va a) (hp0 : a.length ≤ 1000000000) :
    Calls Try.prog 73 ([va] : List Value).toArray w (fun e w' => ∃ i : Value, e = .returned i ∧ Hp w [rowI 3 i (F_spec_l1Own a)] w') := by
  obtain ⟨rz, hF⟩ : ∃ rz, (F_spec_l1Own a) = rz := ⟨_, rfl⟩
  rw [hF]
  unfold F_spec_l1Own at hF
  have hlen_a := arg_len ha
  refine calls_tc Try.func73 rfl rfl rfl ?_
  change TC _ _ _ _ (Hp w []) [(0, va)]
  refine TC.seq ?_
  refine TC.region ?_
  refine TL.op (yq (y_assign ev_c)) rfl rfl rfl ?_
  refine TL.nil ?_
  refine TN.seq ?_
  refine TC.seq ?_
  refine TC.region ?_
  refine TL.buildI (zs := []) (qs := []) slT_22 rfl trivial rfl (by decide) rfl (fun v1_0 => ?_)
  refine TL.op (yq (y_move (ev_t rfl))) rfl rfl rfl ?_
  refine TL.appendI 0 (ev_t rfl) (ev_t rfl) rfl slT_22 (ri_arg ha) (by first | omega | (simp [-List.getD_eq_getElem?_getD] <;> omega)) rfl (fun v1_2 => ?_)
  refine TL.op (yq (y_assign (ev_t rfl))) rfl rfl rfl ?_
  refine TL.nil ?_
  refine TN.seq ?_
  refine TC.ret ?_
  subst hF
  exact TN.ret1 rfl (ev_t rfl) (fun w' hw => ⟨v1_2, rfl, hw⟩)

set_option maxRecDepth 4000 in
set_option maxHeartbeats 1000000 in
theorem impl_areBelow_1_ok (w : World) (a : Int) (gn : Nat) (n : Int) (hn : CellAt w gn (.int .i64 n)) (hp0 : -1000000 ≤ n) (hp1 : n ≤ 9223372036854775807) :
    Calls Try.prog 133 ([(.int .i64 a), (.pointer (some ⟨gn, 0, none⟩))] : List Value).toArray w (Ret (.bool (F_impl_areBelow_1 a n)) (Hp w [])) := by
  obtain ⟨rz, hF⟩ : ∃ rz, (F_impl_areBelow_1 a n) = rz := ⟨_, rfl⟩
  rw [hF]
  unfold F_impl_areBelow_1 at hF
  refine calls_tc Try.func133 rfl rfl rfl ?_
  change TC _ _ _ _ (Hp w []) [(0, (.int .i64 a)), (1, (.pointer (some ⟨gn, 0, none⟩)))]
  refine TC.seq ?_
  refine TC.region ?_
  refine TL.op (yq (y_assign ev_c)) rfl rfl rfl ?_
  refine TL.nil ?_
  refine TN.seq ?_
  refine TC.seq ?_
  refine TC.region ?_
  refine TL.op (yq (y_move (ev_t rfl))) rfl rfl rfl ?_
  refine TL.op (yq (y_ldc (ev_t rfl) one_3 hn)) rfl rfl rfl ?_
  refine TL.op (yq (y_sub (ev_t rfl) ev_c (by unfold In64; omega))) rfl rfl rfl ?_
  refine TL.op (y_call (vs := [(.int .i64 a), (.int .i64 0), (.int .i64 (n - 1))]) (v := (.bool ((decide (0 ≤ a)) && (decide (a ≤ (n - 1)))))) en_88 ⟨(ev_t rfl), ev_c, (ev_t rfl), trivial⟩ (fun w hw => impl_within_ok w a 0 (n - 1))) rfl rfl rfl ?_
  refine TL.op (yq (y_not (ev_t rfl))) rfl rfl rfl ?_
  refine TL.op (yq (y_assign (ev_t rfl))) rfl rfl rfl ?_
  refine TL.nil ?_
  refine TN.seq ?_
  refine TC.ret ?_
  subst hF
  exact TN.ret1 rfl (ev_t rfl) (fun w' hw => ⟨rfl, hw⟩)

set_option maxRecDepth 4000 in
set_option maxHeartbeats 1000000 in
theorem impl_areBelow_ok (w : World) (n : Int) (vl : Value) (l : List Int) (hl : RI w vl l) (hp0 : -1000000 ≤ n) (hp1 : n ≤ 9223372036854775807) :
    Calls Try.prog 100 ([(.int .i64 n), vl] : List Value).toArray w (Ret (.bool (F_impl_areBelow n l)) (Hp w [])) := by
  obtain ⟨rz, hF⟩ : ∃ rz, (F_impl_areBelow n l) = rz := ⟨_, rfl⟩
  rw [hF]
  unfold F_impl_areBelow at hF
  have hlen_l := arg_len hl
  refine calls_tc Try.func100 rfl rfl rfl ?_
  change TC _ _ _ _ (Hp w []) [(0, (.int .i64 n)), (1, vl)]
  refine TC.seq ?_
  refine TC.region ?_
  refine TL.box (ev_t rfl) rfl (fun g0_0 => ?_)
  refine TL.op (yq (y_assign ev_c)) rfl rfl rfl ?_
  refine TL.nil ?_
  refine TN.seq ?_
  refine TC.seq ?_
  refine TC.region ?_
  refine TL.op (yq (y_move (ev_t rfl))) rfl rfl rfl ?_
  refine TL.op (yq (y_mkf (us := [(.pointer (some ⟨g0_0, 0, none⟩))]) ⟨(ev_t rfl), trivial⟩)) rfl rfl rfl ?_
  refine TL.op (y_call (vs := [vl, (.func (.func 133) #[] ([(.pointer (some ⟨g0_0, 0, none⟩))] : List Value).toArray)]) (v := (.bool (F_slices_ContainsFunc_Sint_int l (fun a => F_impl_areBelow_1 a n)))) en_86 ⟨(ev_t rfl), (ev_t rfl), trivial⟩ (fun w hw => slices_ContainsFunc_Sint_int_ok w vl l ((ri_arg hl) w hw) 133 [(.pointer (some ⟨g0_0, 0, none⟩))] (fun a => F_impl_areBelow_1 a n) en_133 (fun w2 hb a => impl_areBelow_1_ok w2 a g0_0 n (cell_blk 0 rfl rfl hw hb) (by first | assumption | omega | grind) (by first | assumption | omega | grind)))) rfl rfl rfl ?_
  refine TL.op (yq (y_not (ev_t rfl))) rfl rfl rfl ?_
  refine TL.op (yq (y_assign (ev_t rfl))) rfl rfl rfl ?_
  refine TL.nil ?_
  refine TN.seq ?_
  refine TC.ret ?_
  subst hF
  exact TN.ret1 rfl (ev_t rfl) (fun w' hw => ⟨rfl, Hp.sublist hw (List.nil_sublist _)⟩)

set_option maxRecDepth 4000 in
set_option maxHeartbeats 1000000 in
theorem impl_rising_ok (w : World) (vl : Value) (l : List Int) (hl : RI w vl l) (hp0 : l.length ≤ 100000) :
    Calls Try.prog 91 ([vl] : List Value).toArray w (fun e w' => ∃ i : Value, e = .returned i ∧ Hp w [rowI 3 i (F_impl_rising l)] w') := by
  obtain ⟨rz, hF⟩ : ∃ rz, (F_impl_rising l) = rz := ⟨_, rfl⟩
  rw [hF]
  unfold F_impl_rising at hF
  have hlen_l := arg_len hl
  refine calls_tc Try.func91 rfl rfl rfl ?_
  change TC _ _ _ _ (Hp w []) [(0, vl)]
  refine TC.seq ?_
  refine TC.region ?_
  refine TL.op (yq (y_assign ev_c)) rfl rfl rfl ?_
  refine TL.nil ?_
  refine TN.seq ?_
  refine TC.seq ?_
  refine TC.region ?_
  refine TL.op (yq (y_move (ev_t rfl))) rfl rfl rfl ?_
  refine TL.callr (ι := Value) (vs := [vl]) (fun i => i) (fun i => [rowI 3 i l]) en_103 ⟨(ev_t rfl), trivial⟩ rfl (fun w hw => slices_Clone_Sint_int_ok w vl l ((ri_arg hl) w hw) (by first | assumption | omega | grind)) (fun r1_1 => ?_)
  refine TL.op (yq (y_assign (ev_t rfl))) rfl rfl rfl ?_
  refine TL.nil ?_
  refine TN.seq ?_
  refine TC.seq ?_
  refine TC.region ?_
  refine TL.op (yq (y_move (ev_t rfl))) rfl rfl rfl ?_
  refine TL.callm (ι := Unit) 0 (vs := [r1_1]) (fun _ => (.tuple #[])) (fun _ => rowI 3 r1_1 (sortI l)) en_125 ⟨(ev_t rfl), trivial⟩ rfl rfl (fun w1 fr1 hw => slices_Sort_ok w w1 _ r1_1 l hw (by first | assumption | omega | grind)) (fun _ => ?_)
  refine TL.nil ?_
  refine TN.seq ?_
  refine TC.seq ?_
  refine TC.region ?_
  refine TL.op (yq (y_move (ev_t rfl))) rfl rfl rfl ?_
  refine TL.callmR (ι := Value) 0 (vs := [r1_1]) (fun i => i) (fun i => rowI 3 i (Lib.compact (sortI l))) en_127 ⟨(ev_t rfl), trivial⟩ rfl rfl (fun w1 _ hw => slices_Compact_ok w w1 _ r1_1 (sortI l) hw) (fun r3_1 => ?_)
  refine TL.op (yq (y_assign (ev_t rfl))) rfl rfl rfl ?_
  refine TL.nil ?_
  refine TN.seq ?_
  refine TC.ret ?_
  subst hF
  exact TN.ret1 rfl (ev_t rfl) (fun w' hw => ⟨r3_1, rfl, hw⟩)

set_option maxRecDepth 4000 in
set_option maxHeartbeats 1000000 in
theorem impl_isItems_ok (w : World) (n : Int)  :
    Calls Try.prog 99 ([(.int .i64 n)] : List Value).toArray w (Ret (.bool (F_impl_isItems n)) (Hp w [])) := by
  obtain ⟨rz, hF⟩ : ∃ rz, (F_impl_isItems n) = rz := ⟨_, rfl⟩
  rw [hF]
  unfold F_impl_isItems at hF
  refine calls_tc Try.func99 rfl rfl rfl ?_
  change TC _ _ _ _ (Hp w []) [(0, (.int .i64 n))]
  refine TC.seq ?_
  refine TC.region ?_
  refine TL.op (yq (y_assign ev_c)) rfl rfl rfl ?_
  refine TL.nil ?_
  refine TN.seq ?_
  refine TC.seq ?_
  refine TC.region ?_
  refine TL.op (yq (y_move (ev_t rfl))) rfl rfl rfl ?_
  refine TL.op (y_call (vs := [(.int .i64 n), (.int .i64 1), (.int .i64 8)]) (v := (.bool ((decide (1 ≤ n)) && (decide (n ≤ 8))))) en_88 ⟨(ev_t rfl), ev_c, ev_c, trivial⟩ (fun w hw => impl_within_ok w n 1 8)) rfl rfl rfl ?_
  refine TL.op (yq (y_assign (ev_t rfl))) rfl rfl rfl ?_
  refine TL.nil ?_
  refine TN.seq ?_
  refine TC.ret ?_
  subst hF
  exact TN.ret1 rfl (ev_t rfl) (fun w' hw => ⟨rfl, hw⟩)

set_option maxRecDepth 4000 in
set_option maxHeartbeats 1000000 in
theorem impl_isSize_ok (w : World) (size : Int)  :
    Calls Try.prog 93 ([(.int .i64 size)] : List Value).toArray w (Ret (.bool (F_impl_isSize size)) (Hp w [])) := by
  obtain ⟨rz, hF⟩ : ∃ rz, (F_impl_isSize size) = rz := ⟨_, rfl⟩
  rw [hF]
  unfold F_impl_isSize at hF
  refine calls_tc Try.func93 rfl rfl rfl ?_
  change TC _ _ _ _ (Hp w []) [(0, (.int .i64 size))]
  refine TC.seq ?_
  refine TC.region ?_
  refine TL.op (yq (y_assign ev_c)) rfl rfl rfl ?_
  refine TL.nil ?_
  refine TN.seq ?_
  refine TC.seq ?_
  refine TC.region ?_
  refine TL.op (yq (y_move (ev_t rfl))) rfl rfl rfl ?_
  refine TL.op (y_call (vs := [(.int .i64 size), (.int .i64 1), (.int .i64 6)]) (v := (.bool ((decide (1 ≤ size)) && (decide (size ≤ 6))))) en_88 ⟨(ev_t rfl), ev_c, ev_c, trivial⟩ (fun w hw => impl_within_ok w size 1 6)) rfl rfl rfl ?_
  refine TL.op (yq (y_assign (ev_t rfl))) rfl rfl rfl ?_
  refine TL.nil ?_
  refine TN.seq ?_
  refine TC.ret ?_
  subst hF
  exact TN.ret1 rfl (ev_t rfl) (fun w' hw => ⟨rfl, hw⟩)

set_option maxRecDepth 4000 in
set_option maxHeartbeats 1000000 in
theorem impl_IsRequests_ok (w : World) (n : Int) (vreqs : Value) (reqs : List Int) (hreqs : RI w vreqs reqs)  :
    Calls Try.prog 55 ([(.int .i64 n), vreqs] : List Value).toArray w (Ret (.bool (F_impl_IsRequests n reqs)) (Hp w [])) := by
  obtain ⟨rz, hF⟩ : ∃ rz, (F_impl_IsRequests n reqs) = rz := ⟨_, rfl⟩
  rw [hF]
  unfold F_impl_IsRequests at hF
  have hlen_reqs := arg_len hreqs
  refine calls_tc Try.func55 rfl rfl rfl ?_
  change TC _ _ _ _ (Hp w []) [(0, (.int .i64 n)), (1, vreqs)]
  refine TC.seq ?_
  refine TC.region ?_
  refine TL.op (yq (y_assign ev_c)) rfl rfl rfl ?_
  refine TL.nil ?_
  refine TN.seq ?_
  refine TC.seq ?_
  refine TC.region ?_
  refine TL.op (yq (y_move (ev_t rfl))) rfl rfl rfl ?_
  refine TL.op (y_call (vs := [(.int .i64 n)]) (v := (.bool ((decide (1 ≤ n)) && (decide (n ≤ 8))))) en_99 ⟨(ev_t rfl), trivial⟩ (fun w hw => impl_isItems_ok w n)) rfl rfl rfl ?_
  refine TL.op (yq (y_move (ev_t rfl))) rfl rfl rfl ?_
  refine TL.opw (w_t rfl rfl rfl) (fun hg => yq (y_move (ev_t rfl))) rfl rfl ?_
  refine TL.opw (w_t rfl rfl rfl) (fun hg => yq (y_len (ev_g rfl hg) Try.underlying22 (fun w hw => ((ri_arg hreqs) w hw).ln))) rfl rfl ?_
  refine TL.opw (w_t rfl rfl rfl) (fun hg => yq (y_leq (ev_g rfl hg) ev_c)) rfl rfl ?_
  refine TL.op (yq (y_and (ev_t rfl) (fun hq => (ev_g rfl hq)))) rfl rfl rfl ?_
  refine TL.op (yq (y_move (ev_t rfl))) rfl rfl rfl ?_
  refine TL.opw (w_t rfl rfl rfl) (fun hg => yq (y_move (ev_t rfl))) rfl rfl ?_
  refine TL.opw (w_t rfl rfl rfl) (fun hg => yq (y_move (ev_t rfl))) rfl rfl ?_
  refine TL.opw (w_t rfl rfl rfl) (fun hg => y_call (vs := [(.int .i64 n), vreqs]) (v := (.bool (F_impl_areBelow n reqs))) en_100 ⟨(ev_g rfl hg), (ev_g rfl hg), trivial⟩ (fun w hw => impl_areBelow_ok w n vreqs reqs ((ri_arg hreqs) w hw) (by have hgf := (and_imp (and_t hg) (fun h => (and_imp (and_t h) (fun h => (of_decide_eq_true h)) (fun h => (of_decide_eq_true h)))) (fun h => (of_decide_eq_true h))); first | assumption | omega | (have hq := hgf.n6; omega) | (have hq := hgf.1.n6; omega) | grind) (by have hgf := (and_imp (and_t hg) (fun h => (and_imp (and_t h) (fun h => (of_decide_eq_true h)) (fun h => (of_decide_eq_true h)))) (fun h => (of_decide_eq_true h))); first | assumption | omega | (have hq := hgf.n6; omega) | (have hq := hgf.1.n6; omega) | grind))) rfl rfl ?_
  refine TL.op (yq (y_and (ev_t rfl) (fun hq => (ev_g rfl hq)))) rfl rfl rfl ?_
  refine TL.op (yq (y_assign (ev_t rfl))) rfl rfl rfl ?_
  refine TL.nil ?_
  refine TN.seq ?_
  refine TC.ret ?_
  subst hF
  exact TN.ret1 rfl (ev_t rfl) (fun w' hw => ⟨rfl, hw⟩)

set_option maxRecDepth 4000 in
set_option maxHeartbeats 1000000 in
theorem impl_isPaging_ok (w : World) (k : Int) (n : Int) (vreqs : Value) (reqs : List Int) (hreqs : RI w vreqs reqs)  :
    Calls Try.prog 50 ([(.int .i64 k), (.int .i64 n), vreqs] : List Value).toArray w (Ret (.bool (F_impl_isPaging k n reqs)) (Hp w [])) := by
  obtain ⟨rz, hF⟩ : ∃ rz, (F_impl_isPaging k n reqs) = rz := ⟨_, rfl⟩
  rw [hF]
  unfold F_impl_isPaging at hF
  have hlen_reqs := arg_len hreqs
  refine calls_tc Try.func50 rfl rfl rfl ?_
  change TC _ _ _ _ (Hp w []) [(0, (.int .i64 k)), (1, (.int .i64 n)), (2, vreqs)]
  refine TC.seq ?_
  refine TC.region ?_
  refine TL.op (yq (y_assign ev_c)) rfl rfl rfl ?_
  refine TL.nil ?_
  refine TN.seq ?_
  refine TC.seq ?_
  refine TC.region ?_
  refine TL.op (yq (y_move (ev_t rfl))) rfl rfl rfl ?_
  refine TL.op (y_call (vs := [(.int .i64 k)]) (v := (.bool ((decide (1 ≤ k)) && (decide (k ≤ 6))))) en_93 ⟨(ev_t rfl), trivial⟩ (fun w hw => impl_isSize_ok w k)) rfl rfl rfl ?_
  refine TL.op (yq (y_move (ev_t rfl))) rfl rfl rfl ?_
  refine TL.opw (w_t rfl rfl rfl) (fun hg => yq (y_move (ev_t rfl))) rfl rfl ?_
  refine TL.opw (w_t rfl rfl rfl) (fun hg => yq (y_move (ev_t rfl))) rfl rfl ?_
  refine TL.opw (w_t rfl rfl rfl) (fun hg => y_call (vs := [(.int .i64 n), vreqs]) (v := (.bool (F_impl_IsRequests n reqs))) en_55 ⟨(ev_g rfl hg), (ev_g rfl hg), trivial⟩ (fun w hw => impl_IsRequests_ok w n vreqs reqs ((ri_arg hreqs) w hw))) rfl rfl ?_
  refine TL.op (yq (y_and (ev_t rfl) (fun hq => (ev_g rfl hq)))) rfl rfl rfl ?_
  refine TL.op (yq (y_assign (ev_t rfl))) rfl rfl rfl ?_
  refine TL.nil ?_
  refine TN.seq ?_
  refine TC.ret ?_
  subst hF
  exact TN.ret1 rfl (ev_t rfl) (fun w' hw => ⟨rfl, hw⟩)

set_option maxRecDepth 4000 in
set_option maxHeartbeats 1000000 in
theorem impl_isPlanList_1_ok (w : World) (p : Int) (gn : Nat) (n : Int) (hn : CellAt w gn (.int .i64 n)) (hp0 : -1 ≤ n ∧ n ≤ 100) :
    Calls Try.prog 87 ([(.int .i64 p), (.pointer (some ⟨gn, 0, none⟩))] : List Value).toArray w (Ret (.bool (F_impl_isPlanList_1 p n)) (Hp w [])) := by
  obtain ⟨rz, hF⟩ : ∃ rz, (F_impl_isPlanList_1 p n) = rz := ⟨_, rfl⟩
  rw [hF]
  unfold F_impl_isPlanList_1 at hF
  refine calls_tc Try.func87 rfl rfl rfl ?_
  change TC _ _ _ _ (Hp w []) [(0, (.int .i64 p)), (1, (.pointer (some ⟨gn, 0, none⟩)))]
  refine TC.seq ?_
  refine TC.region ?_
  refine TL.op (yq (y_assign ev_c)) rfl rfl rfl ?_
  refine TL.nil ?_
  refine TN.seq ?_
  refine TC.seq ?_
  refine TC.region ?_
  refine TL.op (yq (y_move (ev_t rfl))) rfl rfl rfl ?_
  refine TL.op (yq (y_ldc (ev_t rfl) one_3 hn)) rfl rfl rfl ?_
  refine TL.op (yq (y_sub (ev_t rfl) ev_c (by unfold In64; omega))) rfl rfl rfl ?_
  refine TL.op (y_call (vs := [(.int .i64 p), (.int .i64 (-1)), (.int .i64 (n - 1))]) (v := (.bool ((decide ((-1) ≤ p)) && (decide (p ≤ (n - 1)))))) en_88 ⟨(ev_t rfl), ev_c, (ev_t rfl), trivial⟩ (fun w hw => impl_within_ok w p (-1) (n - 1))) rfl rfl rfl ?_
  refine TL.op (yq (y_not (ev_t rfl))) rfl rfl rfl ?_
  refine TL.op (yq (y_assign (ev_t rfl))) rfl rfl rfl ?_
  refine TL.nil ?_
  refine TN.seq ?_
  refine TC.ret ?_
  subst hF
  exact TN.ret1 rfl (ev_t rfl) (fun w' hw => ⟨rfl, hw⟩)

set_option maxRecDepth 4000 in
set_option maxHeartbeats 1000000 in
theorem impl_isPlanList_ok (w : World) (k : Int) (n : Int) (vreqs : Value) (reqs : List Int) (hreqs : RI w vreqs reqs) (vplan : Value) (plan : List Int) (hplan : RI w vplan plan)  :
    Calls Try.prog 47 ([(.int .i64 k), (.int .i64 n), vreqs, vplan] : List Value).toArray w (Ret (.bool (F_impl_isPlanList k n reqs plan)) (Hp w [])) := by
  obtain ⟨rz, hF⟩ : ∃ rz, (F_impl_isPlanList k n reqs plan) = rz := ⟨_, rfl⟩
  rw [hF]
  unfold F_impl_isPlanList at hF
  have hlen_reqs := arg_len hreqs
  have hlen_plan := arg_len hplan
  refine calls_tc Try.func47 rfl rfl rfl ?_
  change TC _ _ _ _ (Hp w []) [(0, (.int .i64 k)), (1, (.int .i64 n)), (2, vreqs), (3, vplan)]
  refine TC.seq ?_
  refine TC.region ?_
  refine TL.box (ev_t rfl) rfl (fun g0_0 => ?_)
  refine TL.op (yq (y_assign ev_c)) rfl rfl rfl ?_
  refine TL.nil ?_
  refine TN.seq ?_
  refine TC.seq ?_
  refine TC.region ?_
  refine TL.op (yq (y_move (ev_t rfl))) rfl rfl rfl ?_
  refine TL.op (yq (y_ldb 0 (ev_t rfl) one_3 rfl rfl)) rfl rfl rfl ?_
  refine TL.op (yq (y_move (ev_t rfl))) rfl rfl rfl ?_
  refine TL.op (y_call (vs := [(.int .i64 k), (.int .i64 n), vreqs]) (v := (.bool (F_impl_isPaging k n reqs))) en_50 ⟨(ev_t rfl), (ev_t rfl), (ev_t rfl), trivial⟩ (fun w hw => impl_isPaging_ok w k n vreqs reqs ((ri_arg hreqs) w hw))) rfl rfl rfl ?_
  refine TL.op (yq (y_move (ev_t rfl))) rfl rfl rfl ?_
  refine TL.opw (w_t rfl rfl rfl) (fun hg => yq (y_move (ev_t rfl))) rfl rfl ?_
  refine TL.opw (w_t rfl rfl rfl) (fun hg => yq (y_len (ev_g rfl hg) Try.underlying22 (fun w hw => ((ri_arg hplan) w hw).ln))) rfl rfl ?_
  refine TL.opw (w_t rfl rfl rfl) (fun hg => yq (y_move (ev_t rfl))) rfl rfl ?_
  refine TL.opw (w_t rfl rfl rfl) (fun hg => yq (y_len (ev_g rfl hg) Try.underlying22 (fun w hw => ((ri_arg hreqs) w hw).ln))) rfl rfl ?_
  refine TL.opw (w_t rfl rfl rfl) (fun hg => yq (y_eql (ev_g rfl hg) (ev_g rfl hg))) rfl rfl ?_
  refine TL.op (yq (y_and (ev_t rfl) (fun hq => (ev_g rfl hq)))) rfl rfl rfl ?_
  refine TL.op (yq (y_move (ev_t rfl))) rfl rfl rfl ?_
  refine TL.opw (w_t rfl rfl rfl) (fun hg => yq (y_move (ev_t rfl))) rfl rfl ?_
  refine TL.opw (w_t rfl rfl rfl) (fun hg => yq (y_mkf (us := [(.pointer (some ⟨g0_0, 0, none⟩))]) ⟨(ev_t rfl), trivial⟩)) rfl rfl ?_
  refine TL.opw (w_t rfl rfl rfl) (fun hg => y_call (vs := [vplan, (.func (.func 87) #[] ([(.pointer (some ⟨g0_0, 0, none⟩))] : List Value).toArray)]) (v := (.bool (F_slices_ContainsFunc_Sint_int plan (fun p => F_impl_isPlanList_1 p n)))) en_86 ⟨(ev_g rfl hg), (ev_g rfl hg), trivial⟩ (fun w hw => slices_ContainsFunc_Sint_int_ok w vplan plan ((ri_arg hplan) w hw) 87 [(.pointer (some ⟨g0_0, 0, none⟩))] (fun p => F_impl_isPlanList_1 p n) en_87 (fun w2 hb p => impl_isPlanList_1_ok w2 p g0_0 n (cell_blk 0 rfl rfl hw hb) (by have hq := isPaging_t (Bool.and_eq_true_iff.1 hg).1; omega)))) rfl rfl ?_
  refine TL.opw (w_t rfl rfl rfl) (fun hg => yq (y_not (ev_g rfl hg))) rfl rfl ?_
  refine TL.op (yq (y_and (ev_t rfl) (fun hq => (ev_g rfl hq)))) rfl rfl rfl ?_
  refine TL.op (yq (y_assign (ev_t rfl))) rfl rfl rfl ?_
  refine TL.nil ?_
  refine TN.seq ?_
  refine TC.ret ?_
  subst hF
  exact TN.ret1 rfl (ev_t rfl) (fun w' hw => ⟨rfl, Hp.sublist hw (List.nil_sublist _)⟩)

set_option maxRecDepth 4000 in
set_option maxHeartbeats 1000000 in
theorem impl_played_ok (w : World) (k : Int) (vreqs : Value) (reqs : List Int) (hreqs : RI w vreqs reqs) (vplan : Value) (plan : List Int) (hplan : RI w vplan plan) (hp0 : plan.length = reqs.length) (hp1 : reqs.length ≤ 1000) :
    Calls Try.prog 48 ([(.int .i64 k), vreqs, vplan] : List Value).toArray w (fun e w' => ∃ i : Value × List Value, e = .returned (.tuple #[i.1, (.int .i64 ((F_impl_played k reqs plan).2.1)), (.bool ((F_impl_played k reqs plan).2.2))]) ∧ Hp w [tabI 22 3 i.1 i.2 ((F_impl_played k reqs plan).1)] w') := by
  obtain ⟨rz, hF⟩ : ∃ rz, (F_impl_played k reqs plan) = rz := ⟨_, rfl⟩
  rw [hF]
  unfold F_impl_played at hF
  have hlen_reqs := arg_len hreqs
  have hlen_plan := arg_len hplan
  refine calls_tc Try.func48 rfl rfl rfl ?_
  change TC _ _ _ _ (Hp w []) [(0, (.int .i64 k)), (1, vreqs), (2, vplan)]
  refine TC.seq ?_
  refine TC.region ?_
  refine TL.op (yq (y_assign ev_c)) rfl rfl rfl ?_
  refine TL.op (yq (y_assign ev_c)) rfl rfl rfl ?_
  refine TL.op (yq (y_assign ev_c)) rfl rfl rfl ?_
  refine TL.nil ?_
  refine TN.seq ?_
  refine TC.seq ?_
  refine TC.region ?_
  refine TL.buildI (zs := []) (qs := []) slT_22 rfl trivial rfl (by decide) rfl (fun v1_0 => ?_)
  refine TL.op (yq (y_assign (ev_t rfl))) rfl rfl rfl ?_
  refine TL.nil ?_
  refine TN.seq ?_
  refine TC.seq ?_
  refine TC.region ?_
  refine TL.buildSlice (zs := []) (vs := []) slT_33 rfl trivial (by simp) rfl (by decide) rfl (fun v2_0 => ?_)
  refine TL.cls (fun w hw => hw.emptyTab 3) ?_
  refine TL.op (yq (y_assign (ev_t rfl))) rfl rfl rfl ?_
  refine TL.nil ?_
  refine TN.seq ?_
  refine TC.seq ?_
  refine TC.region ?_
  refine TL.op (yq (y_assign ev_c)) rfl rfl rfl ?_
  refine TL.nil ?_
  refine TN.seq ?_
  refine TC.seq ?_
  refine TC.seq ?_
  refine TC.region ?_
  refine TL.op (yq (y_move (ev_t rfl))) rfl rfl rfl ?_
  refine TL.op (yq (y_len (ev_t rfl) Try.underlying22 (fun w hw => ((ri_arg hreqs) w hw).ln))) rfl rfl rfl ?_
  refine TL.op (yq (y_move ev_c)) rfl rfl rfl ?_
  refine TL.nil ?_
  refine TN.seq ?_
  refine TC.block ?_
  obtain ⟨c33, hc34⟩ : ∃ c, F_impl_played_L1 k reqs plan ((reqs.length - 0) + 1) (([] : List Int), ([]), 0, 0) = c := ⟨_, rfl⟩
  rw [hc34] at hF
  refine TC.loop (ι := Nat × List Int × List (List Int) × Nat × Nat × Value × Value × List Value) (fun (fu1, k9_1, k10_1, k11_1, k20_1, vk9_1, vk10_1, uk10_1) => [(0, (.int .i64 k)), (2, vplan), (9, vk9_1), (10, vk10_1), (11, (.int .i64 (k11_1 : Int))), (18, vreqs), (19, (.int .i64 (reqs.length : Int))), (20, (.int .i64 (k20_1 : Int)))]) (fun (fu1, k9_1, k10_1, k11_1, k20_1, vk9_1, vk10_1, uk10_1) => Hp w [tabI 22 3 vk10_1 uk10_1 k10_1, rowI 3 vk9_1 k9_1]) (fun (fu1, k9_1, k10_1, k11_1, k20_1, vk9_1, vk10_1, uk10_1) => (k20_1 ≤ reqs.length) ∧ (k9_1.length ≤ k20_1) ∧ (k10_1.length ≤ k20_1) ∧ (k11_1 ≤ k20_1) ∧ reqs.length - k20_1 < fu1 ∧ F_impl_played_L1 k reqs plan fu1 (k9_1, k10_1, k11_1, k20_1) = c33) (fun (fu1, k9_1, k10_1, k11_1, k20_1, vk9_1, vk10_1, uk10_1) => fu1) ((reqs.length - 0) + 1, ([] : List Int), [], 0, 0, v1_0, v2_0, []) ⟨(by first | omega | (simp [-List.getD_eq_getElem?_getD] <;> omega)), (by first | omega | (simp [-List.getD_eq_getElem?_getD] <;> omega)), (by first | omega | (simp [-List.getD_eq_getElem?_getD] <;> omega)), (by first | omega | (simp [-List.getD_eq_getElem?_getD] <;> omega)), (by omega), hc34⟩ ⟨rfl, rfl, rfl, rfl, rfl, rfl, rfl, rfl, trivial⟩ (fun w hw => hw) ?_
  rintro ⟨fu1, k9_1, k10_1, k11_1, k20_1, vk9_1, vk10_1, uk10_1⟩ hJ1
  obtain ⟨hi1_0, hi1_1, hi1_2, hi1_3, hmu1, hL1⟩ : (k20_1 ≤ reqs.length) ∧ (k9_1.length ≤ k20_1) ∧ (k10_1.length ≤ k20_1) ∧ (k11_1 ≤ k20_1) ∧ reqs.length - k20_1 < fu1 ∧ F_impl_played_L1 k reqs plan fu1 (k9_1, k10_1, k11_1, k20_1) = c33 := hJ1
  change TC _ _ _ _ (Hp w [tabI 22 3 vk10_1 uk10_1 k10_1, rowI 3 vk9_1 k9_1]) [(0, (.int .i64 k)), (2, vplan), (9, vk9_1), (10, vk10_1), (11, (.int .i64 (k11_1 : Int))), (18, vreqs), (19, (.int .i64 (reqs.length : Int))), (20, (.int .i64 (k20_1 : Int)))]
  obtain ⟨mf1, rfl⟩ : ∃ m, fu1 = m + 1 := ⟨fu1 - 1, by omega⟩
  rw [F_impl_played_L1_s] at hL1
  have hix := index_bd k9_1 (plan.getD k20_1 0)
  have hdl := delI_len k9_1 (i := F_slices_Index_Sint_int k9_1 (plan.getD k20_1 0)) (j := F_slices_Index_Sint_int k9_1 (plan.getD k20_1 0) + 1)
  refine TC.seq ?_
  refine TC.region ?_
  refine TL.op (yq (y_lss (ev_t rfl) (ev_t rfl))) rfl rfl rfl ?_
  refine TL.nil ?_
  refine TN.seq ?_
  refine TC.seq ?_
  refine TC.cond (b := decide ((k20_1 : Int) < (reqs.length : Int))) (ev_t rfl) (fun h35 => ?_) (fun h35 => ?_)
  · rw [bif_pos h35] at hL1
    have q36 := (of_decide_eq_true h35)
    refine TC.skip ?_
    refine TN.seq ?_
    refine TC.seq ?_
    refine TC.block ?_
    refine TC.seq ?_
    refine TC.region ?_
    refine TL.op (yq (y_move (ev_t rfl))) rfl rfl rfl ?_
    have hb37 : k20_1 < reqs.length := (by first | omega | (simp only [List.length_set, List.length_append, List.length_cons, List.length_nil, List.length_replicate]; omega) | (rw [sortI_length]; simp only [List.length_cons, List.length_nil]; omega))
    refine TL.op (yq (y_idx (k := k20_1) (ev_t rfl) (ev_t rfl) (by first | omega | simp) slT_22 (ri_arg hreqs) hb37)) rfl rfl rfl ?_
    refine TL.op (yq (y_ldi (ev_t rfl) one_3 (ri_arg hreqs) hb37)) rfl rfl rfl ?_
    refine TL.op (yq (y_assign (ev_t rfl))) rfl rfl rfl ?_
    refine TL.op (yq (y_assign (ev_t rfl))) rfl rfl rfl ?_
    refine TL.nil ?_
    refine TN.seq ?_
    refine TC.seq ?_
    refine TC.region ?_
    refine TL.op (yq (y_move (ev_t rfl))) rfl rfl rfl ?_
    refine TL.op (yq (y_move (ev_t rfl))) rfl rfl rfl ?_
    have hb38 : k20_1 < plan.length := (by first | omega | (simp only [List.length_set, List.length_append, List.length_cons, List.length_nil, List.length_replicate]; omega) | (rw [sortI_length]; simp only [List.length_cons, List.length_nil]; omega))
    refine TL.op (yq (y_idx (k := k20_1) (ev_t rfl) (ev_t rfl) (by first | omega | simp) slT_22 (ri_arg hplan) hb38)) rfl rfl rfl ?_
    refine TL.op (yq (y_ldi (ev_t rfl) one_3 (ri_arg hplan) hb38)) rfl rfl rfl ?_
    refine TL.op (yq (y_assign (ev_t rfl))) rfl rfl rfl ?_
    refine TL.nil ?_
    refine TN.seq ?_
    refine TC.seq ?_
    refine TC.seq ?_
    refine TC.region ?_
    refine TL.op (yq (y_move (ev_t rfl))) rfl rfl rfl ?_
    refine TL.op (yq (y_move (ev_t rfl))) rfl rfl rfl ?_
    refine TL.op (y_call (vs := [vk9_1, (.int .i64 (reqs.getD k20_1 0))]) (v := (.bool (F_slices_Contains_Sint_int k9_1 (reqs.getD k20_1 0)))) en_74 ⟨(ev_t rfl), (ev_t rfl), trivial⟩ (fun w hw => slices_Contains_Sint_int_ok w vk9_1 k9_1 ((ri_row 1 rfl) w hw) (reqs.getD k20_1 0))) rfl rfl rfl ?_
    refine TL.nil ?_
    refine TN.seq ?_
    refine TC.cond (b := (F_slices_Contains_Sint_int k9_1 (reqs.getD k20_1 0))) (ev_t rfl) (fun h39 => ?_) (fun h39 => ?_)
    · rw [bif_pos h39] at hL1
      have q40 := h39
      refine TC.seq ?_
      refine TC.region ?_
      refine TL.op (yq (y_move (ev_t rfl))) rfl rfl rfl ?_
      refine TL.op (yq (y_geq (ev_t rfl) ev_c)) rfl rfl rfl ?_
      refine TL.nil ?_
      refine TN.seq ?_
      refine TC.cond (b := decide (0 ≤ (plan.getD k20_1 0))) (ev_t rfl) (fun h41 => ?_) (fun h41 => ?_)
      · rw [bif_pos h41] at hL1
        have q42 := (of_decide_eq_true h41)
        refine TC.seq ?_
        refine TC.region ?_
        refine TL.op (yq (y_assign ev_c)) rfl rfl rfl ?_
        refine TL.op (yq (y_assign ev_c)) rfl rfl rfl ?_
        refine TL.op (yq (y_assign ev_c)) rfl rfl rfl ?_
        refine TL.nil ?_
        refine TN.seq ?_
        refine TC.ret ?_
        refine TN.thenR ?_
        refine TN.blockR ?_
        refine TN.thenR ?_
        refine TN.thenR ?_
        rw [← hL1, elim_ret] at hF
        refine TN.blockR ?_
        refine TN.thenR ?_
        subst hF
        refine TN.cls (fun w hw => hw.nilTab 22 3) ?_
        exact TN.ret3 rfl (ev_t rfl) (ev_t rfl) (ev_t rfl) (fun w' hw => ⟨((.slice none 0 0), []), rfl, Hp.sublist hw (.cons_cons _ (.cons _ (.cons _ .slnil)))⟩)
      · rw [bif_neg h41] at hL1
        have q42 := (of_decide_eq_false h41)
        refine TC.skip ?_
        refine TN.seq ?_
        refine TC.region ?_
        refine TL.op (yq (y_move (ev_t rfl))) rfl rfl rfl ?_
        refine TL.op (yq (y_move (ev_t rfl))) rfl rfl rfl ?_
        refine TL.callr (ι := Value) (vs := [vk9_1]) (fun i => i) (fun i => [rowI 3 i (F_impl_rising k9_1)]) en_91 ⟨(ev_t rfl), trivial⟩ rfl (fun w hw => impl_rising_ok w vk9_1 k9_1 ((ri_row 1 rfl) w hw) (by first | assumption | omega | grind)) (fun r20_2 => ?_)
        refine TL.buildU slT_33 (ev_t rfl) (fun w hw => ((ri_row 0 rfl) w hw).ln) rfl (fun v20_3 => ?_)
        refine TL.appendT 2 1 rfl (ev_t rfl) (ev_t rfl) rfl rfl slT_33 (rd_row 0 rfl) (by first | omega | (simp [-List.getD_eq_getElem?_getD] <;> omega)) rfl (fun v20_4 => ?_)
        refine TL.op (yq (y_assign (ev_t rfl))) rfl rfl rfl ?_
        refine TL.nil ?_
        refine TN.blockN ?_
        refine TN.seq ?_
        refine TC.region ?_
        refine TL.op (yq (y_add (ev_t rfl) ev_c (by unfold In64; omega))) rfl rfl rfl ?_
        refine TL.op (yq (y_move (ev_t rfl))) rfl rfl rfl ?_
        refine TL.nil ?_
        exact TN.hand (mf1, k9_1, (k10_1 ++ [(F_impl_rising k9_1)]), k11_1, (k20_1 + 1), vk9_1, v20_4, (uk10_1 ++ [r20_2])) ⟨(by first | omega | (simp [-List.getD_eq_getElem?_getD] <;> omega)), (by first | omega | (simp [-List.getD_eq_getElem?_getD] <;> omega)), (by first | omega | (simp [-List.getD_eq_getElem?_getD] <;> omega)), (by first | omega | (simp [-List.getD_eq_getElem?_getD] <;> omega)), (by omega), hL1⟩ (Nat.lt_succ_self _) ⟨rfl, rfl, rfl, rfl, rfl, rfl, rfl, rfl, trivial⟩ (fun w hw => Hp.sublist hw (.cons _ (.cons _ (.cons_cons _ (.cons_cons _ .slnil)))))
    · rw [bif_neg h39] at hL1
      have q40 := h39
      refine TC.seq ?_
      refine TC.region ?_
      refine TL.op (yq (y_move (ev_t rfl))) rfl rfl rfl ?_
      refine TL.op (yq (y_add (ev_t rfl) ev_c (by unfold In64; omega))) rfl rfl rfl ?_
      refine TL.op (yq (y_assign (ev_t rfl))) rfl rfl rfl ?_
      refine TL.nil ?_
      refine TN.seq ?_
      refine TC.seq ?_
      refine TC.region ?_
      refine TL.op (yq (y_move (ev_t rfl))) rfl rfl rfl ?_
      refine TL.op (yq (y_move (ev_t rfl))) rfl rfl rfl ?_
      refine TL.op (y_call (vs := [vk9_1, (.int .i64 (plan.getD k20_1 0))]) (v := (.int .i64 (F_slices_Index_Sint_int k9_1 (plan.getD k20_1 0)))) en_89 ⟨(ev_t rfl), (ev_t rfl), trivial⟩ (fun w hw => slices_Index_Sint_int_ok w vk9_1 k9_1 ((ri_row 1 rfl) w hw) (plan.getD k20_1 0))) rfl rfl rfl ?_
      refine TL.op (yq (y_assign (ev_t rfl))) rfl rfl rfl ?_
      refine TL.nil ?_
      refine TN.seq ?_
      refine TC.seq ?_
      refine TC.block ?_
      refine TC.seq ?_
      refine TC.region ?_
      refine TL.op (yq (y_move (ev_t rfl))) rfl rfl rfl ?_
      refine TL.op (yq (y_geq (ev_t rfl) ev_c)) rfl rfl rfl ?_
      refine TL.op (yq (y_assign (ev_t rfl))) rfl rfl rfl ?_
      refine TL.nil ?_
      refine TN.seq ?_
      refine TC.cond (b := decide (0 ≤ (F_slices_Index_Sint_int k9_1 (plan.getD k20_1 0)))) (ev_t rfl) (fun h44 => ?_) (fun h44 => ?_)
      · rw [bif_pos h44] at hL1
        have q45 := (of_decide_eq_true h44)
        refine TC.region ?_
        refine TL.op (yq (y_move (ev_t rfl))) rfl rfl rfl ?_
        refine TL.op (yq (y_move (ev_t rfl))) rfl rfl rfl ?_
        refine TL.op (yq (y_move (ev_t rfl))) rfl rfl rfl ?_
        refine TL.op (yq (y_add (ev_t rfl) ev_c (by unfold In64; omega))) rfl rfl rfl ?_
        refine TL.callmR (ι := Value) 1 (vs := [vk9_1, (.int .i64 (F_slices_Index_Sint_int k9_1 (plan.getD k20_1 0))), (.int .i64 ((F_slices_Index_Sint_int k9_1 (plan.getD k20_1 0)) + 1))]) (fun i => i) (fun i => rowI 3 i (delI k9_1 (F_slices_Index_Sint_int k9_1 (plan.getD k20_1 0)) ((F_slices_Index_Sint_int k9_1 (plan.getD k20_1 0)) + 1))) en_90 ⟨(ev_t rfl), (ev_t rfl), (ev_t rfl), trivial⟩ rfl rfl (fun w1 _ hw => slices_Delete_ok w w1 _ vk9_1 k9_1 hw (F_slices_Index_Sint_int k9_1 (plan.getD k20_1 0)) ((F_slices_Index_Sint_int k9_1 (plan.getD k20_1 0)) + 1) (by first | assumption | omega | grind) (by first | assumption | omega | grind)) (fun r14_4 => ?_)
        refine TL.op (yq (y_assign (ev_t rfl))) rfl rfl rfl ?_
        refine TL.nil ?_
        refine TN.blockN ?_
        refine TN.seq ?_
        refine TC.seq ?_
        refine TC.region ?_
        refine TL.op (yq (y_move (ev_t rfl))) rfl rfl rfl ?_
        refine TL.op (yq (y_move (ev_t rfl))) rfl rfl rfl ?_
        refine TL.buildI (zs := [.tmp 51]) (qs := [(reqs.getD k20_1 0)]) slT_22 rfl ⟨(ev_t rfl), trivial⟩ rfl (by decide) rfl (fun v17_2 => ?_)
        refine TL.appendI 2 (ev_t rfl) (ev_t rfl) rfl slT_22 (ri_row 0 rfl) (by first | omega | (simp [-List.getD_eq_getElem?_getD] <;> omega)) rfl (fun v17_3 => ?_)
        refine TL.op (yq (y_assign (ev_t rfl))) rfl rfl rfl ?_
        refine TL.nil ?_
        refine TN.seq ?_
        refine TC.seq ?_
        refine TC.region ?_
        refine TL.op (yq (y_move (ev_t rfl))) rfl rfl rfl ?_
        refine TL.op (yq (y_len (ev_t rfl) Try.underlying22 (fun w hw => ((ri_row 2 rfl) w hw).ln))) rfl rfl rfl ?_
        refine TL.op (yq (y_move (ev_t rfl))) rfl rfl rfl ?_
        refine TL.op (yq (y_gtr (ev_t rfl) (ev_t rfl))) rfl rfl rfl ?_
        refine TL.nil ?_
        refine TN.seq ?_
        refine TC.cond (b := decide (k < (((delI k9_1 (F_slices_Index_Sint_int k9_1 (plan.getD k20_1 0)) ((F_slices_Index_Sint_int k9_1 (plan.getD k20_1 0)) + 1)) ++ ([(reqs.getD k20_1 0)])).length : Int))) (ev_t rfl) (fun h46 => ?_) (fun h46 => ?_)
        · rw [bif_pos h46] at hL1
          have q47 := (of_decide_eq_true h46)
          refine TC.seq ?_
          refine TC.region ?_
          refine TL.op (yq (y_assign ev_c)) rfl rfl rfl ?_
          refine TL.op (yq (y_assign ev_c)) rfl rfl rfl ?_
          refine TL.op (yq (y_assign ev_c)) rfl rfl rfl ?_
          refine TL.nil ?_
          refine TN.seq ?_
          refine TC.ret ?_
          refine TN.thenR ?_
          refine TN.blockR ?_
          refine TN.thenR ?_
          refine TN.thenR ?_
          rw [← hL1, elim_ret] at hF
          refine TN.blockR ?_
          refine TN.thenR ?_
          subst hF
          refine TN.cls (fun w hw => hw.nilTab 22 3) ?_
          exact TN.ret3 rfl (ev_t rfl) (ev_t rfl) (ev_t rfl) (fun w' hw => ⟨((.slice none 0 0), []), rfl, Hp.sublist hw (.cons_cons _ (.cons _ (.cons _ (.cons _ .slnil))))⟩)
        · rw [bif_neg h46] at hL1
          have q47 := (of_decide_eq_false h46)
          refine TC.skip ?_
          refine TN.seq ?_
          refine TC.region ?_
          refine TL.op (yq (y_move (ev_t rfl))) rfl rfl rfl ?_
          refine TL.op (yq (y_move (ev_t rfl))) rfl rfl rfl ?_
          refine TL.callr (ι := Value) (vs := [v17_3]) (fun i => i) (fun i => [rowI 3 i (F_impl_rising ((delI k9_1 (F_slices_Index_Sint_int k9_1 (plan.getD k20_1 0)) ((F_slices_Index_Sint_int k9_1 (plan.getD k20_1 0)) + 1)) ++ ([(reqs.getD k20_1 0)])))]) en_91 ⟨(ev_t rfl), trivial⟩ rfl (fun w hw => impl_rising_ok w v17_3 ((delI k9_1 (F_slices_Index_Sint_int k9_1 (plan.getD k20_1 0)) ((F_slices_Index_Sint_int k9_1 (plan.getD k20_1 0)) + 1)) ++ ([(reqs.getD k20_1 0)])) ((ri_row 2 rfl) w hw) (by first | assumption | omega | grind)) (fun r20_2 => ?_)
          refine TL.buildU slT_33 (ev_t rfl) (fun w hw => ((ri_row 0 rfl) w hw).ln) rfl (fun v20_3 => ?_)
          refine TL.appendT 3 1 rfl (ev_t rfl) (ev_t rfl) rfl rfl slT_33 (rd_row 0 rfl) (by first | omega | (simp [-List.getD_eq_getElem?_getD] <;> omega)) rfl (fun v20_4 => ?_)
          refine TL.op (yq (y_assign (ev_t rfl))) rfl rfl rfl ?_
          refine TL.nil ?_
          refine TN.blockN ?_
          refine TN.seq ?_
          refine TC.region ?_
          refine TL.op (yq (y_add (ev_t rfl) ev_c (by unfold In64; omega))) rfl rfl rfl ?_
          refine TL.op (yq (y_move (ev_t rfl))) rfl rfl rfl ?_
          refine TL.nil ?_
          exact TN.hand (mf1, ((delI k9_1 (F_slices_Index_Sint_int k9_1 (plan.getD k20_1 0)) ((F_slices_Index_Sint_int k9_1 (plan.getD k20_1 0)) + 1)) ++ ([(reqs.getD k20_1 0)])), (k10_1 ++ [(F_impl_rising ((delI k9_1 (F_slices_Index_Sint_int k9_1 (plan.getD k20_1 0)) ((F_slices_Index_Sint_int k9_1 (plan.getD k20_1 0)) + 1)) ++ ([(reqs.getD k20_1 0)])))]), (k11_1 + 1), (k20_1 + 1), v17_3, v20_4, (uk10_1 ++ [r20_2])) ⟨(by first | omega | (simp [-List.getD_eq_getElem?_getD] <;> omega)), (by first | omega | (simp [-List.getD_eq_getElem?_getD] <;> omega)), (by first | omega | (simp [-List.getD_eq_getElem?_getD] <;> omega)), (by first | omega | (simp [-List.getD_eq_getElem?_getD] <;> omega)), (by omega), hL1⟩ (Nat.lt_succ_self _) ⟨rfl, rfl, rfl, rfl, rfl, rfl, rfl, rfl, trivial⟩ (fun w hw => Hp.sublist hw (.cons _ (.cons _ (.cons _ (.cons_cons _ (.cons_cons _ .slnil))))))
      · rw [bif_neg h44] at hL1
        have q45 := (of_decide_eq_false h44)
        refine TC.seq ?_
        refine TC.region ?_
        refine TL.op (yq (y_move (ev_t rfl))) rfl rfl rfl ?_
        refine TL.op (yq (y_geq (ev_t rfl) ev_c)) rfl rfl rfl ?_
        refine TL.op (yq (y_assign (ev_t rfl))) rfl rfl rfl ?_
        refine TL.nil ?_
        refine TN.seq ?_
        refine TC.cond (b := decide (0 ≤ (plan.getD k20_1 0))) (ev_t rfl) (fun h49 => ?_) (fun h49 => ?_)
        · rw [bif_pos h49] at hL1
          have q50 := (of_decide_eq_true h49)
          refine TC.seq ?_
          refine TC.region ?_
          refine TL.op (yq (y_assign ev_c)) rfl rfl rfl ?_
          refine TL.op (yq (y_assign ev_c)) rfl rfl rfl ?_
          refine TL.op (yq (y_assign ev_c)) rfl rfl rfl ?_
          refine TL.nil ?_
          refine TN.seq ?_
          refine TC.ret ?_
          refine TN.blockR ?_
          refine TN.thenR ?_
          refine TN.thenR ?_
          refine TN.blockR ?_
          refine TN.thenR ?_
          refine TN.thenR ?_
          rw [← hL1, elim_ret] at hF
          refine TN.blockR ?_
          refine TN.thenR ?_
          subst hF
          refine TN.cls (fun w hw => hw.nilTab 22 3) ?_
          exact TN.ret3 rfl (ev_t rfl) (ev_t rfl) (ev_t rfl) (fun w' hw => ⟨((.slice none 0 0), []), rfl, Hp.sublist hw (.cons_cons _ (.cons _ (.cons _ .slnil)))⟩)
        · rw [bif_neg h49] at hL1
          have q50 := (of_decide_eq_false h49)
          refine TC.skip ?_
          refine TN.blockN ?_
          refine TN.seq ?_
          refine TC.seq ?_
          refine TC.region ?_
          refine TL.op (yq (y_move (ev_t rfl))) rfl rfl rfl ?_
          refine TL.op (yq (y_move (ev_t rfl))) rfl rfl rfl ?_
          refine TL.buildI (zs := [.tmp 51]) (qs := [(reqs.getD k20_1 0)]) slT_22 rfl ⟨(ev_t rfl), trivial⟩ rfl (by decide) rfl (fun v17_2 => ?_)
          refine TL.appendI 2 (ev_t rfl) (ev_t rfl) rfl slT_22 (ri_row 0 rfl) (by first | omega | (simp [-List.getD_eq_getElem?_getD] <;> omega)) rfl (fun v17_3 => ?_)
          refine TL.op (yq (y_assign (ev_t rfl))) rfl rfl rfl ?_
          refine TL.nil ?_
          refine TN.seq ?_
          refine TC.seq ?_
          refine TC.region ?_
          refine TL.op (yq (y_move (ev_t rfl))) rfl rfl rfl ?_
          refine TL.op (yq (y_len (ev_t rfl) Try.underlying22 (fun w hw => ((ri_row 2 rfl) w hw).ln))) rfl rfl rfl ?_
          refine TL.op (yq (y_move (ev_t rfl))) rfl rfl rfl ?_
          refine TL.op (yq (y_gtr (ev_t rfl) (ev_t rfl))) rfl rfl rfl ?_
          refine TL.nil ?_
          refine TN.seq ?_
          refine TC.cond (b := decide (k < ((k9_1 ++ ([(reqs.getD k20_1 0)])).length : Int))) (ev_t rfl) (fun h52 => ?_) (fun h52 => ?_)
          · rw [bif_pos h52] at hL1
            have q53 := (of_decide_eq_true h52)
            refine TC.seq ?_
            refine TC.region ?_
            refine TL.op (yq (y_assign ev_c)) rfl rfl rfl ?_
            refine TL.op (yq (y_assign ev_c)) rfl rfl rfl ?_
            refine TL.op (yq (y_assign ev_c)) rfl rfl rfl ?_
            refine TL.nil ?_
            refine TN.seq ?_
            refine TC.ret ?_
            refine TN.thenR ?_
            refine TN.blockR ?_
            refine TN.thenR ?_
            refine TN.thenR ?_
            rw [← hL1, elim_ret] at hF
            refine TN.blockR ?_
            refine TN.thenR ?_
            subst hF
            refine TN.cls (fun w hw => hw.nilTab 22 3) ?_
            exact TN.ret3 rfl (ev_t rfl) (ev_t rfl) (ev_t rfl) (fun w' hw => ⟨((.slice none 0 0), []), rfl, Hp.sublist hw (.cons_cons _ (.cons _ (.cons _ (.cons _ .slnil))))⟩)
          · rw [bif_neg h52] at hL1
            have q53 := (of_decide_eq_false h52)
            refine TC.skip ?_
            refine TN.seq ?_
            refine TC.region ?_
            refine TL.op (yq (y_move (ev_t rfl))) rfl rfl rfl ?_
            refine TL.op (yq (y_move (ev_t rfl))) rfl rfl rfl ?_
            refine TL.callr (ι := Value) (vs := [v17_3]) (fun i => i) (fun i => [rowI 3 i (F_impl_rising (k9_1 ++ ([(reqs.getD k20_1 0)])))]) en_91 ⟨(ev_t rfl), trivial⟩ rfl (fun w hw => impl_rising_ok w v17_3 (k9_1 ++ ([(reqs.getD k20_1 0)])) ((ri_row 2 rfl) w hw) (by first | assumption | omega | grind)) (fun r20_2 => ?_)
            refine TL.buildU slT_33 (ev_t rfl) (fun w hw => ((ri_row 0 rfl) w hw).ln) rfl (fun v20_3 => ?_)
            refine TL.appendT 3 1 rfl (ev_t rfl) (ev_t rfl) rfl rfl slT_33 (rd_row 0 rfl) (by first | omega | (simp [-List.getD_eq_getElem?_getD] <;> omega)) rfl (fun v20_4 => ?_)
            refine TL.op (yq (y_assign (ev_t rfl))) rfl rfl rfl ?_
            refine TL.nil ?_
            refine TN.blockN ?_
            refine TN.seq ?_
            refine TC.region ?_
            refine TL.op (yq (y_add (ev_t rfl) ev_c (by unfold In64; omega))) rfl rfl rfl ?_
            refine TL.op (yq (y_move (ev_t rfl))) rfl rfl rfl ?_
            refine TL.nil ?_
            exact TN.hand (mf1, (k9_1 ++ ([(reqs.getD k20_1 0)])), (k10_1 ++ [(F_impl_rising (k9_1 ++ ([(reqs.getD k20_1 0)])))]), (k11_1 + 1), (k20_1 + 1), v17_3, v20_4, (uk10_1 ++ [r20_2])) ⟨(by first | omega | (simp [-List.getD_eq_getElem?_getD] <;> omega)), (by first | omega | (simp [-List.getD_eq_getElem?_getD] <;> omega)), (by first | omega | (simp [-List.getD_eq_getElem?_getD] <;> omega)), (by first | omega | (simp [-List.getD_eq_getElem?_getD] <;> omega)), (by omega), hL1⟩ (Nat.lt_succ_self _) ⟨rfl, rfl, rfl, rfl, rfl, rfl, rfl, rfl, trivial⟩ (fun w hw => Hp.sublist hw (.cons _ (.cons _ (.cons _ (.cons_cons _ (.cons_cons _ .slnil))))))
  · rw [bif_neg h35] at hL1
    have q36 := (of_decide_eq_false h35)
    refine TC.exit ?_
    refine TN.thenE ?_
    refine TN.thenE ?_
    rw [← hL1, elim_next] at hF
    try dsimp only at hF
    refine TN.blockH ?_
    refine TN.seq ?_
    refine TC.seq ?_
    refine TC.region ?_
    refine TL.op (yq (y_move (ev_t rfl))) rfl rfl rfl ?_
    refine TL.op (yq (y_move (ev_t rfl))) rfl rfl rfl ?_
    refine TL.op (yq (y_assign (ev_t rfl))) rfl rfl rfl ?_
    refine TL.op (yq (y_assign (ev_t rfl))) rfl rfl rfl ?_
    refine TL.op (yq (y_assign ev_c)) rfl rfl rfl ?_
    refine TL.nil ?_
    refine TN.seq ?_
    refine TC.ret ?_
    subst hF
    exact TN.ret3 rfl (ev_t rfl) (ev_t rfl) (ev_t rfl) (fun w' hw => ⟨(vk10_1, uk10_1), rfl, Hp.sublist hw (.cons_cons _ (.cons _ .slnil))⟩)

set_option maxRecDepth 4000 in
set_option maxHeartbeats 1000000 in
theorem impl_PlanFaults_ok (w : World) (k : Int) (n : Int) (vreqs : Value) (reqs : List Int) (hreqs : RI w vreqs reqs) (vplan : Value) (plan : List Int) (hplan : RI w vplan plan)  :
    Calls Try.prog 15 ([(.int .i64 k), (.int .i64 n), vreqs, vplan] : List Value).toArray w (Ret (.tuple #[(.int .i64 ((F_impl_PlanFaults k n reqs plan).1)), (.bool ((F_impl_PlanFaults k n reqs plan).2))]) (Hp w [])) := by
  obtain ⟨rz, hF⟩ : ∃ rz, (F_impl_PlanFaults k n reqs plan) = rz := ⟨_, rfl⟩
  rw [hF]
  unfold F_impl_PlanFaults at hF
  have hlen_reqs := arg_len hreqs
  have hlen_plan := arg_len hplan
  refine calls_tc Try.func15 rfl rfl rfl ?_
  change TC _ _ _ _ (Hp w []) [(0, (.int .i64 k)), (1, (.int .i64 n)), (2, vreqs), (3, vplan)]
  refine TC.seq ?_
  refine TC.region ?_
  refine TL.op (yq (y_assign ev_c)) rfl rfl rfl ?_
  refine TL.op (yq (y_assign ev_c)) rfl rfl rfl ?_
  refine TL.nil ?_
  refine TN.seq ?_
  refine TC.seq ?_
  refine TC.seq ?_
  refine TC.region ?_
  refine TL.op (yq (y_move (ev_t rfl))) rfl rfl rfl ?_
  refine TL.op (yq (y_move (ev_t rfl))) rfl rfl rfl ?_
  refine TL.op (yq (y_move (ev_t rfl))) rfl rfl rfl ?_
  refine TL.op (yq (y_move (ev_t rfl))) rfl rfl rfl ?_
  refine TL.op (y_call (vs := [(.int .i64 k), (.int .i64 n), vreqs, vplan]) (v := (.bool (F_impl_isPlanList k n reqs plan))) en_47 ⟨(ev_t rfl), (ev_t rfl), (ev_t rfl), (ev_t rfl), trivial⟩ (fun w hw => impl_isPlanList_ok w k n vreqs reqs ((ri_arg hreqs) w hw) vplan plan ((ri_arg hplan) w hw))) rfl rfl rfl ?_
  refine TL.op (yq (y_not (ev_t rfl))) rfl rfl rfl ?_
  refine TL.nil ?_
  refine TN.seq ?_
  refine TC.cond (b := !(F_impl_isPlanList k n reqs plan)) (ev_t rfl) (fun h3 => ?_) (fun h3 => ?_)
  · rw [bif_pos h3] at hF
    have q4 := (not_t h3)
    refine TC.seq ?_
    refine TC.region ?_
    refine TL.op (yq (y_assign ev_c)) rfl rfl rfl ?_
    refine TL.op (yq (y_assign ev_c)) rfl rfl rfl ?_
    refine TL.nil ?_
    refine TN.seq ?_
    refine TC.ret ?_
    refine TN.thenR ?_
    subst hF
    exact TN.ret2 rfl (ev_t rfl) (ev_t rfl) (fun w' hw => ⟨rfl, hw⟩)
  · rw [bif_neg h3] at hF
    have q4 := (isPlanList_t (not_f h3))
    refine TC.skip ?_
    refine TN.seq ?_
    refine TC.seq ?_
    refine TC.region ?_
    refine TL.op (yq (y_move (ev_t rfl))) rfl rfl rfl ?_
    refine TL.op (yq (y_move (ev_t rfl))) rfl rfl rfl ?_
    refine TL.op (yq (y_move (ev_t rfl))) rfl rfl rfl ?_
    refine TL.callr (ι := Value × List Value) (vs := [(.int .i64 k), vreqs, vplan]) (fun i => (.tuple #[i.1, (.int .i64 ((F_impl_played k reqs plan).2.1)), (.bool ((F_impl_played k reqs plan).2.2))])) (fun i => [tabI 22 3 i.1 i.2 ((F_impl_played k reqs plan).1)]) en_48 ⟨(ev_t rfl), (ev_t rfl), (ev_t rfl), trivial⟩ rfl (fun w hw => impl_played_ok w k vreqs reqs ((ri_arg hreqs) w hw) vplan plan ((ri_arg hplan) w hw) (by first | assumption | omega | grind) (by first | assumption | omega | grind)) (fun r3_3 => ?_)
    refine TL.op (yq (y_move (ev_t rfl))) rfl rfl rfl ?_
    refine TL.op (yq (y_extract (ev_t rfl) rfl)) rfl rfl rfl ?_
    refine TL.op (yq (y_extract (ev_t rfl) rfl)) rfl rfl rfl ?_
    refine TL.op (yq (y_extract (ev_t rfl) rfl)) rfl rfl rfl ?_
    refine TL.op (yq (y_assign (ev_t rfl))) rfl rfl rfl ?_
    refine TL.op (yq (y_assign (ev_t rfl))) rfl rfl rfl ?_
    refine TL.op (yq (y_assign (ev_t rfl))) rfl rfl rfl ?_
    refine TL.nil ?_
    refine TN.seq ?_
    refine TC.seq ?_
    refine TC.region ?_
    refine TL.op (yq (y_move (ev_t rfl))) rfl rfl rfl ?_
    refine TL.op (yq (y_move (ev_t rfl))) rfl rfl rfl ?_
    refine TL.op (yq (y_assign (ev_t rfl))) rfl rfl rfl ?_
    refine TL.op (yq (y_assign (ev_t rfl))) rfl rfl rfl ?_
    refine TL.nil ?_
    refine TN.seq ?_
    refine TC.ret ?_
    subst hF
    exact TN.ret2 rfl (ev_t rfl) (ev_t rfl) (fun w' hw => ⟨rfl, Hp.sublist hw (List.nil_sublist _)⟩)

set_option maxRecDepth 4000 in
set_option maxHeartbeats 1000000 in
theorem impl_PlanCaches_ok (w : World) (k : Int) (n : Int) (vreqs : Value) (reqs : List Int) (hreqs : RI w vreqs reqs) (vplan : Value) (plan : List Int) (hplan : RI w vplan plan)  :
    Calls Try.prog 24 ([(.int .i64 k), (.int .i64 n), vreqs, vplan] : List Value).toArray w (fun e w' => ∃ i : Value × List Value, e = .returned (.tuple #[i.1, (.bool ((F_impl_PlanCaches k n reqs plan).2))]) ∧ Hp w [tabI 22 3 i.1 i.2 ((F_impl_PlanCaches k n reqs plan).1)] w') := by
  obtain ⟨rz, hF⟩ : ∃ rz, (F_impl_PlanCaches k n reqs plan) = rz := ⟨_, rfl⟩
  rw [hF]
  unfold F_impl_PlanCaches at hF
  have hlen_reqs := arg_len hreqs
  have hlen_plan := arg_len hplan
  refine calls_tc Try.func24 rfl rfl rfl ?_
  change TC _ _ _ _ (Hp w []) [(0, (.int .i64 k)), (1, (.int .i64 n)), (2, vreqs), (3, vplan)]
  refine TC.seq ?_
  refine TC.region ?_
  refine TL.op (yq (y_assign ev_c)) rfl rfl rfl ?_
  refine TL.op (yq (y_assign ev_c)) rfl rfl rfl ?_
  refine TL.nil ?_
  refine TN.seq ?_
  refine TC.seq ?_
  refine TC.seq ?_
  refine TC.region ?_
  refine TL.op (yq (y_move (ev_t rfl))) rfl rfl rfl ?_
  refine TL.op (yq (y_move (ev_t rfl))) rfl rfl rfl ?_
  refine TL.op (yq (y_move (ev_t rfl))) rfl rfl rfl ?_
  refine TL.op (yq (y_move (ev_t rfl))) rfl rfl rfl ?_
  refine TL.op (y_call (vs := [(.int .i64 k), (.int .i64 n), vreqs, vplan]) (v := (.bool (F_impl_isPlanList k n reqs plan))) en_47 ⟨(ev_t rfl), (ev_t rfl), (ev_t rfl), (ev_t rfl), trivial⟩ (fun w hw => impl_isPlanList_ok w k n vreqs reqs ((ri_arg hreqs) w hw) vplan plan ((ri_arg hplan) w hw))) rfl rfl rfl ?_
  refine TL.op (yq (y_not (ev_t rfl))) rfl rfl rfl ?_
  refine TL.nil ?_
  refine TN.seq ?_
  refine TC.cond (b := !(F_impl_isPlanList k n reqs plan)) (ev_t rfl) (fun h3 => ?_) (fun h3 => ?_)
  · rw [bif_pos h3] at hF
    have q4 := (not_t h3)
    refine TC.seq ?_
    refine TC.region ?_
    refine TL.op (yq (y_assign ev_c)) rfl rfl rfl ?_
    refine TL.op (yq (y_assign ev_c)) rfl rfl rfl ?_
    refine TL.nil ?_
    refine TN.seq ?_
    refine TC.ret ?_
    refine TN.thenR ?_
    subst hF
    refine TN.cls (fun w hw => hw.nilTab 22 3) ?_
    exact TN.ret2 rfl (ev_t rfl) (ev_t rfl) (fun w' hw => ⟨((.slice none 0 0), []), rfl, hw⟩)
  · rw [bif_neg h3] at hF
    have q4 := (isPlanList_t (not_f h3))
    refine TC.skip ?_
    refine TN.seq ?_
    refine TC.seq ?_
    refine TC.region ?_
    refine TL.op (yq (y_move (ev_t rfl))) rfl rfl rfl ?_
    refine TL.op (yq (y_move (ev_t rfl))) rfl rfl rfl ?_
    refine TL.op (yq (y_move (ev_t rfl))) rfl rfl rfl ?_
    refine TL.callr (ι := Value × List Value) (vs := [(.int .i64 k), vreqs, vplan]) (fun i => (.tuple #[i.1, (.int .i64 ((F_impl_played k reqs plan).2.1)), (.bool ((F_impl_played k reqs plan).2.2))])) (fun i => [tabI 22 3 i.1 i.2 ((F_impl_played k reqs plan).1)]) en_48 ⟨(ev_t rfl), (ev_t rfl), (ev_t rfl), trivial⟩ rfl (fun w hw => impl_played_ok w k vreqs reqs ((ri_arg hreqs) w hw) vplan plan ((ri_arg hplan) w hw) (by first | assumption | omega | grind) (by first | assumption | omega | grind)) (fun r3_3 => ?_)
    refine TL.op (yq (y_move (ev_t rfl))) rfl rfl rfl ?_
    refine TL.op (yq (y_extract (ev_t rfl) rfl)) rfl rfl rfl ?_
    refine TL.op (yq (y_extract (ev_t rfl) rfl)) rfl rfl rfl ?_
    refine TL.op (yq (y_extract (ev_t rfl) rfl)) rfl rfl rfl ?_
    refine TL.op (yq (y_assign (ev_t rfl))) rfl rfl rfl ?_
    refine TL.op (yq (y_assign (ev_t rfl))) rfl rfl rfl ?_
    refine TL.op (yq (y_assign (ev_t rfl))) rfl rfl rfl ?_
    refine TL.nil ?_
    refine TN.seq ?_
    refine TC.seq ?_
    refine TC.region ?_
    refine TL.op (yq (y_move (ev_t rfl))) rfl rfl rfl ?_
    refine TL.op (yq (y_move (ev_t rfl))) rfl rfl rfl ?_
    refine TL.op (yq (y_assign (ev_t rfl))) rfl rfl rfl ?_
    refine TL.op (yq (y_assign (ev_t rfl))) rfl rfl rfl ?_
    refine TL.nil ?_
    refine TN.seq ?_
    refine TC.ret ?_
    subst hF
    exact TN.ret2 rfl (ev_t rfl) (ev_t rfl) (fun w' hw => ⟨(r3_3.1, r3_3.2), rfl, hw⟩)

set_option maxRecDepth 4000 in
set_option maxHeartbeats 1000000 in
theorem spec_l3Items_ok (w : World) (n : Int)  :
    Calls Try.prog 97 ([(.int .i64 n)] : List Value).toArray w (Ret (.bool (F_spec_l3Items n)) (Hp w [])) := by
  obtain ⟨rz, hF⟩ : ∃ rz, (F_spec_l3Items n) = rz := ⟨_, rfl⟩
  rw [hF]
  unfold F_spec_l3Items at hF
  refine calls_tc Try.func97 rfl rfl rfl ?_
  change TC _ _ _ _ (Hp w []) [(0, (.int .i64 n))]
  refine TC.seq ?_
  refine TC.region ?_
  refine TL.op (yq (y_assign ev_c)) rfl rfl rfl ?_
  refine TL.nil ?_
  refine TN.seq ?_
  refine TC.seq ?_
  refine TC.region ?_
  refine TL.op (yq (y_move (ev_t rfl))) rfl rfl rfl ?_
  refine TL.op (y_call (vs := [(.int .i64 n), (.int .i64 1), (.int .i64 8)]) (v := (.bool ((decide (1 ≤ n)) && (decide (n ≤ 8))))) en_83 ⟨(ev_t rfl), ev_c, ev_c, trivial⟩ (fun w hw => spec_l1In_ok w n 1 8)) rfl rfl rfl ?_
  refine TL.op (yq (y_assign (ev_t rfl))) rfl rfl rfl ?_
  refine TL.nil ?_
  refine TN.seq ?_
  refine TC.ret ?_
  subst hF
  exact TN.ret1 rfl (ev_t rfl) (fun w' hw => ⟨rfl, hw⟩)

end Go.Proofs.Ytlhmmhlfledleaa
