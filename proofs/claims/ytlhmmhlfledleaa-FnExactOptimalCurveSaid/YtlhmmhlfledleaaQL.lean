/-
  Walks of functions of the program: each computes its plain function. No condition but the bounds that are typed.
-/
import Derived.Test.YtlhmmhlfledleaaHeld
import Derived.Test.YtlhmmhlfledleaaFacts
import Derived.Test.YtlhmmhlfledleaaLawPage
import Derived.Test.YtlhmmhlfledleaaDelL
namespace Go.Proofs.Ytlhmmhlfledleaa
open Go Go.RowKit
set_option linter.unusedVariables false

set_option maxRecDepth 4000 in
set_option maxHeartbeats 1000000 in
theorem slices_IndexFunc_Sint_int_ok (w : World) (vs : Value) (s : List Int) (hs : RI w vs s) (kf : Nat) (cf : List Value) (f : Int → Bool) (ef : En Try.prog kf) (hf : ∀ (w' : World) (_ : Below w.heap.size w w') (x0 : Int), Calls Try.prog kf ([(.int .i64 x0)] ++ cf : List Value).toArray w' (Ret (.bool (f x0)) (Hp w' [])))  :
    Calls Try.prog 126 ([vs, (.func (.func kf) #[] cf.toArray)] : List Value).toArray w (Ret (.int .i64 (F_slices_IndexFunc_Sint_int s f)) (Hp w [])) := by
  obtain ⟨rz, hF⟩ : ∃ rz, (F_slices_IndexFunc_Sint_int s f) = rz := ⟨_, rfl⟩
  rw [hF]
  unfold F_slices_IndexFunc_Sint_int at hF
  have hlen_s := arg_len hs
  refine calls_tc Try.func126 rfl rfl rfl ?_
  change TC _ _ _ _ (Hp w []) [(0, vs), (1, (.func (.func kf) #[] cf.toArray))]
  refine TC.seq ?_
  refine TC.region ?_
  refine TL.op (yq (y_assign ev_c)) rfl rfl rfl ?_
  refine TL.nil ?_
  refine TN.seq ?_
  refine TC.seq ?_
  refine TC.seq ?_
  refine TC.region ?_
  refine TL.op (yq (y_move (ev_t rfl))) rfl rfl rfl ?_
  refine TL.op (yq (y_len (ev_t rfl) Try.underlying22 (fun w hw => ((ri_arg hs) w hw).ln))) rfl rfl rfl ?_
  refine TL.op (yq (y_move ev_c)) rfl rfl rfl ?_
  refine TL.nil ?_
  refine TN.seq ?_
  refine TC.block ?_
  obtain ⟨c11, hc12⟩ : ∃ c, F_slices_IndexFunc_Sint_int_L1 s f ((s.length - 0) + 1) 0 = c := ⟨_, rfl⟩
  rw [hc12] at hF
  refine TC.loop (ι := Nat × Nat) (fun (fu1, k8_1) => [(0, vs), (1, (.func (.func kf) #[] cf.toArray)), (7, (.int .i64 (s.length : Int))), (8, (.int .i64 (k8_1 : Int)))]) (fun (fu1, k8_1) => Hp w []) (fun (fu1, k8_1) => (k8_1 ≤ s.length) ∧ s.length - k8_1 < fu1 ∧ F_slices_IndexFunc_Sint_int_L1 s f fu1 k8_1 = c11) (fun (fu1, k8_1) => fu1) ((s.length - 0) + 1, 0) ⟨(by first | omega | (simp [-List.getD_eq_getElem?_getD] <;> omega)), (by omega), hc12⟩ ⟨rfl, rfl, rfl, rfl, trivial⟩ (fun w hw => hw) ?_
  rintro ⟨fu1, k8_1⟩ hJ1
  obtain ⟨hi1_0, hmu1, hL1⟩ : (k8_1 ≤ s.length) ∧ s.length - k8_1 < fu1 ∧ F_slices_IndexFunc_Sint_int_L1 s f fu1 k8_1 = c11 := hJ1
  change TC _ _ _ _ (Hp w []) [(0, vs), (1, (.func (.func kf) #[] cf.toArray)), (7, (.int .i64 (s.length : Int))), (8, (.int .i64 (k8_1 : Int)))]
  obtain ⟨mf1, rfl⟩ : ∃ m, fu1 = m + 1 := ⟨fu1 - 1, by omega⟩
  rw [F_slices_IndexFunc_Sint_int_L1_s] at hL1
  refine TC.seq ?_
  refine TC.region ?_
  refine TL.op (yq (y_lss (ev_t rfl) (ev_t rfl))) rfl rfl rfl ?_
  refine TL.nil ?_
  refine TN.seq ?_
  refine TC.seq ?_
  refine TC.cond (b := decide ((k8_1 : Int) < (s.length : Int))) (ev_t rfl) (fun h13 => ?_) (fun h13 => ?_)
  · rw [bif_pos h13] at hL1
    have q14 := (of_decide_eq_true h13)
    refine TC.skip ?_
    refine TN.seq ?_
    refine TC.seq ?_
    refine TC.block ?_
    refine TC.seq ?_
    refine TC.region ?_
    refine TL.op (yq (y_move (ev_t rfl))) rfl rfl rfl ?_
    refine TL.op (yq (y_assign (ev_t rfl))) rfl rfl rfl ?_
    refine TL.nil ?_
    refine TN.seq ?_
    refine TC.seq ?_
    refine TC.region ?_
    refine TL.op (yq (y_move (ev_t rfl))) rfl rfl rfl ?_
    refine TL.op (yq (y_move (ev_t rfl))) rfl rfl rfl ?_
    refine TL.op (yq (y_move (ev_t rfl))) rfl rfl rfl ?_
    have hb15 : k8_1 < s.length := (by first | omega | (simp only [List.length_set, List.length_append, List.length_cons, List.length_nil, List.length_replicate]; omega) | (rw [sortI_length]; simp only [List.length_cons, List.length_nil]; omega))
    refine TL.op (yq (y_idx (k := k8_1) (ev_t rfl) (ev_t rfl) (by first | omega | simp) slT_22 (ri_arg hs) hb15)) rfl rfl rfl ?_
    refine TL.op (yq (y_ldi (ev_t rfl) one_3 (ri_arg hs) hb15)) rfl rfl rfl ?_
    refine TL.op (y_callv (vs := [(.int .i64 (s.getD k8_1 0))]) (v := (.bool (f (s.getD k8_1 0)))) ef (ev_t rfl) ⟨(ev_t rfl), trivial⟩ (fun w hw => hf w hw.1 (s.getD k8_1 0))) rfl rfl rfl ?_
    refine TL.nil ?_
    refine TN.seq ?_
    refine TC.cond (b := (f (s.getD k8_1 0))) (ev_t rfl) (fun h16 => ?_) (fun h16 => ?_)
    · rw [bif_pos h16] at hL1
      have q17 := h16
      refine TC.seq ?_
      refine TC.region ?_
      refine TL.op (yq (y_move (ev_t rfl))) rfl rfl rfl ?_
      refine TL.op (yq (y_assign (ev_t rfl))) rfl rfl rfl ?_
      refine TL.nil ?_
      refine TN.seq ?_
      refine TC.ret ?_
      refine TN.blockR ?_
      refine TN.thenR ?_
      refine TN.thenR ?_
      rw [← hL1, elim_ret] at hF
      refine TN.blockR ?_
      refine TN.thenR ?_
      subst hF
      exact TN.ret1 rfl (ev_t rfl) (fun w' hw => ⟨rfl, hw⟩)
    · rw [bif_neg h16] at hL1
      have q17 := h16
      refine TC.skip ?_
      refine TN.blockN ?_
      refine TN.seq ?_
      refine TC.region ?_
      refine TL.op (yq (y_add (ev_t rfl) ev_c (by unfold In64; omega))) rfl rfl rfl ?_
      refine TL.op (yq (y_move (ev_t rfl))) rfl rfl rfl ?_
      refine TL.nil ?_
      exact TN.hand (mf1, (k8_1 + 1)) ⟨(by first | omega | (simp [-List.getD_eq_getElem?_getD] <;> omega)), (by omega), hL1⟩ (Nat.lt_succ_self _) ⟨rfl, rfl, rfl, rfl, trivial⟩ (fun w hw => hw)
  · rw [bif_neg h13] at hL1
    have q14 := (of_decide_eq_false h13)
    refine TC.exit ?_
    refine TN.thenE ?_
    refine TN.thenE ?_
    rw [← hL1, elim_next] at hF
    try dsimp only at hF
    refine TN.blockH ?_
    refine TN.seq ?_
    refine TC.seq ?_
    refine TC.region ?_
    refine TL.op (yq (y_assign ev_c)) rfl rfl rfl ?_
    refine TL.nil ?_
    refine TN.seq ?_
    refine TC.ret ?_
    subst hF
    exact TN.ret1 rfl (ev_t rfl) (fun w' hw => ⟨rfl, hw⟩)

set_option maxRecDepth 4000 in
set_option maxHeartbeats 1000000 in
theorem slices_ContainsFunc_Sint_int_ok (w : World) (vs : Value) (s : List Int) (hs : RI w vs s) (kf : Nat) (cf : List Value) (f : Int → Bool) (ef : En Try.prog kf) (hf : ∀ (w' : World) (_ : Below w.heap.size w w') (x0 : Int), Calls Try.prog kf ([(.int .i64 x0)] ++ cf : List Value).toArray w' (Ret (.bool (f x0)) (Hp w' [])))  :
    Calls Try.prog 86 ([vs, (.func (.func kf) #[] cf.toArray)] : List Value).toArray w (Ret (.bool (F_slices_ContainsFunc_Sint_int s f)) (Hp w [])) := by
  obtain ⟨rz, hF⟩ : ∃ rz, (F_slices_ContainsFunc_Sint_int s f) = rz := ⟨_, rfl⟩
  rw [hF]
  unfold F_slices_ContainsFunc_Sint_int at hF
  have hlen_s := arg_len hs
  refine calls_tc Try.func86 rfl rfl rfl ?_
  change TC _ _ _ _ (Hp w []) [(0, vs), (1, (.func (.func kf) #[] cf.toArray))]
  refine TC.seq ?_
  refine TC.region ?_
  refine TL.op (yq (y_assign ev_c)) rfl rfl rfl ?_
  refine TL.nil ?_
  refine TN.seq ?_
  refine TC.seq ?_
  refine TC.region ?_
  refine TL.op (yq (y_move (ev_t rfl))) rfl rfl rfl ?_
  refine TL.op (yq (y_move (ev_t rfl))) rfl rfl rfl ?_
  refine TL.op (y_call (vs := [vs, (.func (.func kf) #[] cf.toArray)]) (v := (.int .i64 (F_slices_IndexFunc_Sint_int s f))) en_126 ⟨(ev_t rfl), (ev_t rfl), trivial⟩ (fun w hw => slices_IndexFunc_Sint_int_ok w vs s ((ri_arg hs) w hw) kf cf f ef (fun w2 hb => hf w2 (hw.1.trans (hb.mono hw.1.size))))) rfl rfl rfl ?_
  refine TL.op (yq (y_geq (ev_t rfl) ev_c)) rfl rfl rfl ?_
  refine TL.op (yq (y_assign (ev_t rfl))) rfl rfl rfl ?_
  refine TL.nil ?_
  refine TN.seq ?_
  refine TC.ret ?_
  subst hF
  exact TN.ret1 rfl (ev_t rfl) (fun w' hw => ⟨rfl, hw⟩)

set_option maxRecDepth 4000 in
set_option maxHeartbeats 1000000 in
theorem slices_Clone_Sint_int_ok (w : World) (vs : Value) (s : List Int) (hs : RI w vs s) (hp0 : s.length ≤ 1000000000) :
    Calls Try.prog 103 ([vs] : List Value).toArray w (fun e w' => ∃ i : Value, e = .returned i ∧ Hp w [rowI 3 i (F_slices_Clone_Sint_int s)] w') := by
  obtain ⟨rz, hF⟩ : ∃ rz, (F_slices_Clone_Sint_int s) = rz := ⟨_, rfl⟩
  rw [hF]
  unfold F_slices_Clone_Sint_int at hF
  have hlen_s := arg_len hs
  refine calls_tc Try.func103 rfl rfl rfl ?_
  change TC _ _ _ _ (Hp w []) [(0, vs)]
  refine TC.seq ?_
  refine TC.region ?_
  refine TL.op (yq (y_assign ev_c)) rfl rfl rfl ?_
  refine TL.nil ?_
  refine TN.seq ?_
  refine TC.seq ?_
  refine TC.seq ?_
  refine TC.region ?_
  refine TL.op (yq (y_move (ev_t rfl))) rfl rfl rfl ?_
  refine TL.op (yq (y_isnil (ev_t rfl) ev_c Try.underlying22 (fun w hw => ((ri_arg hs) w hw).ln))) rfl rfl rfl ?_
  refine TL.nil ?_
  refine TN.seq ?_
  refine TC.cond (b := isNilV vs) (ev_t rfl) (fun h3 => ?_) (fun h3 => ?_)
  · have q4 := ri_isnil hs h3
    subst q4
    refine TC.seq ?_
    refine TC.region ?_
    refine TL.op (yq (y_assign ev_c)) rfl rfl rfl ?_
    refine TL.nil ?_
    refine TN.seq ?_
    refine TC.ret ?_
    refine TN.thenR ?_
    subst hF
    refine TN.cls (fun w hw => hw.nil 3 1) ?_
    exact TN.ret1 rfl (ev_t rfl) (fun w' hw => ⟨(.slice none 0 0), rfl, hw⟩)
  · refine TC.skip ?_
    refine TN.seq ?_
    refine TC.seq ?_
    refine TC.region ?_
    refine TL.buildI (zs := []) (qs := []) slT_22 rfl trivial rfl (by decide) rfl (fun v3_0 => ?_)
    refine TL.op (yq (y_move (ev_t rfl))) rfl rfl rfl ?_
    refine TL.appendI 0 (ev_t rfl) (ev_t rfl) rfl slT_22 (ri_arg hs) (by first | omega | (simp [-List.getD_eq_getElem?_getD] <;> omega)) rfl (fun v3_2 => ?_)
    refine TL.op (yq (y_assign (ev_t rfl))) rfl rfl rfl ?_
    refine TL.nil ?_
    refine TN.seq ?_
    refine TC.ret ?_
    subst hF
    exact TN.ret1 rfl (ev_t rfl) (fun w' hw => ⟨v3_2, rfl, hw⟩)

set_option maxRecDepth 4000 in
set_option maxHeartbeats 1000000 in
theorem slices_Index_Sint_int_ok (w : World) (vs : Value) (s : List Int) (hs : RI w vs s) (v : Int)  :
    Calls Try.prog 89 ([vs, (.int .i64 v)] : List Value).toArray w (Ret (.int .i64 (F_slices_Index_Sint_int s v)) (Hp w [])) := by
  obtain ⟨rz, hF⟩ : ∃ rz, (F_slices_Index_Sint_int s v) = rz := ⟨_, rfl⟩
  rw [hF]
  unfold F_slices_Index_Sint_int at hF
  have hlen_s := arg_len hs
  refine calls_tc Try.func89 rfl rfl rfl ?_
  change TC _ _ _ _ (Hp w []) [(0, vs), (1, (.int .i64 v))]
  refine TC.seq ?_
  refine TC.region ?_
  refine TL.op (yq (y_assign ev_c)) rfl rfl rfl ?_
  refine TL.nil ?_
  refine TN.seq ?_
  refine TC.seq ?_
  refine TC.seq ?_
  refine TC.region ?_
  refine TL.op (yq (y_move (ev_t rfl))) rfl rfl rfl ?_
  refine TL.op (yq (y_len (ev_t rfl) Try.underlying22 (fun w hw => ((ri_arg hs) w hw).ln))) rfl rfl rfl ?_
  refine TL.op (yq (y_move ev_c)) rfl rfl rfl ?_
  refine TL.nil ?_
  refine TN.seq ?_
  refine TC.block ?_
  obtain ⟨c11, hc12⟩ : ∃ c, F_slices_Index_Sint_int_L1 s v ((s.length - 0) + 1) 0 = c := ⟨_, rfl⟩
  rw [hc12] at hF
  refine TC.loop (ι := Nat × Nat) (fun (fu1, k8_1) => [(0, vs), (1, (.int .i64 v)), (7, (.int .i64 (s.length : Int))), (8, (.int .i64 (k8_1 : Int)))]) (fun (fu1, k8_1) => Hp w []) (fun (fu1, k8_1) => (k8_1 ≤ s.length) ∧ s.length - k8_1 < fu1 ∧ F_slices_Index_Sint_int_L1 s v fu1 k8_1 = c11) (fun (fu1, k8_1) => fu1) ((s.length - 0) + 1, 0) ⟨(by first | omega | (simp [-List.getD_eq_getElem?_getD] <;> omega)), (by omega), hc12⟩ ⟨rfl, rfl, rfl, rfl, trivial⟩ (fun w hw => hw) ?_
  rintro ⟨fu1, k8_1⟩ hJ1
  obtain ⟨hi1_0, hmu1, hL1⟩ : (k8_1 ≤ s.length) ∧ s.length - k8_1 < fu1 ∧ F_slices_Index_Sint_int_L1 s v fu1 k8_1 = c11 := hJ1
  change TC _ _ _ _ (Hp w []) [(0, vs), (1, (.int .i64 v)), (7, (.int .i64 (s.length : Int))), (8, (.int .i64 (k8_1 : Int)))]
  obtain ⟨mf1, rfl⟩ : ∃ m, fu1 = m + 1 := ⟨fu1 - 1, by omega⟩
  rw [F_slices_Index_Sint_int_L1_s] at hL1
  refine TC.seq ?_
  refine TC.region ?_
  refine TL.op (yq (y_lss (ev_t rfl) (ev_t rfl))) rfl rfl rfl ?_
  refine TL.nil ?_
  refine TN.seq ?_
  refine TC.seq ?_
  refine TC.cond (b := decide ((k8_1 : Int) < (s.length : Int))) (ev_t rfl) (fun h13 => ?_) (fun h13 => ?_)
  · rw [bif_pos h13] at hL1
    have q14 := (of_decide_eq_true h13)
    refine TC.skip ?_
    refine TN.seq ?_
    refine TC.seq ?_
    refine TC.block ?_
    refine TC.seq ?_
    refine TC.region ?_
    refine TL.op (yq (y_move (ev_t rfl))) rfl rfl rfl ?_
    refine TL.op (yq (y_assign (ev_t rfl))) rfl rfl rfl ?_
    refine TL.nil ?_
    refine TN.seq ?_
    refine TC.seq ?_
    refine TC.region ?_
    refine TL.op (yq (y_move (ev_t rfl))) rfl rfl rfl ?_
    refine TL.op (yq (y_move (ev_t rfl))) rfl rfl rfl ?_
    refine TL.op (yq (y_move (ev_t rfl))) rfl rfl rfl ?_
    have hb15 : k8_1 < s.length := (by first | omega | (simp only [List.length_set, List.length_append, List.length_cons, List.length_nil, List.length_replicate]; omega) | (rw [sortI_length]; simp only [List.length_cons, List.length_nil]; omega))
    refine TL.op (yq (y_idx (k := k8_1) (ev_t rfl) (ev_t rfl) (by first | omega | simp) slT_22 (ri_arg hs) hb15)) rfl rfl rfl ?_
    refine TL.op (yq (y_ldi (ev_t rfl) one_3 (ri_arg hs) hb15)) rfl rfl rfl ?_
    refine TL.op (yq (y_eql (ev_t rfl) (ev_t rfl))) rfl rfl rfl ?_
    refine TL.nil ?_
    refine TN.seq ?_
    refine TC.cond (b := decide (v = (s.getD k8_1 0))) (ev_t rfl) (fun h16 => ?_) (fun h16 => ?_)
    · rw [bif_pos h16] at hL1
      have q17 := (of_decide_eq_true h16)
      refine TC.seq ?_
      refine TC.region ?_
      refine TL.op (yq (y_move (ev_t rfl))) rfl rfl rfl ?_
      refine TL.op (yq (y_assign (ev_t rfl))) rfl rfl rfl ?_
      refine TL.nil ?_
      refine TN.seq ?_
      refine TC.ret ?_
      refine TN.blockR ?_
      refine TN.thenR ?_
      refine TN.thenR ?_
      rw [← hL1, elim_ret] at hF
      refine TN.blockR ?_
      refine TN.thenR ?_
      subst hF
      exact TN.ret1 rfl (ev_t rfl) (fun w' hw => ⟨rfl, hw⟩)
    · rw [bif_neg h16] at hL1
      have q17 := (of_decide_eq_false h16)
      refine TC.skip ?_
      refine TN.blockN ?_
      refine TN.seq ?_
      refine TC.region ?_
      refine TL.op (yq (y_add (ev_t rfl) ev_c (by unfold In64; omega))) rfl rfl rfl ?_
      refine TL.op (yq (y_move (ev_t rfl))) rfl rfl rfl ?_
      refine TL.nil ?_
      exact TN.hand (mf1, (k8_1 + 1)) ⟨(by first | omega | (simp [-List.getD_eq_getElem?_getD] <;> omega)), (by omega), hL1⟩ (Nat.lt_succ_self _) ⟨rfl, rfl, rfl, rfl, trivial⟩ (fun w hw => hw)
  · rw [bif_neg h13] at hL1
    have q14 := (of_decide_eq_false h13)
    refine TC.exit ?_
    refine TN.thenE ?_
    refine TN.thenE ?_
    rw [← hL1, elim_next] at hF
    try dsimp only at hF
    refine TN.blockH ?_
    refine TN.seq ?_
    refine TC.seq ?_
    refine TC.region ?_
    refine TL.op (yq (y_assign ev_c)) rfl rfl rfl ?_
    refine TL.nil ?_
    refine TN.seq ?_
    refine TC.ret ?_
    subst hF
    exact TN.ret1 rfl (ev_t rfl) (fun w' hw => ⟨rfl, hw⟩)

set_option maxRecDepth 4000 in
set_option maxHeartbeats 1000000 in
theorem slices_Contains_Sint_int_ok (w : World) (vs : Value) (s : List Int) (hs : RI w vs s) (v : Int)  :
    Calls Try.prog 74 ([vs, (.int .i64 v)] : List Value).toArray w (Ret (.bool (F_slices_Contains_Sint_int s v)) (Hp w [])) := by
  obtain ⟨rz, hF⟩ : ∃ rz, (F_slices_Contains_Sint_int s v) = rz := ⟨_, rfl⟩
  rw [hF]
  unfold F_slices_Contains_Sint_int at hF
  have hlen_s := arg_len hs
  refine calls_tc Try.func74 rfl rfl rfl ?_
  change TC _ _ _ _ (Hp w []) [(0, vs), (1, (.int .i64 v))]
  refine TC.seq ?_
  refine TC.region ?_
  refine TL.op (yq (y_assign ev_c)) rfl rfl rfl ?_
  refine TL.nil ?_
  refine TN.seq ?_
  refine TC.seq ?_
  refine TC.region ?_
  refine TL.op (yq (y_move (ev_t rfl))) rfl rfl rfl ?_
  refine TL.op (yq (y_move (ev_t rfl))) rfl rfl rfl ?_
  refine TL.op (y_call (vs := [vs, (.int .i64 v)]) (v := (.int .i64 (F_slices_Index_Sint_int s v))) en_89 ⟨(ev_t rfl), (ev_t rfl), trivial⟩ (fun w hw => slices_Index_Sint_int_ok w vs s ((ri_arg hs) w hw) v)) rfl rfl rfl ?_
  refine TL.op (yq (y_geq (ev_t rfl) ev_c)) rfl rfl rfl ?_
  refine TL.op (yq (y_assign (ev_t rfl))) rfl rfl rfl ?_
  refine TL.nil ?_
  refine TN.seq ?_
  refine TC.ret ?_
  subst hF
  exact TN.ret1 rfl (ev_t rfl) (fun w' hw => ⟨rfl, hw⟩)

set_option maxRecDepth 4000 in
set_option maxHeartbeats 1000000 in
theorem slices_DeleteFunc_Sint_int_ok (w0 w : World) (fr : List Ck) (vs : Value) (s : List Int) (hw : Hp w0 (rowI 3 vs s :: fr) w) (kdel : Nat) (cdel : List Value) (del : Int → Bool) (edel : En Try.prog kdel) (hdel : ∀ (w' : World) (c : Ck) (_ : Hp w0 (c :: fr) w') (x0 : Int), Calls Try.prog kdel ([(.int .i64 x0)] ++ cdel : List Value).toArray w' (Ret (.bool (del x0)) (Hp w' [])))  :
    Calls Try.prog 101 ([vs, (.func (.func kdel) #[] cdel.toArray)] : List Value).toArray w (fun e w' => ∃ i : Value, e = .returned i ∧ Hp w0 ([rowI 3 i (F_slices_DeleteFunc_Sint_int s del)] ++ fr) w') := by
  obtain ⟨rz, hF⟩ : ∃ rz, (F_slices_DeleteFunc_Sint_int s del) = rz := ⟨_, rfl⟩
  rw [hF]
  unfold F_slices_DeleteFunc_Sint_int at hF
  have hlen_s : s.length ≤ 9223372036854775807 := (hw.get 0 rfl).maxn
  refine calls_tcm Try.func101 rfl rfl rfl hw ?_
  change TC _ _ _ _ (Hp w0 ([rowI 3 vs s] ++ fr)) [(0, vs), (1, (.func (.func kdel) #[] cdel.toArray))]
  refine TC.seq ?_
  refine TC.region ?_
  refine TL.op (yq (y_assign ev_c)) rfl rfl rfl ?_
  refine TL.nil ?_
  refine TN.seq ?_
  refine TC.seq ?_
  refine TC.region ?_
  refine TL.op (yq (y_move (ev_t rfl))) rfl rfl rfl ?_
  refine TL.op (yq (y_move (ev_t rfl))) rfl rfl rfl ?_
  refine TL.op (y_call (vs := [vs, (.func (.func kdel) #[] cdel.toArray)]) (v := (.int .i64 (F_slices_IndexFunc_Sint_int s del))) en_126 ⟨(ev_t rfl), (ev_t rfl), trivial⟩ (fun w hw => slices_IndexFunc_Sint_int_ok w vs s ((ri_row 0 rfl) w hw) kdel cdel del edel (fun w2 hb => hdel w2 _ (Hp.after0 (hw) ⟨hb, by simp, .nil⟩)))) rfl rfl rfl ?_
  refine TL.op (yq (y_assign (ev_t rfl))) rfl rfl rfl ?_
  refine TL.nil ?_
  refine TN.seq ?_
  refine TC.seq ?_
  refine TC.seq ?_
  refine TC.region ?_
  refine TL.op (yq (y_move (ev_t rfl))) rfl rfl rfl ?_
  refine TL.op (yq (y_eql (ev_t rfl) ev_c)) rfl rfl rfl ?_
  refine TL.nil ?_
  refine TN.seq ?_
  refine TC.cond (b := decide ((F_slices_IndexFunc_Sint_int s del) = -1)) (ev_t rfl) (fun h25 => ?_) (fun h25 => ?_)
  · rw [bif_pos h25] at hF
    have q26 := (of_decide_eq_true h25)
    refine TC.seq ?_
    refine TC.region ?_
    refine TL.op (yq (y_move (ev_t rfl))) rfl rfl rfl ?_
    refine TL.op (yq (y_assign (ev_t rfl))) rfl rfl rfl ?_
    refine TL.nil ?_
    refine TN.seq ?_
    refine TC.ret ?_
    refine TN.thenR ?_
    subst hF
    exact TN.ret1 rfl (ev_t rfl) (fun w' hw => ⟨vs, rfl, hw⟩)
  · rw [bif_neg h25] at hF
    have q26 := (of_decide_eq_false h25)
    have hix := indexFunc_bd s del
    have hix2 := hix.resolve_left q26
    refine TC.skip ?_
    refine TN.seq ?_
    refine TC.seq ?_
    refine TC.seq ?_
    refine TC.region ?_
    refine TL.op (yq (y_move (ev_t rfl))) rfl rfl rfl ?_
    refine TL.op (yq (y_add (ev_t rfl) ev_c (by unfold In64; omega))) rfl rfl rfl ?_
    refine TL.op (yq (y_assign (ev_t rfl))) rfl rfl rfl ?_
    refine TL.nil ?_
    refine TN.seq ?_
    refine TC.block ?_
    obtain ⟨c27, hc28⟩ : ∃ c, F_slices_DeleteFunc_Sint_int_L1 del (((s.length - ((F_slices_IndexFunc_Sint_int s del) + 1)).toNat) + 1) ((F_slices_IndexFunc_Sint_int s del), ((F_slices_IndexFunc_Sint_int s del) + 1), s) = c := ⟨_, rfl⟩
    rw [hc28] at hF
    refine TC.loop (ι := Nat × Int × Int × List Int) (fun (fu1, i1, j1, s1) => [(0, vs), (1, (.func (.func kdel) #[] cdel.toArray)), (5, (.int .i64 i1)), (6, (.int .i64 j1))]) (fun (fu1, i1, j1, s1) => Hp w0 ([rowI 3 vs s1] ++ fr)) (fun (fu1, i1, j1, s1) => (0 ≤ i1) ∧ (i1 < j1) ∧ (j1 ≤ s1.length) ∧ (s1.length = s.length) ∧ (s.length - j1).toNat < fu1 ∧ F_slices_DeleteFunc_Sint_int_L1 del fu1 (i1, j1, s1) = c27) (fun (fu1, i1, j1, s1) => fu1) (((s.length - ((F_slices_IndexFunc_Sint_int s del) + 1)).toNat) + 1, (F_slices_IndexFunc_Sint_int s del), (F_slices_IndexFunc_Sint_int s del) + 1, s) ⟨(by first | omega | (simp [-List.getD_eq_getElem?_getD] <;> omega)), (by first | omega | (simp [-List.getD_eq_getElem?_getD] <;> omega)), (by first | omega | (simp [-List.getD_eq_getElem?_getD] <;> omega)), (by first | omega | (simp [-List.getD_eq_getElem?_getD] <;> omega)), (by omega), hc28⟩ ⟨rfl, rfl, rfl, rfl, trivial⟩ (fun w hw => hw) ?_
    rintro ⟨fu1, i1, j1, s1⟩ hJ1
    obtain ⟨hi1_0, hi1_1, hi1_2, hi1_3, hmu1, hL1⟩ : (0 ≤ i1) ∧ (i1 < j1) ∧ (j1 ≤ s1.length) ∧ (s1.length = s.length) ∧ (s.length - j1).toNat < fu1 ∧ F_slices_DeleteFunc_Sint_int_L1 del fu1 (i1, j1, s1) = c27 := hJ1
    change TC _ _ _ _ (Hp w0 ([rowI 3 vs s1] ++ fr)) [(0, vs), (1, (.func (.func kdel) #[] cdel.toArray)), (5, (.int .i64 i1)), (6, (.int .i64 j1))]
    obtain ⟨mf1, rfl⟩ : ∃ m, fu1 = m + 1 := ⟨fu1 - 1, by omega⟩
    rw [F_slices_DeleteFunc_Sint_int_L1_s] at hL1
    refine TC.seq ?_
    refine TC.seq ?_
    refine TC.region ?_
    refine TL.op (yq (y_move (ev_t rfl))) rfl rfl rfl ?_
    refine TL.op (yq (y_move (ev_t rfl))) rfl rfl rfl ?_
    refine TL.op (yq (y_len (ev_t rfl) Try.underlying22 (fun w hw => ((ri_row 0 rfl) w hw).ln))) rfl rfl rfl ?_
    refine TL.op (yq (y_lss (ev_t rfl) (ev_t rfl))) rfl rfl rfl ?_
    refine TL.nil ?_
    refine TN.seq ?_
    refine TC.cond (b := decide (j1 < (s1.length : Int))) (ev_t rfl) (fun h29 => ?_) (fun h29 => ?_)
    · rw [bif_pos h29] at hL1
      have q30 := (of_decide_eq_true h29)
      refine TC.skip ?_
      refine TN.seq ?_
      refine TC.seq ?_
      refine TC.block ?_
      refine TC.seq ?_
      refine TC.region ?_
      refine TL.op (yq (y_move (ev_t rfl))) rfl rfl rfl ?_
      refine TL.op (yq (y_move (ev_t rfl))) rfl rfl rfl ?_
      have hb31 : (j1).toNat < s1.length := (by first | omega | (simp only [List.length_set, List.length_append, List.length_cons, List.length_nil, List.length_replicate]; omega) | (rw [sortI_length]; simp only [List.length_cons, List.length_nil]; omega))
      refine TL.op (yq (y_idx (k := (j1).toNat) (ev_t rfl) (ev_t rfl) (by first | omega | simp) slT_22 (ri_row 0 rfl) hb31)) rfl rfl rfl ?_
      refine TL.op (yq (y_ldi (ev_t rfl) one_3 (ri_row 0 rfl) hb31)) rfl rfl rfl ?_
      refine TL.op (yq (y_assign (ev_t rfl))) rfl rfl rfl ?_
      refine TL.nil ?_
      refine TN.seq ?_
      refine TC.seq ?_
      refine TC.region ?_
      refine TL.op (yq (y_move (ev_t rfl))) rfl rfl rfl ?_
      refine TL.op (yq (y_move (ev_t rfl))) rfl rfl rfl ?_
      refine TL.op (y_callv (vs := [(.int .i64 (s1.getD ((j1).toNat) 0))]) (v := (.bool (del (s1.getD ((j1).toNat) 0)))) edel (ev_t rfl) ⟨(ev_t rfl), trivial⟩ (fun w hw => hdel w _ (hw) (s1.getD ((j1).toNat) 0))) rfl rfl rfl ?_
      refine TL.op (yq (y_not (ev_t rfl))) rfl rfl rfl ?_
      refine TL.nil ?_
      refine TN.seq ?_
      refine TC.cond (b := !(del (s1.getD ((j1).toNat) 0))) (ev_t rfl) (fun h32 => ?_) (fun h32 => ?_)
      · rw [bif_pos h32] at hL1
        have q33 := (not_t h32)
        refine TC.seq ?_
        refine TC.region ?_
        refine TL.op (yq (y_move (ev_t rfl))) rfl rfl rfl ?_
        refine TL.op (yq (y_move (ev_t rfl))) rfl rfl rfl ?_
        refine TL.op (yq (y_move (ev_t rfl))) rfl rfl rfl ?_
        have hb34 : (i1).toNat < s1.length := (by first | omega | (simp only [List.length_set, List.length_append, List.length_cons, List.length_nil, List.length_replicate]; omega) | (rw [sortI_length]; simp only [List.length_cons, List.length_nil]; omega))
        refine TL.op (yq (y_idx (k := (i1).toNat) (ev_t rfl) (ev_t rfl) (by first | omega | simp) slT_22 (ri_row 0 rfl) hb34)) rfl rfl rfl ?_
        refine TL.storeI 0 (ev_t rfl) (ev_t rfl) one_3 rfl hb34 ?_
        refine TL.nil ?_
        refine TN.seq ?_
        refine TC.region ?_
        refine TL.op (yq (y_move (ev_t rfl))) rfl rfl rfl ?_
        refine TL.op (yq (y_add (ev_t rfl) ev_c (by unfold In64; omega))) rfl rfl rfl ?_
        refine TL.op (yq (y_assign (ev_t rfl))) rfl rfl rfl ?_
        refine TL.nil ?_
        refine TN.blockN ?_
        refine TN.seq ?_
        refine TC.region ?_
        refine TL.op (yq (y_move (ev_t rfl))) rfl rfl rfl ?_
        refine TL.op (yq (y_add (ev_t rfl) ev_c (by unfold In64; omega))) rfl rfl rfl ?_
        refine TL.op (yq (y_assign (ev_t rfl))) rfl rfl rfl ?_
        refine TL.nil ?_
        exact TN.hand (mf1, i1 + 1, j1 + 1, (s1.set ((i1).toNat) (s1.getD ((j1).toNat) 0))) ⟨(by first | omega | (simp [-List.getD_eq_getElem?_getD] <;> omega)), (by first | omega | (simp [-List.getD_eq_getElem?_getD] <;> omega)), (by first | omega | (simp [-List.getD_eq_getElem?_getD] <;> omega)), (by first | omega | (simp [-List.getD_eq_getElem?_getD] <;> omega)), (by omega), hL1⟩ (Nat.lt_succ_self _) ⟨rfl, rfl, rfl, rfl, trivial⟩ (fun w hw => hw)
      · rw [bif_neg h32] at hL1
        have q33 := (not_f h32)
        refine TC.skip ?_
        refine TN.blockN ?_
        refine TN.seq ?_
        refine TC.region ?_
        refine TL.op (yq (y_move (ev_t rfl))) rfl rfl rfl ?_
        refine TL.op (yq (y_add (ev_t rfl) ev_c (by unfold In64; omega))) rfl rfl rfl ?_
        refine TL.op (yq (y_assign (ev_t rfl))) rfl rfl rfl ?_
        refine TL.nil ?_
        exact TN.hand (mf1, i1, j1 + 1, s1) ⟨(by first | omega | (simp [-List.getD_eq_getElem?_getD] <;> omega)), (by first | omega | (simp [-List.getD_eq_getElem?_getD] <;> omega)), (by first | omega | (simp [-List.getD_eq_getElem?_getD] <;> omega)), (by first | omega | (simp [-List.getD_eq_getElem?_getD] <;> omega)), (by omega), hL1⟩ (Nat.lt_succ_self _) ⟨rfl, rfl, rfl, rfl, trivial⟩ (fun w hw => hw)
    · rw [bif_neg h29] at hL1
      have q30 := (of_decide_eq_false h29)
      refine TC.exit ?_
      refine TN.thenE ?_
      refine TN.thenE ?_
      rw [← hL1, elim_next] at hF
      try dsimp only at hF
      have hcl : (s1.take ((i1).toNat) ++ List.replicate (s1.length - (i1).toNat) (0 : Int)).length = s1.length := by simp; omega
      refine TN.blockH ?_
      refine TN.seq ?_
      refine TC.seq ?_
      refine TC.region ?_
      refine TL.op (yq (y_move (ev_t rfl))) rfl rfl rfl ?_
      refine TL.op (yq (y_move (ev_t rfl))) rfl rfl rfl ?_
      have hs35 : (i1).toNat ≤ s1.length := (by first | omega | (simp only [List.length_set, List.length_append, List.length_cons, List.length_nil, List.length_replicate]; omega) | (rw [sortI_length]; simp only [List.length_cons, List.length_nil]; omega))
      have hs36 : s1.length ≤ s1.length := (by first | omega | (simp only [List.length_set, List.length_append, List.length_cons, List.length_nil, List.length_replicate]; omega) | (rw [sortI_length]; simp only [List.length_cons, List.length_nil]; omega))
      refine TL.op (yq (y_slice_lo (ev_t rfl) (ev_t rfl) (lo := (i1).toNat) (by omega) slT_22 (ri_row 0 rfl) hs35)) rfl rfl rfl ?_
      refine TL.clearI 0 (lo := (i1).toNat) (ev_t rfl) rfl slT_22 (by first | omega | (simp only [List.length_set, List.length_append, List.length_cons, List.length_nil, List.length_replicate]; omega) | (rw [sortI_length]; simp only [List.length_cons, List.length_nil]; omega)) ?_
      refine TL.nil ?_
      refine TN.seq ?_
      refine TC.seq ?_
      refine TC.region ?_
      refine TL.op (yq (y_move (ev_t rfl))) rfl rfl rfl ?_
      refine TL.op (yq (y_move (ev_t rfl))) rfl rfl rfl ?_
      have hs37 : 0 ≤ (i1).toNat := (by first | omega | (simp only [List.length_set, List.length_append, List.length_cons, List.length_nil, List.length_replicate]; omega) | (rw [sortI_length]; simp only [List.length_cons, List.length_nil]; omega))
      have hs38 : (i1).toNat ≤ (s1.take ((i1).toNat) ++ List.replicate (s1.length - (i1).toNat) (0 : Int)).length := (by first | omega | (simp only [List.length_set, List.length_append, List.length_cons, List.length_nil, List.length_replicate]; omega) | (rw [sortI_length]; simp only [List.length_cons, List.length_nil]; omega))
      refine TL.op (yq (y_slice_hi (ev_t rfl) (ev_t rfl) (hi := (i1).toNat) (by omega) slT_22 (ri_row 0 rfl) hs38)) rfl rfl rfl ?_
      refine TL.op (yq (y_assign (ev_t rfl))) rfl rfl rfl ?_
      refine TL.nil ?_
      refine TN.seq ?_
      refine TC.ret ?_
      subst hF
      refine TN.cls (fun w hw => Hp.cut 0 (k := (i1).toNat) hw rfl (by first | omega | (simp only [List.length_set, List.length_append, List.length_cons, List.length_nil, List.length_replicate]; omega) | (rw [sortI_length]; simp only [List.length_cons, List.length_nil]; omega))) ?_
      exact TN.ret1 rfl (ev_t rfl) (fun w' hw => ⟨(resl vs 0 ((i1).toNat) 1), rfl, hw⟩)

end Go.Proofs.Ytlhmmhlfledleaa
