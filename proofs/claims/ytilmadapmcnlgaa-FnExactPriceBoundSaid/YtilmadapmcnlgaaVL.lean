/-
  Walks of functions of the program: each computes its plain function. No condition but the bounds that are typed.
-/
import Derived.Test.YtilmadapmcnlgaaFacts
import Derived.Test.YtilmadapmcnlgaaHeld
import Derived.Test.YtilmadapmcnlgaaGat
import Derived.Test.YtilmadapmcnlgaaLawY
namespace Go.Proofs.Ytilmadapmcnlgaa
open Go Go.RowKit
set_option linter.unusedVariables false

set_option maxRecDepth 4000 in
set_option maxHeartbeats 1000000 in
theorem cmp_isNaN_int_ok (w : World) (x : Int)  :
    Calls Try.prog 140 ([(.int .i64 x)] : List Value).toArray w (Ret (.bool (F_cmp_isNaN_int x)) (Hp w [])) := by
  obtain ⟨rz, hF⟩ : ∃ rz, (F_cmp_isNaN_int x) = rz := ⟨_, rfl⟩
  rw [hF]
  unfold F_cmp_isNaN_int at hF
  refine calls_tc Try.func140 rfl rfl rfl ?_
  change TC _ _ _ _ (Hp w []) [(0, (.int .i64 x))]
  refine TC.seq ?_
  refine TC.region ?_
  refine TL.op (yq (y_assign ev_c)) rfl rfl rfl ?_
  refine TL.nil ?_
  refine TN.seq ?_
  refine TC.seq ?_
  refine TC.region ?_
  refine TL.op (yq (y_move (ev_t rfl))) rfl rfl rfl ?_
  refine TL.op (yq (y_move (ev_t rfl))) rfl rfl rfl ?_
  refine TL.op (yq (y_neq (ev_t rfl) (ev_t rfl))) rfl rfl rfl ?_
  refine TL.op (yq (y_assign (ev_t rfl))) rfl rfl rfl ?_
  refine TL.nil ?_
  refine TN.seq ?_
  refine TC.ret ?_
  subst hF
  exact TN.ret1 rfl (ev_t rfl) (fun w' hw => ⟨rfl, hw⟩)

set_option maxRecDepth 4000 in
set_option maxHeartbeats 1000000 in
theorem cmp_Less_int_ok (w : World) (x : Int) (y : Int)  :
    Calls Try.prog 128 ([(.int .i64 x), (.int .i64 y)] : List Value).toArray w (Ret (.bool (F_cmp_Less_int x y)) (Hp w [])) := by
  obtain ⟨rz, hF⟩ : ∃ rz, (F_cmp_Less_int x y) = rz := ⟨_, rfl⟩
  rw [hF]
  unfold F_cmp_Less_int at hF
  refine calls_tc Try.func128 rfl rfl rfl ?_
  change TC _ _ _ _ (Hp w []) [(0, (.int .i64 x)), (1, (.int .i64 y))]
  refine TC.seq ?_
  refine TC.region ?_
  refine TL.op (yq (y_assign ev_c)) rfl rfl rfl ?_
  refine TL.nil ?_
  refine TN.seq ?_
  refine TC.seq ?_
  refine TC.region ?_
  refine TL.op (yq (y_move (ev_t rfl))) rfl rfl rfl ?_
  refine TL.op (y_call (vs := [(.int .i64 x)]) (v := (.bool (!decide (x = x)))) en_140 ⟨(ev_t rfl), trivial⟩ (fun w hw => cmp_isNaN_int_ok w x)) rfl rfl rfl ?_
  refine TL.op (yq (y_move (ev_t rfl))) rfl rfl rfl ?_
  refine TL.opw (w_t rfl rfl rfl) (fun hg => yq (y_move (ev_t rfl))) rfl rfl ?_
  refine TL.opw (w_t rfl rfl rfl) (fun hg => y_call (vs := [(.int .i64 y)]) (v := (.bool (!decide (y = y)))) en_140 ⟨(ev_g rfl hg), trivial⟩ (fun w hw => cmp_isNaN_int_ok w y)) rfl rfl ?_
  refine TL.opw (w_t rfl rfl rfl) (fun hg => yq (y_not (ev_g rfl hg))) rfl rfl ?_
  refine TL.op (yq (y_and (ev_t rfl) (fun hq => (ev_g rfl hq)))) rfl rfl rfl ?_
  refine TL.op (yq (y_move (ev_t rfl))) rfl rfl rfl ?_
  refine TL.opw (w_f rfl rfl rfl) (fun hg => yq (y_move (ev_t rfl))) rfl rfl ?_
  refine TL.opw (w_f rfl rfl rfl) (fun hg => yq (y_move (ev_t rfl))) rfl rfl ?_
  refine TL.opw (w_f rfl rfl rfl) (fun hg => yq (y_lss (ev_g rfl hg) (ev_g rfl hg))) rfl rfl ?_
  refine TL.op (yq (y_or (ev_t rfl) (fun hq => (ev_g rfl hq)))) rfl rfl rfl ?_
  refine TL.op (yq (y_assign (ev_t rfl))) rfl rfl rfl ?_
  refine TL.nil ?_
  refine TN.seq ?_
  refine TC.ret ?_
  subst hF
  exact TN.ret1 rfl (ev_t rfl) (fun w' hw => ⟨rfl, hw⟩)

set_option maxRecDepth 4000 in
set_option maxHeartbeats 1000000 in
theorem slices_IndexFunc_Sint_int_ok (w : World) (vs : Value) (s : List Int) (hs : RI w vs s) (kf : Nat) (cf : List Value) (f : Int → Bool) (ef : En Try.prog kf) (hf : ∀ (w' : World) (_ : Below w.heap.size w w') (x0 : Int), Calls Try.prog kf ([(.int .i64 x0)] ++ cf : List Value).toArray w' (Ret (.bool (f x0)) (Hp w' [])))  :
    Calls Try.prog 139 ([vs, (.func (.func kf) #[] cf.toArray)] : List Value).toArray w (Ret (.int .i64 (F_slices_IndexFunc_Sint_int s f)) (Hp w [])) := by
  obtain ⟨rz, hF⟩ : ∃ rz, (F_slices_IndexFunc_Sint_int s f) = rz := ⟨_, rfl⟩
  rw [hF]
  unfold F_slices_IndexFunc_Sint_int at hF
  have hlen_s := arg_len hs
  refine calls_tc Try.func139 rfl rfl rfl ?_
  change TC _ _ _ _ (Hp w []) [(0, vs), (1, (.func (.func kf) #[] cf.toArray))]
  refine TC.seq ?_
  refine TC.region ?_
  refine TL.op (yq (y_assign ev_c)) rfl rfl rfl ?_
  refine TL.nil ?_
  refine TN.seq ?_
  refine TC.seq ?_
  refine TC.seq ?_
  refine TC.region ?_
  refine TL.op (yq (y_move (ev_t rfl))) rfl rfl rfl ?_
  refine TL.op (yq (y_len (ev_t rfl) Try.underlying25 (fun w hw => ((ri_arg hs) w hw).ln))) rfl rfl rfl ?_
  refine TL.op (yq (y_move ev_c)) rfl rfl rfl ?_
  refine TL.nil ?_
  refine TN.seq ?_
  refine TC.block ?_
  obtain ⟨c11, hc12⟩ : ∃ c, F_slices_IndexFunc_Sint_int_L1 s f ((s.length - 0) + 1) 0 = c := ⟨_, rfl⟩
  rw [hc12] at hF
  refine TC.loop (ι := Nat × Nat) (fun (fu1, k8_1) => [(0, vs), (1, (.func (.func kf) #[] cf.toArray)), (7, (.int .i64 (s.length : Int))), (8, (.int .i64 (k8_1 : Int)))]) (fun (fu1, k8_1) => Hp w []) (fun (fu1, k8_1) => (k8_1 ≤ s.length) ∧ s.length - k8_1 < fu1 ∧ F_slices_IndexFunc_Sint_int_L1 s f fu1 k8_1 = c11) (fun (fu1, k8_1) => fu1) ((s.length - 0) + 1, 0) ⟨(by first | omega | (simp [-List.getD_eq_getElem?_getD] <;> omega)), (by omega), hc12⟩ ⟨rfl, rfl, rfl, rfl, trivial⟩ (fun w hw => hw) ?_
  rintro ⟨fu1, k8_1⟩ hJ1
  obtain ⟨hi1_0, hmu1, hL1⟩ : (k8_1 ≤ s.length) ∧ s.length - k8_1 < fu1 ∧ F_slices_IndexFunc_Sint_int_L1 s f fu1 k8_1 = c11 := hJ1
  change TC _ _ _ _ (Hp w []) [(0, vs), (1, (.func (.func kf) #[] cf.toArray)), (7, (.int .i64 (s.length : Int))), (8, (.int .i64 (k8_1 : Int)))]
  obtain ⟨mf1, rfl⟩ : ∃ m, fu1 = m + 1 := ⟨fu1 - 1, by omega⟩
  rw [F_slices_IndexFunc_Sint_int_L1_s] at hL1
  refine TC.seq ?_
  refine TC.region ?_
  refine TL.op (yq (y_lss (ev_t rfl) (ev_t rfl))) rfl rfl rfl ?_
  refine TL.nil ?_
  refine TN.seq ?_
  refine TC.seq ?_
  refine TC.cond (b := decide ((k8_1 : Int) < (s.length : Int))) (ev_t rfl) (fun h13 => ?_) (fun h13 => ?_)
  · rw [bif_pos h13] at hL1
    have q14 := (of_decide_eq_true h13)
    refine TC.skip ?_
    refine TN.seq ?_
    refine TC.seq ?_
    refine TC.block ?_
    refine TC.seq ?_
    refine TC.region ?_
    refine TL.op (yq (y_move (ev_t rfl))) rfl rfl rfl ?_
    refine TL.op (yq (y_assign (ev_t rfl))) rfl rfl rfl ?_
    refine TL.nil ?_
    refine TN.seq ?_
    refine TC.seq ?_
    refine TC.region ?_
    refine TL.op (yq (y_move (ev_t rfl))) rfl rfl rfl ?_
    refine TL.op (yq (y_move (ev_t rfl))) rfl rfl rfl ?_
    refine TL.op (yq (y_move (ev_t rfl))) rfl rfl rfl ?_
    have hb15 : k8_1 < s.length := (by first | omega | (simp only [List.length_set, List.length_append, List.length_cons, List.length_nil, List.length_replicate]; omega) | (rw [sortI_length]; simp only [List.length_cons, List.length_nil]; omega))
    refine TL.op (yq (y_idx (k := k8_1) (ev_t rfl) (ev_t rfl) (by first | omega | simp) slT_25 (ri_arg hs) hb15)) rfl rfl rfl ?_
    refine TL.op (yq (y_ldi (ev_t rfl) one_3 (ri_arg hs) hb15)) rfl rfl rfl ?_
    refine TL.op (y_callv (vs := [(.int .i64 (s.getD k8_1 0))]) (v := (.bool (f (s.getD k8_1 0)))) ef (ev_t rfl) ⟨(ev_t rfl), trivial⟩ (fun w hw => hf w hw.1 (s.getD k8_1 0))) rfl rfl rfl ?_
    refine TL.nil ?_
    refine TN.seq ?_
    refine TC.cond (b := (f (s.getD k8_1 0))) (ev_t rfl) (fun h16 => ?_) (fun h16 => ?_)
    · rw [bif_pos h16] at hL1
      have q17 := h16
      refine TC.seq ?_
      refine TC.region ?_
      refine TL.op (yq (y_move (ev_t rfl))) rfl rfl rfl ?_
      refine TL.op (yq (y_assign (ev_t rfl))) rfl rfl rfl ?_
      refine TL.nil ?_
      refine TN.seq ?_
      refine TC.ret ?_
      refine TN.blockR ?_
      refine TN.thenR ?_
      refine TN.thenR ?_
      rw [← hL1, elim_ret] at hF
      refine TN.blockR ?_
      refine TN.thenR ?_
      subst hF
      exact TN.ret1 rfl (ev_t rfl) (fun w' hw => ⟨rfl, hw⟩)
    · rw [bif_neg h16] at hL1
      have q17 := h16
      refine TC.skip ?_
      refine TN.blockN ?_
      refine TN.seq ?_
      refine TC.region ?_
      refine TL.op (yq (y_add (ev_t rfl) ev_c (by unfold In64; omega))) rfl rfl rfl ?_
      refine TL.op (yq (y_move (ev_t rfl))) rfl rfl rfl ?_
      refine TL.nil ?_
      exact TN.hand (mf1, (k8_1 + 1)) ⟨(by first | omega | (simp [-List.getD_eq_getElem?_getD] <;> omega)), (by omega), hL1⟩ (Nat.lt_succ_self _) ⟨rfl, rfl, rfl, rfl, trivial⟩ (fun w hw => hw)
  · rw [bif_neg h13] at hL1
    have q14 := (of_decide_eq_false h13)
    refine TC.exit ?_
    refine TN.thenE ?_
    refine TN.thenE ?_
    rw [← hL1, elim_next] at hF
    try dsimp only at hF
    refine TN.blockH ?_
    refine TN.seq ?_
    refine TC.seq ?_
    refine TC.region ?_
    refine TL.op (yq (y_assign ev_c)) rfl rfl rfl ?_
    refine TL.nil ?_
    refine TN.seq ?_
    refine TC.ret ?_
    subst hF
    exact TN.ret1 rfl (ev_t rfl) (fun w' hw => ⟨rfl, hw⟩)

set_option maxRecDepth 4000 in
set_option maxHeartbeats 1000000 in
theorem slices_ContainsFunc_Sint_int_ok (w : World) (vs : Value) (s : List Int) (hs : RI w vs s) (kf : Nat) (cf : List Value) (f : Int → Bool) (ef : En Try.prog kf) (hf : ∀ (w' : World) (_ : Below w.heap.size w w') (x0 : Int), Calls Try.prog kf ([(.int .i64 x0)] ++ cf : List Value).toArray w' (Ret (.bool (f x0)) (Hp w' [])))  :
    Calls Try.prog 125 ([vs, (.func (.func kf) #[] cf.toArray)] : List Value).toArray w (Ret (.bool (F_slices_ContainsFunc_Sint_int s f)) (Hp w [])) := by
  obtain ⟨rz, hF⟩ : ∃ rz, (F_slices_ContainsFunc_Sint_int s f) = rz := ⟨_, rfl⟩
  rw [hF]
  unfold F_slices_ContainsFunc_Sint_int at hF
  have hlen_s := arg_len hs
  refine calls_tc Try.func125 rfl rfl rfl ?_
  change TC _ _ _ _ (Hp w []) [(0, vs), (1, (.func (.func kf) #[] cf.toArray))]
  refine TC.seq ?_
  refine TC.region ?_
  refine TL.op (yq (y_assign ev_c)) rfl rfl rfl ?_
  refine TL.nil ?_
  refine TN.seq ?_
  refine TC.seq ?_
  refine TC.region ?_
  refine TL.op (yq (y_move (ev_t rfl))) rfl rfl rfl ?_
  refine TL.op (yq (y_move (ev_t rfl))) rfl rfl rfl ?_
  refine TL.op (y_call (vs := [vs, (.func (.func kf) #[] cf.toArray)]) (v := (.int .i64 (F_slices_IndexFunc_Sint_int s f))) en_139 ⟨(ev_t rfl), (ev_t rfl), trivial⟩ (fun w hw => slices_IndexFunc_Sint_int_ok w vs s ((ri_arg hs) w hw) kf cf f ef (fun w2 hb => hf w2 (hw.1.trans (hb.mono hw.1.size))))) rfl rfl rfl ?_
  refine TL.op (yq (y_geq (ev_t rfl) ev_c)) rfl rfl rfl ?_
  refine TL.op (yq (y_assign (ev_t rfl))) rfl rfl rfl ?_
  refine TL.nil ?_
  refine TN.seq ?_
  refine TC.ret ?_
  subst hF
  exact TN.ret1 rfl (ev_t rfl) (fun w' hw => ⟨rfl, hw⟩)

set_option maxRecDepth 4000 in
set_option maxHeartbeats 1000000 in
theorem slices_IndexFunc_SSint_Sint_ok (w : World) (vs : Value) (us : List Value) (s : List (List Int)) (hs : RII w vs us s) (kf : Nat) (cf : List Value) (f : List Int → Bool) (ef : En Try.prog kf) (hf : ∀ (w' : World) (_ : Below w.heap.size w w') (vx0 : Value) (x0 : List Int) (_ : RI w' vx0 x0), Calls Try.prog kf ([vx0] ++ cf : List Value).toArray w' (Ret (.bool (f x0)) (Hp w' [])))  :
    Calls Try.prog 116 ([vs, (.func (.func kf) #[] cf.toArray)] : List Value).toArray w (Ret (.int .i64 (F_slices_IndexFunc_SSint_Sint s f)) (Hp w [])) := by
  obtain ⟨rz, hF⟩ : ∃ rz, (F_slices_IndexFunc_SSint_Sint s f) = rz := ⟨_, rfl⟩
  rw [hF]
  unfold F_slices_IndexFunc_SSint_Sint at hF
  have hlen_s := argT_len hs
  refine calls_tc Try.func116 rfl rfl rfl ?_
  change TC _ _ _ _ (Hp w []) [(0, vs), (1, (.func (.func kf) #[] cf.toArray))]
  refine TC.seq ?_
  refine TC.region ?_
  refine TL.op (yq (y_assign ev_c)) rfl rfl rfl ?_
  refine TL.nil ?_
  refine TN.seq ?_
  refine TC.seq ?_
  refine TC.seq ?_
  refine TC.region ?_
  refine TL.op (yq (y_move (ev_t rfl))) rfl rfl rfl ?_
  refine TL.op (yq (y_len (ev_t rfl) Try.underlying22 (fun w hw => ((fun w hw => ((rii_arg hs) w hw).1) w hw).ln))) rfl rfl rfl ?_
  refine TL.op (yq (y_move ev_c)) rfl rfl rfl ?_
  refine TL.nil ?_
  refine TN.seq ?_
  refine TC.block ?_
  obtain ⟨c13, hc14⟩ : ∃ c, F_slices_IndexFunc_SSint_Sint_L1 s f ((s.length - 0) + 1) 0 = c := ⟨_, rfl⟩
  rw [hc14] at hF
  refine TC.loop (ι := Nat × Nat) (fun (fu1, k8_1) => [(0, vs), (1, (.func (.func kf) #[] cf.toArray)), (7, (.int .i64 (s.length : Int))), (8, (.int .i64 (k8_1 : Int)))]) (fun (fu1, k8_1) => Hp w []) (fun (fu1, k8_1) => (k8_1 ≤ s.length) ∧ s.length - k8_1 < fu1 ∧ F_slices_IndexFunc_SSint_Sint_L1 s f fu1 k8_1 = c13) (fun (fu1, k8_1) => fu1) ((s.length - 0) + 1, 0) ⟨(by first | omega | (simp [-List.getD_eq_getElem?_getD] <;> omega)), (by omega), hc14⟩ ⟨rfl, rfl, rfl, rfl, trivial⟩ (fun w hw => hw) ?_
  rintro ⟨fu1, k8_1⟩ hJ1
  obtain ⟨hi1_0, hmu1, hL1⟩ : (k8_1 ≤ s.length) ∧ s.length - k8_1 < fu1 ∧ F_slices_IndexFunc_SSint_Sint_L1 s f fu1 k8_1 = c13 := hJ1
  change TC _ _ _ _ (Hp w []) [(0, vs), (1, (.func (.func kf) #[] cf.toArray)), (7, (.int .i64 (s.length : Int))), (8, (.int .i64 (k8_1 : Int)))]
  obtain ⟨mf1, rfl⟩ : ∃ m, fu1 = m + 1 := ⟨fu1 - 1, by omega⟩
  rw [F_slices_IndexFunc_SSint_Sint_L1_s] at hL1
  refine TC.seq ?_
  refine TC.region ?_
  refine TL.op (yq (y_lss (ev_t rfl) (ev_t rfl))) rfl rfl rfl ?_
  refine TL.nil ?_
  refine TN.seq ?_
  refine TC.seq ?_
  refine TC.cond (b := decide ((k8_1 : Int) < (s.length : Int))) (ev_t rfl) (fun h15 => ?_) (fun h15 => ?_)
  · rw [bif_pos h15] at hL1
    have q16 := (of_decide_eq_true h15)
    refine TC.skip ?_
    refine TN.seq ?_
    refine TC.seq ?_
    refine TC.block ?_
    refine TC.seq ?_
    refine TC.region ?_
    refine TL.op (yq (y_move (ev_t rfl))) rfl rfl rfl ?_
    refine TL.op (yq (y_assign (ev_t rfl))) rfl rfl rfl ?_
    refine TL.nil ?_
    refine TN.seq ?_
    refine TC.seq ?_
    refine TC.region ?_
    refine TL.op (yq (y_move (ev_t rfl))) rfl rfl rfl ?_
    refine TL.op (yq (y_move (ev_t rfl))) rfl rfl rfl ?_
    refine TL.op (yq (y_move (ev_t rfl))) rfl rfl rfl ?_
    have hb17 : k8_1 < s.length := (by first | omega | (simp only [List.length_set, List.length_append, List.length_cons, List.length_nil, List.length_replicate]; omega) | (rw [sortI_length]; simp only [List.length_cons, List.length_nil]; omega))
    refine TL.op (yq (y_idx (k := k8_1) (ev_t rfl) (ev_t rfl) (by first | omega | simp) slT_22 (fun w hw => ((rii_arg hs) w hw).1) hb17)) rfl rfl rfl ?_
    have ha18 := hs.row (i := k8_1) hb17
    refine TL.op (yq (y_ldA (ev_t rfl) one_25 (rii_arg hs) hb17)) rfl rfl rfl ?_
    refine TL.op (y_callv (vs := [(us.getD k8_1 undef)]) (v := (.bool (f (s.getD k8_1 [])))) ef (ev_t rfl) ⟨(ev_t rfl), trivial⟩ (fun w hw => hf w hw.1 (us.getD k8_1 undef) (s.getD k8_1 []) ((ri_arg ha18) w hw))) rfl rfl rfl ?_
    refine TL.nil ?_
    refine TN.seq ?_
    refine TC.cond (b := (f (s.getD k8_1 []))) (ev_t rfl) (fun h19 => ?_) (fun h19 => ?_)
    · rw [bif_pos h19] at hL1
      have q20 := h19
      refine TC.seq ?_
      refine TC.region ?_
      refine TL.op (yq (y_move (ev_t rfl))) rfl rfl rfl ?_
      refine TL.op (yq (y_assign (ev_t rfl))) rfl rfl rfl ?_
      refine TL.nil ?_
      refine TN.seq ?_
      refine TC.ret ?_
      refine TN.blockR ?_
      refine TN.thenR ?_
      refine TN.thenR ?_
      rw [← hL1, elim_ret] at hF
      refine TN.blockR ?_
      refine TN.thenR ?_
      subst hF
      exact TN.ret1 rfl (ev_t rfl) (fun w' hw => ⟨rfl, hw⟩)
    · rw [bif_neg h19] at hL1
      have q20 := h19
      refine TC.skip ?_
      refine TN.blockN ?_
      refine TN.seq ?_
      refine TC.region ?_
      refine TL.op (yq (y_add (ev_t rfl) ev_c (by unfold In64; omega))) rfl rfl rfl ?_
      refine TL.op (yq (y_move (ev_t rfl))) rfl rfl rfl ?_
      refine TL.nil ?_
      exact TN.hand (mf1, (k8_1 + 1)) ⟨(by first | omega | (simp [-List.getD_eq_getElem?_getD] <;> omega)), (by omega), hL1⟩ (Nat.lt_succ_self _) ⟨rfl, rfl, rfl, rfl, trivial⟩ (fun w hw => hw)
  · rw [bif_neg h15] at hL1
    have q16 := (of_decide_eq_false h15)
    refine TC.exit ?_
    refine TN.thenE ?_
    refine TN.thenE ?_
    rw [← hL1, elim_next] at hF
    try dsimp only at hF
    refine TN.blockH ?_
    refine TN.seq ?_
    refine TC.seq ?_
    refine TC.region ?_
    refine TL.op (yq (y_assign ev_c)) rfl rfl rfl ?_
    refine TL.nil ?_
    refine TN.seq ?_
    refine TC.ret ?_
    subst hF
    exact TN.ret1 rfl (ev_t rfl) (fun w' hw => ⟨rfl, hw⟩)

set_option maxRecDepth 4000 in
set_option maxHeartbeats 1000000 in
theorem slices_ContainsFunc_SSint_Sint_ok (w : World) (vs : Value) (us : List Value) (s : List (List Int)) (hs : RII w vs us s) (kf : Nat) (cf : List Value) (f : List Int → Bool) (ef : En Try.prog kf) (hf : ∀ (w' : World) (_ : Below w.heap.size w w') (vx0 : Value) (x0 : List Int) (_ : RI w' vx0 x0), Calls Try.prog kf ([vx0] ++ cf : List Value).toArray w' (Ret (.bool (f x0)) (Hp w' [])))  :
    Calls Try.prog 80 ([vs, (.func (.func kf) #[] cf.toArray)] : List Value).toArray w (Ret (.bool (F_slices_ContainsFunc_SSint_Sint s f)) (Hp w [])) := by
  obtain ⟨rz, hF⟩ : ∃ rz, (F_slices_ContainsFunc_SSint_Sint s f) = rz := ⟨_, rfl⟩
  rw [hF]
  unfold F_slices_ContainsFunc_SSint_Sint at hF
  have hlen_s := argT_len hs
  refine calls_tc Try.func80 rfl rfl rfl ?_
  change TC _ _ _ _ (Hp w []) [(0, vs), (1, (.func (.func kf) #[] cf.toArray))]
  refine TC.seq ?_
  refine TC.region ?_
  refine TL.op (yq (y_assign ev_c)) rfl rfl rfl ?_
  refine TL.nil ?_
  refine TN.seq ?_
  refine TC.seq ?_
  refine TC.region ?_
  refine TL.op (yq (y_move (ev_t rfl))) rfl rfl rfl ?_
  refine TL.op (yq (y_move (ev_t rfl))) rfl rfl rfl ?_
  refine TL.op (y_call (vs := [vs, (.func (.func kf) #[] cf.toArray)]) (v := (.int .i64 (F_slices_IndexFunc_SSint_Sint s f))) en_116 ⟨(ev_t rfl), (ev_t rfl), trivial⟩ (fun w hw => slices_IndexFunc_SSint_Sint_ok w vs us s ((rii_arg hs) w hw) kf cf f ef (fun w2 hb => hf w2 (hw.1.trans (hb.mono hw.1.size))))) rfl rfl rfl ?_
  refine TL.op (yq (y_geq (ev_t rfl) ev_c)) rfl rfl rfl ?_
  refine TL.op (yq (y_assign (ev_t rfl))) rfl rfl rfl ?_
  refine TL.nil ?_
  refine TN.seq ?_
  refine TC.ret ?_
  subst hF
  exact TN.ret1 rfl (ev_t rfl) (fun w' hw => ⟨rfl, hw⟩)

set_option maxRecDepth 4000 in
set_option maxHeartbeats 1000000 in
theorem slices_IsSorted_Sint_int_ok (w : World) (vx : Value) (x : List Int) (hx : RI w vx x)  :
    Calls Try.prog 111 ([vx] : List Value).toArray w (Ret (.bool (F_slices_IsSorted_Sint_int x)) (Hp w [])) := by
  obtain ⟨rz, hF⟩ : ∃ rz, (F_slices_IsSorted_Sint_int x) = rz := ⟨_, rfl⟩
  rw [hF]
  unfold F_slices_IsSorted_Sint_int at hF
  have hlen_x := arg_len hx
  refine calls_tc Try.func111 rfl rfl rfl ?_
  change TC _ _ _ _ (Hp w []) [(0, vx)]
  refine TC.seq ?_
  refine TC.region ?_
  refine TL.op (yq (y_assign ev_c)) rfl rfl rfl ?_
  refine TL.nil ?_
  refine TN.seq ?_
  refine TC.seq ?_
  refine TC.seq ?_
  refine TC.region ?_
  refine TL.op (yq (y_move (ev_t rfl))) rfl rfl rfl ?_
  refine TL.op (yq (y_len (ev_t rfl) Try.underlying25 (fun w hw => ((ri_arg hx) w hw).ln))) rfl rfl rfl ?_
  refine TL.op (yq (y_sub (ev_t rfl) ev_c (by unfold In64; omega))) rfl rfl rfl ?_
  refine TL.op (yq (y_assign (ev_t rfl))) rfl rfl rfl ?_
  refine TL.nil ?_
  refine TN.seq ?_
  refine TC.block ?_
  obtain ⟨c13, hc14⟩ : ∃ c, F_slices_IsSorted_Sint_int_L1 x (((((x.length : Int) - 1) + 1).toNat) + 1) ((x.length : Int) - 1) = c := ⟨_, rfl⟩
  rw [hc14] at hF
  refine TC.loop (ι := Nat × Int) (fun (fu1, i1) => [(0, vx), (3, (.int .i64 i1))]) (fun (fu1, i1) => Hp w []) (fun (fu1, i1) => (i1 < x.length) ∧ (-1 ≤ i1) ∧ (i1 + 1).toNat < fu1 ∧ F_slices_IsSorted_Sint_int_L1 x fu1 i1 = c13) (fun (fu1, i1) => fu1) (((((x.length : Int) - 1) + 1).toNat) + 1, (x.length : Int) - 1) ⟨(by first | omega | (simp [-List.getD_eq_getElem?_getD] <;> omega)), (by first | omega | (simp [-List.getD_eq_getElem?_getD] <;> omega)), (by omega), hc14⟩ ⟨rfl, rfl, trivial⟩ (fun w hw => hw) ?_
  rintro ⟨fu1, i1⟩ hJ1
  obtain ⟨hi1_0, hi1_1, hmu1, hL1⟩ : (i1 < x.length) ∧ (-1 ≤ i1) ∧ (i1 + 1).toNat < fu1 ∧ F_slices_IsSorted_Sint_int_L1 x fu1 i1 = c13 := hJ1
  change TC _ _ _ _ (Hp w []) [(0, vx), (3, (.int .i64 i1))]
  obtain ⟨mf1, rfl⟩ : ∃ m, fu1 = m + 1 := ⟨fu1 - 1, by omega⟩
  rw [F_slices_IsSorted_Sint_int_L1_s] at hL1
  refine TC.seq ?_
  refine TC.seq ?_
  refine TC.region ?_
  refine TL.op (yq (y_move (ev_t rfl))) rfl rfl rfl ?_
  refine TL.op (yq (y_gtr (ev_t rfl) ev_c)) rfl rfl rfl ?_
  refine TL.nil ?_
  refine TN.seq ?_
  refine TC.cond (b := decide (0 < i1)) (ev_t rfl) (fun h15 => ?_) (fun h15 => ?_)
  · rw [bif_pos h15] at hL1
    have q16 := (of_decide_eq_true h15)
    refine TC.skip ?_
    refine TN.seq ?_
    refine TC.seq ?_
    refine TC.block ?_
    refine TC.seq ?_
    refine TC.regionQ (by kernel_rfl) (by kernel_rfl) dr_hp ?_
    refine TQ.op (yq (y_move (ev_t rfl))) rfl rfl rfl ?_
    refine TQ.op (yq (y_move (ev_t rfl))) rfl rfl rfl ?_
    have hb17 : (i1).toNat < x.length := (by first | omega | (simp only [List.length_set, List.length_append, List.length_cons, List.length_nil, List.length_replicate]; omega) | (rw [sortI_length]; simp only [List.length_cons, List.length_nil]; omega))
    refine TQ.op (yq (y_idx (k := (i1).toNat) (ev_t rfl) (ev_t rfl) (by first | omega | simp) slT_25 (ri_arg hx) hb17)) rfl rfl rfl ?_
    refine TQ.op (yq (y_ldi (ev_t rfl) one_3 (ri_arg hx) hb17)) rfl rfl rfl ?_
    refine TQ.op (yq (y_move (ev_t rfl))) rfl rfl rfl ?_
    refine TQ.op (yq (y_move (ev_t rfl))) rfl rfl rfl ?_
    refine TQ.op (yq (y_sub (ev_t rfl) ev_c (by unfold In64; omega))) rfl rfl rfl ?_
    have hb18 : (i1 - 1).toNat < x.length := (by first | omega | (simp only [List.length_set, List.length_append, List.length_cons, List.length_nil, List.length_replicate]; omega) | (rw [sortI_length]; simp only [List.length_cons, List.length_nil]; omega))
    refine TQ.op (yq (y_idx (k := (i1 - 1).toNat) (ev_t rfl) (ev_t rfl) (by first | omega | simp) slT_25 (ri_arg hx) hb18)) rfl rfl rfl ?_
    refine TQ.op (yq (y_ldi (ev_t rfl) one_3 (ri_arg hx) hb18)) rfl rfl rfl ?_
    refine TQ.op (y_call (vs := [(.int .i64 (x.getD ((i1).toNat) 0)), (.int .i64 (x.getD ((i1 - 1).toNat) 0))]) (v := (.bool (F_cmp_Less_int (x.getD ((i1).toNat) 0) (x.getD ((i1 - 1).toNat) 0)))) en_128 ⟨(ev_t rfl), (ev_t rfl), trivial⟩ (fun w hw => cmp_Less_int_ok w (x.getD ((i1).toNat) 0) (x.getD ((i1 - 1).toNat) 0))) rfl rfl rfl ?_
    refine TQ.nil ?_
    refine TN.seq ?_
    refine TC.cond (b := (F_cmp_Less_int (x.getD ((i1).toNat) 0) (x.getD ((i1 - 1).toNat) 0))) (ev_t rfl) (fun h19 => ?_) (fun h19 => ?_)
    · rw [bif_pos h19] at hL1
      have q20 := h19
      refine TC.seq ?_
      refine TC.region ?_
      refine TL.op (yq (y_assign ev_c)) rfl rfl rfl ?_
      refine TL.nil ?_
      refine TN.seq ?_
      refine TC.ret ?_
      refine TN.blockR ?_
      refine TN.thenR ?_
      refine TN.thenR ?_
      rw [← hL1, elim_ret] at hF
      refine TN.blockR ?_
      refine TN.thenR ?_
      subst hF
      exact TN.ret1 rfl (ev_t rfl) (fun w' hw => ⟨rfl, hw⟩)
    · rw [bif_neg h19] at hL1
      have q20 := h19
      refine TC.skip ?_
      refine TN.blockN ?_
      refine TN.seq ?_
      refine TC.region ?_
      refine TL.op (yq (y_move (ev_t rfl))) rfl rfl rfl ?_
      refine TL.op (yq (y_sub (ev_t rfl) ev_c (by unfold In64; omega))) rfl rfl rfl ?_
      refine TL.op (yq (y_assign (ev_t rfl))) rfl rfl rfl ?_
      refine TL.nil ?_
      exact TN.hand (mf1, i1 - 1) ⟨(by first | omega | (simp [-List.getD_eq_getElem?_getD] <;> omega)), (by first | omega | (simp [-List.getD_eq_getElem?_getD] <;> omega)), (by omega), hL1⟩ (Nat.lt_succ_self _) ⟨rfl, rfl, trivial⟩ (fun w hw => hw)
  · rw [bif_neg h15] at hL1
    have q16 := (of_decide_eq_false h15)
    refine TC.exit ?_
    refine TN.thenE ?_
    refine TN.thenE ?_
    rw [← hL1, elim_next] at hF
    try dsimp only at hF
    refine TN.blockH ?_
    refine TN.seq ?_
    refine TC.seq ?_
    refine TC.region ?_
    refine TL.op (yq (y_assign ev_c)) rfl rfl rfl ?_
    refine TL.nil ?_
    refine TN.seq ?_
    refine TC.ret ?_
    subst hF
    exact TN.ret1 rfl (ev_t rfl) (fun w' hw => ⟨rfl, hw⟩)

set_option maxRecDepth 4000 in
set_option maxHeartbeats 1000000 in
theorem slices_Repeat_Sint_int_ok (w : World) (vx : Value) (x : List Int) (hx : RI w vx x) (count : Int) (hp0 : x.length = 1) (hp1 : 0 ≤ count) (hp2 : count ≤ 1000000) :
    Calls Try.prog 82 ([vx, (.int .i64 count)] : List Value).toArray w (fun e w' => ∃ i : Value, e = .returned i ∧ Hp w [rowI 3 i (F_slices_Repeat_Sint_int x count)] w') := by
  obtain ⟨rz, hF⟩ : ∃ rz, (F_slices_Repeat_Sint_int x count) = rz := ⟨_, rfl⟩
  rw [hF]
  unfold F_slices_Repeat_Sint_int at hF
  have hmu := mulU_one hp0 hp1 hp2
  have hmu1 := hmu.1
  have hmu2 := hmu.2
  have hlen_x := arg_len hx
  refine calls_tc Try.func82 rfl rfl rfl ?_
  change TC _ _ _ _ (Hp w []) [(0, vx), (1, (.int .i64 count))]
  refine TC.seq ?_
  refine TC.region ?_
  refine TL.op (yq (y_assign ev_c)) rfl rfl rfl ?_
  refine TL.nil ?_
  refine TN.seq ?_
  obtain ⟨c57, hcj1⟩ : ∃ c, ((bif decide (count < 0) then default else (Ctl.next ())) : Ctl (Unit) (List Int)) = c := ⟨_, rfl⟩
  rw [hcj1] at hF
  refine TC.cut (fun a' w' => Slots 48 [(0, vx), (1, (.int .i64 count))] a' ∧ Hp w [] w' ∧ (Ctl.next () : Ctl (Unit) (List Int)) = c57) ?_ ?_
  · refine TC.seq ?_
    refine TC.region ?_
    refine TL.op (yq (y_move (ev_t rfl))) rfl rfl rfl ?_
    refine TL.op (yq (y_lss (ev_t rfl) ev_c)) rfl rfl rfl ?_
    refine TL.nil ?_
    refine TN.seq ?_
    refine TC.cond (b := decide (count < 0)) (ev_t rfl) (fun h58 => ?_) (fun h58 => ?_)
    · rw [bif_pos h58] at hcj1
      have q59 := (of_decide_eq_true h58)
      exfalso; omega
    · rw [bif_neg h58] at hcj1
      have q59 := (of_decide_eq_false h58)
      refine TC.skip ?_
      exact fun a' w' hs hw => ⟨hs.sub ⟨rfl, rfl, trivial⟩, hw, hcj1⟩
  · rintro a' w' ⟨hs', hw', hdj1⟩
    rw [← hdj1, elim_next] at hF
    try dsimp only at hF
    refine (?_ : TC _ _ _ 48 (Hp w []) [(0, vx), (1, (.int .i64 count))]) a' w' hs' hw'
    clear hs' hw' hcj1
    refine TC.seq ?_
    refine TC.region ?_
    refine TL.op (yq (y_move (ev_t rfl))) rfl rfl rfl ?_
    refine TL.op (yq (y_len (ev_t rfl) Try.underlying25 (fun w hw => ((ri_arg hx) w hw).ln))) rfl rfl rfl ?_
    refine TL.op (yq (y_conv_u64 (ev_t rfl) Try.underlying3 Try.underlying106 (by first | omega | (simp only [List.length_set, List.length_append, List.length_cons, List.length_nil, List.length_replicate]; omega) | (rw [sortI_length]; simp only [List.length_cons, List.length_nil]; omega)))) rfl rfl rfl ?_
    refine TL.op (yq (y_move (ev_t rfl))) rfl rfl rfl ?_
    refine TL.op (yq (y_conv_u64 (ev_t rfl) Try.underlying3 Try.underlying106 (by first | omega | (simp only [List.length_set, List.length_append, List.length_cons, List.length_nil, List.length_replicate]; omega) | (rw [sortI_length]; simp only [List.length_cons, List.length_nil]; omega)))) rfl rfl rfl ?_
    refine TL.op (y_call (vs := [(.int .u64 (x.length : Int)), (.int .u64 count)]) (v := (.tuple #[(.int .u64 ((mulU (x.length : Int) count).1)), (.int .u64 ((mulU (x.length : Int) count).2))])) en_117 ⟨(ev_t rfl), (ev_t rfl), trivial⟩ (fun w hw => bits_Mul_ok w (x.length : Int) count (by omega) (by omega) (by omega) (by omega))) rfl rfl rfl ?_
    refine TL.op (yq (y_move (ev_t rfl))) rfl rfl rfl ?_
    refine TL.op (yq (y_extract (ev_t rfl) rfl)) rfl rfl rfl ?_
    refine TL.op (yq (y_extract (ev_t rfl) rfl)) rfl rfl rfl ?_
    refine TL.op (yq (y_assign (ev_t rfl))) rfl rfl rfl ?_
    refine TL.op (yq (y_assign (ev_t rfl))) rfl rfl rfl ?_
    refine TL.nil ?_
    refine TN.seq ?_
    obtain ⟨c62, hcj4⟩ : ∃ c, ((bif ((decide (0 < (mulU (x.length : Int) count).1)) || (decide (9223372036854775807 < (mulU (x.length : Int) count).2))) then default else (Ctl.next ())) : Ctl (Unit) (List Int)) = c := ⟨_, rfl⟩
    rw [hcj4] at hF
    refine TC.cut (fun a' w' => Slots 48 [(0, vx), (6, (.int .u64 ((mulU (x.length : Int) count).2)))] a' ∧ Hp w [] w' ∧ (Ctl.next () : Ctl (Unit) (List Int)) = c62) ?_ ?_
    · refine TC.seq ?_
      refine TC.region ?_
      refine TL.op (yq (y_move (ev_t rfl))) rfl rfl rfl ?_
      refine TL.op (yq (y_gtr (ev_t rfl) ev_c)) rfl rfl rfl ?_
      refine TL.op (yq (y_move (ev_t rfl))) rfl rfl rfl ?_
      refine TL.opw (w_f rfl rfl rfl) (fun hg => yq (y_move (ev_t rfl))) rfl rfl ?_
      refine TL.opw (w_f rfl rfl rfl) (fun hg => yq (y_gtr (ev_g rfl hg) ev_c)) rfl rfl ?_
      refine TL.op (yq (y_or (ev_t rfl) (fun hq => (ev_g rfl hq)))) rfl rfl rfl ?_
      refine TL.nil ?_
      refine TN.seq ?_
      refine TC.cond (b := ((decide (0 < (mulU (x.length : Int) count).1)) || (decide (9223372036854775807 < (mulU (x.length : Int) count).2)))) (ev_t rfl) (fun h63 => ?_) (fun h63 => ?_)
      · rw [bif_pos h63] at hcj4
        have q64 := ((or_t h63).imp (fun h => (of_decide_eq_true h)) (fun h => (of_decide_eq_true h)))
        exfalso; omega
      · rw [bif_neg h63] at hcj4
        have q64 := (and_imp (or_f h63) (fun h => (of_decide_eq_false h)) (fun h => (of_decide_eq_false h)))
        refine TC.skip ?_
        exact fun a' w' hs hw => ⟨hs.sub ⟨rfl, rfl, trivial⟩, hw, hcj4⟩
    · rintro a' w' ⟨hs', hw', hdj4⟩
      rw [← hdj4, elim_next] at hF
      try dsimp only at hF
      refine (?_ : TC _ _ _ 48 (Hp w []) [(0, vx), (6, (.int .u64 ((mulU (x.length : Int) count).2)))]) a' w' hs' hw'
      clear hs' hw' hcj4
      refine TC.seq ?_
      refine TC.region ?_
      refine TL.op (yq (y_move (ev_t rfl))) rfl rfl rfl ?_
      refine TL.op (yq (y_conv_i64 (ev_t rfl) Try.underlying106 Try.underlying3 (by first | omega | (simp only [List.length_set, List.length_append, List.length_cons, List.length_nil, List.length_replicate]; omega) | (rw [sortI_length]; simp only [List.length_cons, List.length_nil]; omega)))) rfl rfl rfl ?_
      refine TL.makeSlice (n := ((mulU (x.length : Int) count).2).toNat) (ev_t rfl) (ev_t rfl) (by omega) slT_25 rfl (by omega) (by unfold maxLen; omega) rfl (fun v6_2 => ?_)
      refine TL.cls (fun w hw => hw.zeros) ?_
      refine TL.op (yq (y_assign (ev_t rfl))) rfl rfl rfl ?_
      refine TL.nil ?_
      refine TN.seq ?_
      refine TC.seq ?_
      refine TC.region ?_
      refine TL.op (yq (y_move (ev_t rfl))) rfl rfl rfl ?_
      refine TL.op (yq (y_move (ev_t rfl))) rfl rfl rfl ?_
      refine TL.copyW 0 (qs := x) (ev_t rfl) (ev_t rfl) rfl slT_25 (ri_arg hx) rfl ?_
      refine TL.op (yq (y_assign (ev_t rfl))) rfl rfl rfl ?_
      refine TL.nil ?_
      refine TN.seq ?_
      refine TC.seq ?_
      refine TC.block ?_
      have hd0 : (x.take (List.replicate (((mulU (x.length : Int) count).2).toNat) (0 : Int)).length ++ (List.replicate (((mulU (x.length : Int) count).2).toNat) (0 : Int)).drop (min x.length (List.replicate (((mulU (x.length : Int) count).2).toNat) (0 : Int)).length)).length = count.toNat := by simp; omega
      have hd3 : (List.replicate (((mulU (x.length : Int) count).2).toNat) (0 : Int)).length = count.toNat := by simp; omega
      obtain ⟨c65, hc66⟩ : ∃ c, F_slices_Repeat_Sint_int_L1  (((x.take (List.replicate (((mulU (x.length : Int) count).2).toNat) (0 : Int)).length ++ (List.replicate (((mulU (x.length : Int) count).2).toNat) (0 : Int)).drop (min x.length (List.replicate (((mulU (x.length : Int) count).2).toNat) (0 : Int)).length)).length - (min x.length (List.replicate (((mulU (x.length : Int) count).2).toNat) (0 : Int)).length)) + 1) ((min x.length (List.replicate (((mulU (x.length : Int) count).2).toNat) (0 : Int)).length), (x.take (List.replicate (((mulU (x.length : Int) count).2).toNat) (0 : Int)).length ++ (List.replicate (((mulU (x.length : Int) count).2).toNat) (0 : Int)).drop (min x.length (List.replicate (((mulU (x.length : Int) count).2).toNat) (0 : Int)).length))) = c := ⟨_, rfl⟩
      rw [hc66] at hF
      refine TC.loop (ι := Nat × Nat × List Int) (fun (fu1, n1, newslice1) => [(7, v6_2), (8, (.int .i64 (n1 : Int)))]) (fun (fu1, n1, newslice1) => Hp w [rowI 3 v6_2 newslice1]) (fun (fu1, n1, newslice1) => (n1 ≤ newslice1.length) ∧ (0 < n1 ∨ newslice1.length = 0) ∧ (newslice1.length ≤ 1000000) ∧ newslice1.length - n1 < fu1 ∧ F_slices_Repeat_Sint_int_L1  fu1 (n1, newslice1) = c65) (fun (fu1, n1, newslice1) => fu1) (((x.take (List.replicate (((mulU (x.length : Int) count).2).toNat) (0 : Int)).length ++ (List.replicate (((mulU (x.length : Int) count).2).toNat) (0 : Int)).drop (min x.length (List.replicate (((mulU (x.length : Int) count).2).toNat) (0 : Int)).length)).length - (min x.length (List.replicate (((mulU (x.length : Int) count).2).toNat) (0 : Int)).length)) + 1, (min x.length (List.replicate (((mulU (x.length : Int) count).2).toNat) (0 : Int)).length), (x.take (List.replicate (((mulU (x.length : Int) count).2).toNat) (0 : Int)).length ++ (List.replicate (((mulU (x.length : Int) count).2).toNat) (0 : Int)).drop (min x.length (List.replicate (((mulU (x.length : Int) count).2).toNat) (0 : Int)).length))) ⟨(by first | omega | (simp [-List.getD_eq_getElem?_getD] <;> omega)), (by first | omega | (simp [-List.getD_eq_getElem?_getD] <;> omega)), (by first | omega | (simp [-List.getD_eq_getElem?_getD] <;> omega)), (by omega), hc66⟩ ⟨rfl, rfl, trivial⟩ (fun w hw => hw) ?_
      rintro ⟨fu1, n1, newslice1⟩ hJ1
      obtain ⟨hi1_0, hi1_1, hi1_2, hmu1, hL1⟩ : (n1 ≤ newslice1.length) ∧ (0 < n1 ∨ newslice1.length = 0) ∧ (newslice1.length ≤ 1000000) ∧ newslice1.length - n1 < fu1 ∧ F_slices_Repeat_Sint_int_L1  fu1 (n1, newslice1) = c65 := hJ1
      change TC _ _ _ _ (Hp w [rowI 3 v6_2 newslice1]) [(7, v6_2), (8, (.int .i64 (n1 : Int)))]
      obtain ⟨mf1, rfl⟩ : ∃ m, fu1 = m + 1 := ⟨fu1 - 1, by omega⟩
      rw [F_slices_Repeat_Sint_int_L1_s] at hL1
      have hd1 : ((newslice1.take n1).drop 0).length = n1 := by simp; omega
      have hd2 : (newslice1.take n1 ++ ((newslice1.take n1).drop 0).take (newslice1.length - n1) ++ newslice1.drop (n1 + (min ((newslice1.take n1).drop 0).length (newslice1.length - n1)))).length = newslice1.length := by simp; omega
      refine TC.seq ?_
      refine TC.seq ?_
      refine TC.region ?_
      refine TL.op (yq (y_move (ev_t rfl))) rfl rfl rfl ?_
      refine TL.op (yq (y_move (ev_t rfl))) rfl rfl rfl ?_
      refine TL.op (yq (y_len (ev_t rfl) Try.underlying25 (fun w hw => ((ri_row 0 rfl) w hw).ln))) rfl rfl rfl ?_
      refine TL.op (yq (y_lss (ev_t rfl) (ev_t rfl))) rfl rfl rfl ?_
      refine TL.nil ?_
      refine TN.seq ?_
      refine TC.cond (b := decide ((n1 : Int) < (newslice1.length : Int))) (ev_t rfl) (fun h67 => ?_) (fun h67 => ?_)
      · rw [bif_pos h67] at hL1
        have q68 := (of_decide_eq_true h67)
        refine TC.skip ?_
        refine TN.seq ?_
        refine TC.block ?_
        refine TC.mid (fun a' w' => Slots 48 [(7, v6_2), (8, (.int .i64 ((n1 : Int) + ((min ((newslice1.take n1).drop 0).length (newslice1.length - n1)) : Nat))))] a' ∧ Hp w [rowI 3 v6_2 (newslice1.take n1 ++ ((newslice1.take n1).drop 0).take (newslice1.length - n1) ++ newslice1.drop (n1 + (min ((newslice1.take n1).drop 0).length (newslice1.length - n1))))] w') ?_ ?_
        · refine TC.regionH 10 (Hp w []) rfl (by kernel_rfl) dr_hp (fun w hw => Hp.sublist hw (List.nil_sublist _)) ?_
          refine TH.take 0 rfl (by kernel_rfl) (y_move (ev_t rfl)) rfl rfl rfl ?_
          refine TH.take 1 rfl (by kernel_rfl) (y_move (ev_t rfl)) rfl rfl rfl ?_
          refine TH.take 2 rfl (by kernel_rfl) (y_move (ev_t rfl)) rfl rfl rfl ?_
          refine TH.take 4 rfl (by kernel_rfl) (y_move (ev_t rfl)) rfl rfl rfl ?_
          refine TH.take 5 rfl (by kernel_rfl) (y_move (ev_t rfl)) rfl rfl rfl ?_
          refine TH.loud2 3 6 rfl rfl (by kernel_rfl) ?_ ?_
          · have hs73 : n1 ≤ newslice1.length := (by first | omega | (simp only [List.length_set, List.length_append, List.length_cons, List.length_nil, List.length_replicate]; omega) | (rw [sortI_length]; simp only [List.length_cons, List.length_nil]; omega))
            have hs74 : newslice1.length ≤ newslice1.length := (by first | omega | (simp only [List.length_set, List.length_append, List.length_cons, List.length_nil, List.length_replicate]; omega) | (rw [sortI_length]; simp only [List.length_cons, List.length_nil]; omega))
            refine TL.op (yq (y_slice_lo (ev_t rfl) (ev_t rfl) (lo := n1) (by omega) slT_25 (ri_row 0 rfl) hs73)) rfl rfl rfl ?_
            refine TL.nil ?_
            refine TH.back (fun w hw => Hp.sublist hw (List.nil_sublist _)) ?_
            refine TH.loud 6 rfl (by kernel_rfl) ?_
            have hs75 : 0 ≤ n1 := (by first | omega | (simp only [List.length_set, List.length_append, List.length_cons, List.length_nil, List.length_replicate]; omega) | (rw [sortI_length]; simp only [List.length_cons, List.length_nil]; omega))
            have hs76 : n1 ≤ newslice1.length := (by first | omega | (simp only [List.length_set, List.length_append, List.length_cons, List.length_nil, List.length_replicate]; omega) | (rw [sortI_length]; simp only [List.length_cons, List.length_nil]; omega))
            refine TL.op (yq (y_slice_hi (ev_t rfl) (ev_t rfl) (hi := n1) (by omega) slT_25 (ri_row 0 rfl) hs76)) rfl rfl rfl ?_
            refine TL.nil ?_
            refine TH.back (fun w hw => Hp.sublist hw (List.nil_sublist _)) ?_
            refine TH.loud 7 rfl (by kernel_rfl) ?_
            refine TL.copyI 0 (lo := n1) (hi := newslice1.length) (qs := ((newslice1.take n1).drop 0)) (ev_t rfl) (ev_t rfl) rfl slT_25 (fun w hw => ri_resl ((ri_row 0 rfl) w hw) hs75 hs76) hs73 hs74 rfl ?_
            refine TL.nil ?_
            refine TH.back (fun w hw => Hp.sublist hw (List.nil_sublist _)) ?_
            refine TH.take 8 rfl (by kernel_rfl) (y_add (ev_t rfl) (ev_t rfl) (by unfold In64; omega)) rfl rfl rfl ?_
            refine TH.take 9 rfl (by kernel_rfl) (y_assign (ev_t rfl)) rfl rfl rfl ?_
            refine TH.done (by kernel_rfl) ?_
            exact fun a' w' hs hw => ⟨hs.sub ⟨rfl, rfl, trivial⟩, hw⟩
          · have hs77 : 0 ≤ n1 := (by first | omega | (simp only [List.length_set, List.length_append, List.length_cons, List.length_nil, List.length_replicate]; omega) | (rw [sortI_length]; simp only [List.length_cons, List.length_nil]; omega))
            have hs78 : n1 ≤ newslice1.length := (by first | omega | (simp only [List.length_set, List.length_append, List.length_cons, List.length_nil, List.length_replicate]; omega) | (rw [sortI_length]; simp only [List.length_cons, List.length_nil]; omega))
            refine TL.op (yq (y_slice_hi (ev_t rfl) (ev_t rfl) (hi := n1) (by omega) slT_25 (ri_row 0 rfl) hs78)) rfl rfl rfl ?_
            refine TL.nil ?_
            refine TH.back (fun w hw => Hp.sublist hw (List.nil_sublist _)) ?_
            refine TH.loud 3 rfl (by kernel_rfl) ?_
            have hs79 : n1 ≤ newslice1.length := (by first | omega | (simp only [List.length_set, List.length_append, List.length_cons, List.length_nil, List.length_replicate]; omega) | (rw [sortI_length]; simp only [List.length_cons, List.length_nil]; omega))
            have hs80 : newslice1.length ≤ newslice1.length := (by first | omega | (simp only [List.length_set, List.length_append, List.length_cons, List.length_nil, List.length_replicate]; omega) | (rw [sortI_length]; simp only [List.length_cons, List.length_nil]; omega))
            refine TL.op (yq (y_slice_lo (ev_t rfl) (ev_t rfl) (lo := n1) (by omega) slT_25 (ri_row 0 rfl) hs79)) rfl rfl rfl ?_
            refine TL.nil ?_
            refine TH.back (fun w hw => Hp.sublist hw (List.nil_sublist _)) ?_
            refine TH.loud 7 rfl (by kernel_rfl) ?_
            refine TL.copyI 0 (lo := n1) (hi := newslice1.length) (qs := ((newslice1.take n1).drop 0)) (ev_t rfl) (ev_t rfl) rfl slT_25 (fun w hw => ri_resl ((ri_row 0 rfl) w hw) hs77 hs78) hs79 hs80 rfl ?_
            refine TL.nil ?_
            refine TH.back (fun w hw => Hp.sublist hw (List.nil_sublist _)) ?_
            refine TH.take 8 rfl (by kernel_rfl) (y_add (ev_t rfl) (ev_t rfl) (by unfold In64; omega)) rfl rfl rfl ?_
            refine TH.take 9 rfl (by kernel_rfl) (y_assign (ev_t rfl)) rfl rfl rfl ?_
            refine TH.done (by kernel_rfl) ?_
            exact fun a' w' hs hw => ⟨hs.sub ⟨rfl, rfl, trivial⟩, hw⟩
        · rintro a' w' ⟨hs', hw'⟩
          refine (?_ : TN _ .normal 48 (Hp w [rowI 3 v6_2 (newslice1.take n1 ++ ((newslice1.take n1).drop 0).take (newslice1.length - n1) ++ newslice1.drop (n1 + (min ((newslice1.take n1).drop 0).length (newslice1.length - n1))))]) [(7, v6_2), (8, (.int .i64 ((n1 : Int) + ((min ((newslice1.take n1).drop 0).length (newslice1.length - n1)) : Nat))))]) a' w' hs' hw'
          clear hs' hw'
          refine TN.blockN ?_
          exact TN.hand (mf1, (n1 + (min ((newslice1.take n1).drop 0).length (newslice1.length - n1))), (newslice1.take n1 ++ ((newslice1.take n1).drop 0).take (newslice1.length - n1) ++ newslice1.drop (n1 + (min ((newslice1.take n1).drop 0).length (newslice1.length - n1))))) ⟨(by first | omega | (simp [-List.getD_eq_getElem?_getD] <;> omega)), (by first | omega | (simp [-List.getD_eq_getElem?_getD] <;> omega)), (by first | omega | (simp [-List.getD_eq_getElem?_getD] <;> omega)), (by omega), hL1⟩ (Nat.lt_succ_self _) ⟨rfl, rfl, trivial⟩ (fun w hw => hw)
      · rw [bif_neg h67] at hL1
        have q68 := (of_decide_eq_false h67)
        refine TC.exit ?_
        refine TN.thenE ?_
        refine TN.thenE ?_
        rw [← hL1, elim_next] at hF
        try dsimp only at hF
        refine TN.blockH ?_
        refine TN.seq ?_
        refine TC.seq ?_
        refine TC.region ?_
        refine TL.op (yq (y_move (ev_t rfl))) rfl rfl rfl ?_
        refine TL.op (yq (y_assign (ev_t rfl))) rfl rfl rfl ?_
        refine TL.nil ?_
        refine TN.seq ?_
        refine TC.ret ?_
        subst hF
        exact TN.ret1 rfl (ev_t rfl) (fun w' hw => ⟨v6_2, rfl, hw⟩)

set_option maxRecDepth 4000 in
set_option maxHeartbeats 1000000 in
theorem slices_Concat_Sint_int_ok (w : World) (vs : Value) (us : List Value) (s : List (List Int)) (hs : RII w vs us s) (hp0 : total s ≤ 1000000) :
    Calls Try.prog 123 ([vs] : List Value).toArray w (fun e w' => ∃ i : Value, e = .returned i ∧ Hp w [rowI 3 i (F_slices_Concat_Sint_int s)] w') := by
  obtain ⟨rz, hF⟩ : ∃ rz, (F_slices_Concat_Sint_int s) = rz := ⟨_, rfl⟩
  rw [hF]
  unfold F_slices_Concat_Sint_int at hF
  have htot := totalFrom_zero s
  have hlen_s := argT_len hs
  refine calls_tc Try.func123 rfl rfl rfl ?_
  change TC _ _ _ _ (Hp w []) [(0, vs)]
  refine TC.seq ?_
  refine TC.region ?_
  refine TL.op (yq (y_assign ev_c)) rfl rfl rfl ?_
  refine TL.nil ?_
  refine TN.seq ?_
  refine TC.seq ?_
  refine TC.region ?_
  refine TL.op (yq (y_assign ev_c)) rfl rfl rfl ?_
  refine TL.nil ?_
  refine TN.seq ?_
  refine TC.seq ?_
  refine TC.seq ?_
  refine TC.region ?_
  refine TL.op (yq (y_move (ev_t rfl))) rfl rfl rfl ?_
  refine TL.op (yq (y_len (ev_t rfl) Try.underlying22 (fun w hw => ((fun w hw => ((rii_arg hs) w hw).1) w hw).ln))) rfl rfl rfl ?_
  refine TL.op (yq (y_move ev_c)) rfl rfl rfl ?_
  refine TL.nil ?_
  refine TN.seq ?_
  refine TC.block ?_
  obtain ⟨c21, hc22⟩ : ∃ c, F_slices_Concat_Sint_int_L1 s ((s.length - 0) + 1) (0, 0) = c := ⟨_, rfl⟩
  rw [hc22] at hF
  refine TC.loop (ι := Nat × Nat × Nat) (fun (fu1, size1, k11_1) => [(0, vs), (3, (.int .i64 (size1 : Int))), (9, vs), (10, (.int .i64 (s.length : Int))), (11, (.int .i64 (k11_1 : Int)))]) (fun (fu1, size1, k11_1) => Hp w []) (fun (fu1, size1, k11_1) => (k11_1 ≤ s.length) ∧ (size1 + totalFrom s k11_1 ≤ 1000000) ∧ s.length - k11_1 < fu1 ∧ F_slices_Concat_Sint_int_L1 s fu1 (size1, k11_1) = c21) (fun (fu1, size1, k11_1) => fu1) ((s.length - 0) + 1, 0, 0) ⟨(by first | omega | (simp [-List.getD_eq_getElem?_getD] <;> omega)), (by first | omega | (simp [-List.getD_eq_getElem?_getD] <;> omega)), (by omega), hc22⟩ ⟨rfl, rfl, rfl, rfl, rfl, trivial⟩ (fun w hw => hw) ?_
  rintro ⟨fu1, size1, k11_1⟩ hJ1
  obtain ⟨hi1_0, hi1_1, hmu1, hL1⟩ : (k11_1 ≤ s.length) ∧ (size1 + totalFrom s k11_1 ≤ 1000000) ∧ s.length - k11_1 < fu1 ∧ F_slices_Concat_Sint_int_L1 s fu1 (size1, k11_1) = c21 := hJ1
  change TC _ _ _ _ (Hp w []) [(0, vs), (3, (.int .i64 (size1 : Int))), (9, vs), (10, (.int .i64 (s.length : Int))), (11, (.int .i64 (k11_1 : Int)))]
  obtain ⟨mf1, rfl⟩ : ∃ m, fu1 = m + 1 := ⟨fu1 - 1, by omega⟩
  rw [F_slices_Concat_Sint_int_L1_s] at hL1
  have hst := totalFrom_step s k11_1
  refine TC.seq ?_
  refine TC.region ?_
  refine TL.op (yq (y_lss (ev_t rfl) (ev_t rfl))) rfl rfl rfl ?_
  refine TL.nil ?_
  refine TN.seq ?_
  refine TC.seq ?_
  refine TC.cond (b := decide ((k11_1 : Int) < (s.length : Int))) (ev_t rfl) (fun h23 => ?_) (fun h23 => ?_)
  · rw [bif_pos h23] at hL1
    have q24 := (of_decide_eq_true h23)
    refine TC.skip ?_
    refine TN.seq ?_
    refine TC.seq ?_
    refine TC.block ?_
    refine TC.seq ?_
    refine TC.region ?_
    have hb25 : k11_1 < s.length := (by first | omega | (simp only [List.length_set, List.length_append, List.length_cons, List.length_nil, List.length_replicate]; omega) | (rw [sortI_length]; simp only [List.length_cons, List.length_nil]; omega))
    refine TL.op (yq (y_idx (k := k11_1) (ev_t rfl) (ev_t rfl) (by first | omega | simp) slT_22 (fun w hw => ((rii_arg hs) w hw).1) hb25)) rfl rfl rfl ?_
    have ha26 := hs.row (i := k11_1) hb25
    refine TL.op (yq (y_ldA (ev_t rfl) one_25 (rii_arg hs) hb25)) rfl rfl rfl ?_
    refine TL.op (yq (y_assign (ev_t rfl))) rfl rfl rfl ?_
    refine TL.nil ?_
    refine TN.seq ?_
    refine TC.seq ?_
    refine TC.region ?_
    refine TL.op (yq (y_move (ev_t rfl))) rfl rfl rfl ?_
    refine TL.op (yq (y_move (ev_t rfl))) rfl rfl rfl ?_
    refine TL.op (yq (y_len (ev_t rfl) Try.underlying25 (fun w hw => ((ri_arg ha26) w hw).ln))) rfl rfl rfl ?_
    refine TL.op (yq (y_add (ev_t rfl) (ev_t rfl) (by unfold In64; omega))) rfl rfl rfl ?_
    refine TL.op (yq (y_assign (ev_t rfl))) rfl rfl rfl ?_
    refine TL.nil ?_
    refine TN.seq ?_
    refine TC.seq ?_
    refine TC.region ?_
    refine TL.op (yq (y_move (ev_t rfl))) rfl rfl rfl ?_
    refine TL.op (yq (y_lss (ev_t rfl) ev_c)) rfl rfl rfl ?_
    refine TL.nil ?_
    refine TN.seq ?_
    refine TC.cond (b := decide ((size1 : Int) + ((s.getD k11_1 []).length : Int) < 0)) (ev_t rfl) (fun h27 => ?_) (fun h27 => ?_)
    · rw [bif_pos h27] at hL1
      have q28 := (of_decide_eq_true h27)
      exfalso; omega
    · rw [bif_neg h27] at hL1
      have q28 := (of_decide_eq_false h27)
      refine TC.skip ?_
      refine TN.blockN ?_
      refine TN.seq ?_
      refine TC.region ?_
      refine TL.op (yq (y_add (ev_t rfl) ev_c (by unfold In64; omega))) rfl rfl rfl ?_
      refine TL.op (yq (y_move (ev_t rfl))) rfl rfl rfl ?_
      refine TL.nil ?_
      exact TN.hand (mf1, (size1 + (s.getD k11_1 []).length), (k11_1 + 1)) ⟨(by first | omega | (simp [-List.getD_eq_getElem?_getD] <;> omega)), (by first | omega | (simp [-List.getD_eq_getElem?_getD] <;> omega)), (by omega), hL1⟩ (Nat.lt_succ_self _) ⟨rfl, rfl, rfl, rfl, rfl, trivial⟩ (fun w hw => hw)
  · rw [bif_neg h23] at hL1
    have q24 := (of_decide_eq_false h23)
    refine TC.exit ?_
    refine TN.thenE ?_
    refine TN.thenE ?_
    rw [← hL1, elim_next] at hF
    try dsimp only at hF
    refine TN.blockH ?_
    refine TN.seq ?_
    refine TC.seq ?_
    refine TC.region ?_
    refine TL.op (yq (y_move (ev_t rfl))) rfl rfl rfl ?_
    refine TL.callr (ι := Value) (vs := [(.slice none 0 0), (.int .i64 (size1 : Int))]) (fun i => i) (fun i => [rowI 3 i ([] : List Int)]) en_137 ⟨ev_c, (ev_t rfl), trivial⟩ rfl (fun w hw => slices_Grow_ok w (size1 : Int) (by first | assumption | omega | grind) (by first | assumption | omega | grind)) (fun r9_1 => ?_)
    refine TL.op (yq (y_assign (ev_t rfl))) rfl rfl rfl ?_
    refine TL.nil ?_
    refine TN.seq ?_
    refine TC.seq ?_
    refine TC.seq ?_
    refine TC.region ?_
    refine TL.op (yq (y_move (ev_t rfl))) rfl rfl rfl ?_
    refine TL.op (yq (y_len (ev_t rfl) Try.underlying22 (fun w hw => ((fun w hw => ((rii_arg hs) w hw).1) w hw).ln))) rfl rfl rfl ?_
    refine TL.op (yq (y_move ev_c)) rfl rfl rfl ?_
    refine TL.nil ?_
    refine TN.seq ?_
    refine TC.block ?_
    obtain ⟨c29, hc30⟩ : ∃ c, F_slices_Concat_Sint_int_L2 s ((s.length - 0) + 1) (([] : List Int), 0) = c := ⟨_, rfl⟩
    rw [hc30] at hF
    refine TC.loop (ι := Nat × List Int × Nat × Value) (fun (fu2, newslice2, k27_2, vnewslice2) => [(6, vnewslice2), (25, vs), (26, (.int .i64 (s.length : Int))), (27, (.int .i64 (k27_2 : Int)))]) (fun (fu2, newslice2, k27_2, vnewslice2) => Hp w [rowI 3 vnewslice2 newslice2]) (fun (fu2, newslice2, k27_2, vnewslice2) => (k27_2 ≤ s.length) ∧ (newslice2.length + totalFrom s k27_2 ≤ 1000000) ∧ s.length - k27_2 < fu2 ∧ F_slices_Concat_Sint_int_L2 s fu2 (newslice2, k27_2) = c29) (fun (fu2, newslice2, k27_2, vnewslice2) => fu2) ((s.length - 0) + 1, ([] : List Int), 0, r9_1) ⟨(by first | omega | (simp [-List.getD_eq_getElem?_getD] <;> omega)), (by first | omega | (simp [-List.getD_eq_getElem?_getD] <;> omega)), (by omega), hc30⟩ ⟨rfl, rfl, rfl, rfl, trivial⟩ (fun w hw => hw) ?_
    rintro ⟨fu2, newslice2, k27_2, vnewslice2⟩ hJ2
    obtain ⟨hi2_0, hi2_1, hmu2, hL2⟩ : (k27_2 ≤ s.length) ∧ (newslice2.length + totalFrom s k27_2 ≤ 1000000) ∧ s.length - k27_2 < fu2 ∧ F_slices_Concat_Sint_int_L2 s fu2 (newslice2, k27_2) = c29 := hJ2
    change TC _ _ _ _ (Hp w [rowI 3 vnewslice2 newslice2]) [(6, vnewslice2), (25, vs), (26, (.int .i64 (s.length : Int))), (27, (.int .i64 (k27_2 : Int)))]
    obtain ⟨mf2, rfl⟩ : ∃ m, fu2 = m + 1 := ⟨fu2 - 1, by omega⟩
    rw [F_slices_Concat_Sint_int_L2_s] at hL2
    have hst := totalFrom_step s k27_2
    refine TC.seq ?_
    refine TC.region ?_
    refine TL.op (yq (y_lss (ev_t rfl) (ev_t rfl))) rfl rfl rfl ?_
    refine TL.nil ?_
    refine TN.seq ?_
    refine TC.seq ?_
    refine TC.cond (b := decide ((k27_2 : Int) < (s.length : Int))) (ev_t rfl) (fun h31 => ?_) (fun h31 => ?_)
    · rw [bif_pos h31] at hL2
      have q32 := (of_decide_eq_true h31)
      refine TC.skip ?_
      refine TN.seq ?_
      refine TC.seq ?_
      refine TC.block ?_
      refine TC.seq ?_
      refine TC.region ?_
      have hb33 : k27_2 < s.length := (by first | omega | (simp only [List.length_set, List.length_append, List.length_cons, List.length_nil, List.length_replicate]; omega) | (rw [sortI_length]; simp only [List.length_cons, List.length_nil]; omega))
      refine TL.op (yq (y_idx (k := k27_2) (ev_t rfl) (ev_t rfl) (by first | omega | simp) slT_22 (fun w hw => ((rii_arg hs) w hw).1) hb33)) rfl rfl rfl ?_
      have ha34 := hs.row (i := k27_2) hb33
      refine TL.op (yq (y_ldA (ev_t rfl) one_25 (rii_arg hs) hb33)) rfl rfl rfl ?_
      refine TL.op (yq (y_assign (ev_t rfl))) rfl rfl rfl ?_
      refine TL.nil ?_
      refine TN.seq ?_
      refine TC.region ?_
      refine TL.op (yq (y_move (ev_t rfl))) rfl rfl rfl ?_
      refine TL.op (yq (y_move (ev_t rfl))) rfl rfl rfl ?_
      refine TL.appendI 0 (ev_t rfl) (ev_t rfl) rfl slT_25 (ri_arg ha34) (by first | omega | (simp [-List.getD_eq_getElem?_getD] <;> omega)) rfl (fun v13_2 => ?_)
      refine TL.op (yq (y_assign (ev_t rfl))) rfl rfl rfl ?_
      refine TL.nil ?_
      refine TN.blockN ?_
      refine TN.seq ?_
      refine TC.region ?_
      refine TL.op (yq (y_add (ev_t rfl) ev_c (by unfold In64; omega))) rfl rfl rfl ?_
      refine TL.op (yq (y_move (ev_t rfl))) rfl rfl rfl ?_
      refine TL.nil ?_
      exact TN.hand (mf2, (newslice2 ++ (s.getD k27_2 [])), (k27_2 + 1), v13_2) ⟨(by first | omega | (simp [-List.getD_eq_getElem?_getD] <;> omega)), (by first | omega | (simp [-List.getD_eq_getElem?_getD] <;> omega)), (by omega), hL2⟩ (Nat.lt_succ_self _) ⟨rfl, rfl, rfl, rfl, trivial⟩ (fun w hw => hw)
    · rw [bif_neg h31] at hL2
      have q32 := (of_decide_eq_false h31)
      refine TC.exit ?_
      refine TN.thenE ?_
      refine TN.thenE ?_
      rw [← hL2, elim_next] at hF
      try dsimp only at hF
      refine TN.blockH ?_
      refine TN.seq ?_
      refine TC.seq ?_
      refine TC.region ?_
      refine TL.op (yq (y_move (ev_t rfl))) rfl rfl rfl ?_
      refine TL.op (yq (y_assign (ev_t rfl))) rfl rfl rfl ?_
      refine TL.nil ?_
      refine TN.seq ?_
      refine TC.ret ?_
      subst hF
      exact TN.ret1 rfl (ev_t rfl) (fun w' hw => ⟨vnewslice2, rfl, hw⟩)

end Go.Proofs.Ytilmadapmcnlgaa
