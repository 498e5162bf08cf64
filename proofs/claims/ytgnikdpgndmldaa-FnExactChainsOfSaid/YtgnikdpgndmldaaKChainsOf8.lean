/-
  Part of a proof: rules of the walk, plain functions and their laws, walks. No condition.
-/
import Derived.Test.YtgnikdpgndmldaaKChainsOf7
import Derived.Shelf.Spec.SlicesGrow
import Derived.Test.YtgnikdpgndmldaaProg
namespace Go.Proofs.Ytgnikdpgndmldaa
set_option linter.unusedVariables false
set_option linter.unusedSimpArgs false
open Go Go.Shelf
def lays804_ren : Go.Shelf.Ren := ⟨fun | 4 => 66 | n => n, fun | 22 => 25 | 25 => 3 | 3 => 3 | 4 => 4 | 9 => 9 | 20 => 20 | 0 => 0 | n => n, fun | n => n⟩
theorem lays804 : Go.Proofs.Lays8.n4 Try.prog lays804_ren := {
  mixed := by kernel_rfl
  f4 := ⟨Try.f66.name, by decide, Try.func66.trans (congrArg some (by kernel_rfl))⟩
  t0 := Try.underlying0
  a0 := Try.isAgg0
  z0 := Try.sizeOf0
  v0 := Try.zeroValue0
  t3 := Try.underlying3
  a3 := Try.isAgg3
  z3 := Try.sizeOf3
  v3 := Try.zeroValue3
  t4 := Try.underlying4
  a4 := Try.isAgg4
  z4 := Try.sizeOf4
  v4 := Try.zeroValue4
  t9 := Try.underlying9
  a9 := Try.isAgg9
  z9 := Try.sizeOf9
  v9 := Try.zeroValue9
  t20 := Try.underlying20
  a20 := Try.isAgg20
  z20 := Try.sizeOf20
  v20 := Try.zeroValue20
  t22 := Try.underlying25
  a22 := Try.isAgg25
  z22 := Try.sizeOf25
  v22 := Try.zeroValue25 }
end Go.Proofs.Ytgnikdpgndmldaa
namespace Go.Proofs.Ytgnikdpgndmldaa
set_option linter.unusedVariables false
set_option linter.unusedSimpArgs false
open Go Go.RowKit

theorem slices_Grow_ok (w : World) (n : Int) (hp0 : 0 ≤ n) (hp1 : n ≤ 1000000) :
    Calls Try.prog 66 ([(.slice none 0 0), (.int .i64 n)] : List Value).toArray w (fun e w' => ∃ i : Value, e = .returned i ∧ Hp w [rowI 3 i []] w') := by
  obtain ⟨k, rfl⟩ : ∃ k : Nat, n = k := ⟨n.toNat, by omega⟩
  rcases Nat.eq_zero_or_pos k with rfl | hk
  · refine (Any8.slices_Grow_room lays804 none 0 0 0 w (by omega) (by omega) (by omega) (by omega)).mono ?_
    rintro e w' ⟨rfl, rfl⟩
    exact ⟨_, rfl, (Hp.start _).nil _ _⟩
  · have hT := slT_25
    obtain ⟨i0, hi, hiz, his, hby⟩ := info_parts hT.2.1
    refine (Any8.slices_Grow_grow lays804 i0 (.int .i64 0) hi hiz (by omega) none 0 0 k [] w (by omega) (by omega) (by rw [hby]; omega) (by omega) (by simp) (fun _ => rfl) (fun a h => by cases h)).mono ?_
    rintro e w' ⟨rfl, rfl⟩
    have hge := grownCap_ge w (0 + k) 0 3
    have hcm := grownCap_le_maxLen w (0 + k) 0 3 (by unfold maxLen; omega)
    refine ⟨_, rfl, (Hp.start w).new ⟨rfl, rfl, rfl, by simp, fun k hk => Below.heap_alloc w.drew _ k hk⟩ ?_⟩
    refine ⟨by simp, .inr ⟨w.heap.size, _, _, rfl, by show 0 < grownCap w (0 + k) 0 3; omega, Nat.le_refl _, heap_alloc_new w.drew _, Nat.zero_le _, hcm, ?_, by simp⟩⟩
    have hz : (Value.int .i64 0).cells.size = 1 := rfl
    show _ = grownCap w (0 + k) 0 3 * 1
    simp only [Array.size_append, List.size_toArray, size_zeroCells, hz, List.length_nil]
    show 0 + (0 + k - 0) * 1 + (grownCap w (0 + k) 0 3 - (0 + k)) * 1 = _
    omega
end Go.Proofs.Ytgnikdpgndmldaa
namespace Go.Proofs.Ytgnikdpgndmldaa
set_option linter.unusedVariables false
set_option linter.unusedSimpArgs false
open Go Go.RowKit
set_option linter.unusedVariables false

set_option maxRecDepth 4000 in
set_option maxHeartbeats 1000000 in
theorem cmp_isNaN_int_ok (w : World) (x : Int)  :
    Calls Try.prog 76 ([(.int .i64 x)] : List Value).toArray w (Ret (.bool (F_cmp_isNaN_int x)) (Hp w [])) := by
  obtain ⟨rz, hF⟩ : ∃ rz, (F_cmp_isNaN_int x) = rz := ⟨_, rfl⟩
  rw [hF]
  unfold F_cmp_isNaN_int at hF
  refine calls_tc Try.func76 rfl rfl rfl ?_
  change TC _ _ _ _ (Hp w []) [(0, (.int .i64 x))]
  refine TC.seq ?_
  refine TC.region ?_
  refine TL.op (yq (y_assign ev_c)) rfl rfl rfl ?_
  refine TL.nil ?_
  refine TN.seq ?_
  refine TC.seq ?_
  refine TC.region ?_
  refine TL.op (yq (y_move (ev_t rfl))) rfl rfl rfl ?_
  refine TL.op (yq (y_move (ev_t rfl))) rfl rfl rfl ?_
  refine TL.op (yq (y_neq (ev_t rfl) (ev_t rfl))) rfl rfl rfl ?_
  refine TL.op (yq (y_assign (ev_t rfl))) rfl rfl rfl ?_
  refine TL.nil ?_
  refine TN.seq ?_
  refine TC.ret ?_
  subst hF
  exact TN.ret1 rfl (ev_t rfl) (fun w' hw => ⟨rfl, hw⟩)

set_option maxRecDepth 4000 in
set_option maxHeartbeats 1000000 in
theorem cmp_Less_int_ok (w : World) (x : Int) (y : Int)  :
    Calls Try.prog 72 ([(.int .i64 x), (.int .i64 y)] : List Value).toArray w (Ret (.bool (F_cmp_Less_int x y)) (Hp w [])) := by
  obtain ⟨rz, hF⟩ : ∃ rz, (F_cmp_Less_int x y) = rz := ⟨_, rfl⟩
  rw [hF]
  unfold F_cmp_Less_int at hF
  refine calls_tc Try.func72 rfl rfl rfl ?_
  change TC _ _ _ _ (Hp w []) [(0, (.int .i64 x)), (1, (.int .i64 y))]
  refine TC.seq ?_
  refine TC.region ?_
  refine TL.op (yq (y_assign ev_c)) rfl rfl rfl ?_
  refine TL.nil ?_
  refine TN.seq ?_
  refine TC.seq ?_
  refine TC.region ?_
  refine TL.op (yq (y_move (ev_t rfl))) rfl rfl rfl ?_
  refine TL.op (y_call (vs := [(.int .i64 x)]) (v := (.bool (!decide (x = x)))) en_76 ⟨(ev_t rfl), trivial⟩ (fun w hw => cmp_isNaN_int_ok w x)) rfl rfl rfl ?_
  refine TL.op (yq (y_move (ev_t rfl))) rfl rfl rfl ?_
  refine TL.opw (w_t rfl rfl rfl) (fun hg => yq (y_move (ev_t rfl))) rfl rfl ?_
  refine TL.opw (w_t rfl rfl rfl) (fun hg => y_call (vs := [(.int .i64 y)]) (v := (.bool (!decide (y = y)))) en_76 ⟨(ev_g rfl hg), trivial⟩ (fun w hw => cmp_isNaN_int_ok w y)) rfl rfl ?_
  refine TL.opw (w_t rfl rfl rfl) (fun hg => yq (y_not (ev_g rfl hg))) rfl rfl ?_
  refine TL.op (yq (y_and (ev_t rfl) (fun hq => (ev_g rfl hq)))) rfl rfl rfl ?_
  refine TL.op (yq (y_move (ev_t rfl))) rfl rfl rfl ?_
  refine TL.opw (w_f rfl rfl rfl) (fun hg => yq (y_move (ev_t rfl))) rfl rfl ?_
  refine TL.opw (w_f rfl rfl rfl) (fun hg => yq (y_move (ev_t rfl))) rfl rfl ?_
  refine TL.opw (w_f rfl rfl rfl) (fun hg => yq (y_lss (ev_g rfl hg) (ev_g rfl hg))) rfl rfl ?_
  refine TL.op (yq (y_or (ev_t rfl) (fun hq => (ev_g rfl hq)))) rfl rfl rfl ?_
  refine TL.op (yq (y_assign (ev_t rfl))) rfl rfl rfl ?_
  refine TL.nil ?_
  refine TN.seq ?_
  refine TC.ret ?_
  subst hF
  exact TN.ret1 rfl (ev_t rfl) (fun w' hw => ⟨rfl, hw⟩)

set_option maxRecDepth 4000 in
set_option maxHeartbeats 1000000 in
theorem slices_IndexFunc_Sint_int_ok (w : World) (vs : Value) (s : List Int) (hs : RI w vs s) (kf : Nat) (cf : List Value) (f : Int → Bool) (ef : En Try.prog kf) (hf : ∀ (w' : World) (_ : Below w.heap.size w w') (x0 : Int), Calls Try.prog kf ([(.int .i64 x0)] ++ cf : List Value).toArray w' (Ret (.bool (f x0)) (Hp w' [])))  :
    Calls Try.prog 73 ([vs, (.func (.func kf) #[] cf.toArray)] : List Value).toArray w (Ret (.int .i64 (F_slices_IndexFunc_Sint_int s f)) (Hp w [])) := by
  obtain ⟨rz, hF⟩ : ∃ rz, (F_slices_IndexFunc_Sint_int s f) = rz := ⟨_, rfl⟩
  rw [hF]
  unfold F_slices_IndexFunc_Sint_int at hF
  have hlen_s := arg_len hs
  refine calls_tc Try.func73 rfl rfl rfl ?_
  change TC _ _ _ _ (Hp w []) [(0, vs), (1, (.func (.func kf) #[] cf.toArray))]
  refine TC.seq ?_
  refine TC.region ?_
  refine TL.op (yq (y_assign ev_c)) rfl rfl rfl ?_
  refine TL.nil ?_
  refine TN.seq ?_
  refine TC.seq ?_
  refine TC.seq ?_
  refine TC.region ?_
  refine TL.op (yq (y_move (ev_t rfl))) rfl rfl rfl ?_
  refine TL.op (yq (y_len (ev_t rfl) Try.underlying25 (fun w hw => ((ri_arg hs) w hw).ln))) rfl rfl rfl ?_
  refine TL.op (yq (y_move ev_c)) rfl rfl rfl ?_
  refine TL.nil ?_
  refine TN.seq ?_
  refine TC.block ?_
  obtain ⟨c11, hc12⟩ : ∃ c, F_slices_IndexFunc_Sint_int_L1 s f ((s.length - 0) + 1) 0 = c := ⟨_, rfl⟩
  rw [hc12] at hF
  refine TC.loop (ι := Nat × Nat) (fun (fu1, k8_1) => [(0, vs), (1, (.func (.func kf) #[] cf.toArray)), (7, (.int .i64 (s.length : Int))), (8, (.int .i64 (k8_1 : Int)))]) (fun (fu1, k8_1) => Hp w []) (fun (fu1, k8_1) => (k8_1 ≤ s.length) ∧ s.length - k8_1 < fu1 ∧ F_slices_IndexFunc_Sint_int_L1 s f fu1 k8_1 = c11) (fun (fu1, k8_1) => fu1) ((s.length - 0) + 1, 0) ⟨(by first | omega | (simp [-List.getD_eq_getElem?_getD] <;> omega)), (by omega), hc12⟩ ⟨rfl, rfl, rfl, rfl, trivial⟩ (fun w hw => hw) ?_
  rintro ⟨fu1, k8_1⟩ hJ1
  obtain ⟨hi1_0, hmu1, hL1⟩ : (k8_1 ≤ s.length) ∧ s.length - k8_1 < fu1 ∧ F_slices_IndexFunc_Sint_int_L1 s f fu1 k8_1 = c11 := hJ1
  change TC _ _ _ _ (Hp w []) [(0, vs), (1, (.func (.func kf) #[] cf.toArray)), (7, (.int .i64 (s.length : Int))), (8, (.int .i64 (k8_1 : Int)))]
  obtain ⟨mf1, rfl⟩ : ∃ m, fu1 = m + 1 := ⟨fu1 - 1, by omega⟩
  rw [F_slices_IndexFunc_Sint_int_L1_s] at hL1
  refine TC.seq ?_
  refine TC.region ?_
  refine TL.op (yq (y_lss (ev_t rfl) (ev_t rfl))) rfl rfl rfl ?_
  refine TL.nil ?_
  refine TN.seq ?_
  refine TC.seq ?_
  refine TC.cond (b := decide ((k8_1 : Int) < (s.length : Int))) (ev_t rfl) (fun h13 => ?_) (fun h13 => ?_)
  · rw [bif_pos h13] at hL1
    have q14 := (of_decide_eq_true h13)
    refine TC.skip ?_
    refine TN.seq ?_
    refine TC.seq ?_
    refine TC.block ?_
    refine TC.seq ?_
    refine TC.region ?_
    refine TL.op (yq (y_move (ev_t rfl))) rfl rfl rfl ?_
    refine TL.op (yq (y_assign (ev_t rfl))) rfl rfl rfl ?_
    refine TL.nil ?_
    refine TN.seq ?_
    refine TC.seq ?_
    refine TC.region ?_
    refine TL.op (yq (y_move (ev_t rfl))) rfl rfl rfl ?_
    refine TL.op (yq (y_move (ev_t rfl))) rfl rfl rfl ?_
    refine TL.op (yq (y_move (ev_t rfl))) rfl rfl rfl ?_
    have hb15 : k8_1 < s.length := (by first | omega | (simp only [List.length_set, List.length_append, List.length_cons, List.length_nil, List.length_replicate]; omega) | (rw [sortI_length]; simp only [List.length_cons, List.length_nil]; omega) | (simp only [ByteArray.size_append]; omega))
    refine TL.op (yq (y_idx (k := k8_1) (ev_t rfl) (ev_t rfl) (by first | omega | simp) slT_25 (ri_arg hs) hb15)) rfl rfl rfl ?_
    refine TL.op (yq (y_ldi (ev_t rfl) one_3 (ri_arg hs) hb15)) rfl rfl rfl ?_
    refine TL.op (y_callv (vs := [(.int .i64 (s.getD k8_1 0))]) (v := (.bool (f (s.getD k8_1 0)))) ef (ev_t rfl) ⟨(ev_t rfl), trivial⟩ (fun w hw => hf w hw.1 (s.getD k8_1 0))) rfl rfl rfl ?_
    refine TL.nil ?_
    refine TN.seq ?_
    refine TC.cond (b := (f (s.getD k8_1 0))) (ev_t rfl) (fun h16 => ?_) (fun h16 => ?_)
    · rw [bif_pos h16] at hL1
      have q17 := h16
      refine TC.seq ?_
      refine TC.region ?_
      refine TL.op (yq (y_move (ev_t rfl))) rfl rfl rfl ?_
      refine TL.op (yq (y_assign (ev_t rfl))) rfl rfl rfl ?_
      refine TL.nil ?_
      refine TN.seq ?_
      refine TC.ret ?_
      refine TN.blockR ?_
      refine TN.thenR ?_
      refine TN.thenR ?_
      rw [← hL1, elim_ret] at hF
      refine TN.blockR ?_
      refine TN.thenR ?_
      subst hF
      exact TN.ret1 rfl (ev_t rfl) (fun w' hw => ⟨rfl, hw⟩)
    · rw [bif_neg h16] at hL1
      have q17 := h16
      refine TC.skip ?_
      refine TN.blockN ?_
      refine TN.seq ?_
      refine TC.region ?_
      refine TL.op (yq (y_add (ev_t rfl) ev_c (by unfold In64; constructor <;> omega))) rfl rfl rfl ?_
      refine TL.op (yq (y_move (ev_t rfl))) rfl rfl rfl ?_
      refine TL.nil ?_
      exact TN.hand (mf1, (k8_1 + 1)) ⟨(by first | omega | (simp [-List.getD_eq_getElem?_getD] <;> omega)), (by omega), hL1⟩ (Nat.lt_succ_self _) ⟨rfl, rfl, rfl, rfl, trivial⟩ (fun w hw => hw)
  · rw [bif_neg h13] at hL1
    have q14 := (of_decide_eq_false h13)
    refine TC.exit ?_
    refine TN.thenE ?_
    refine TN.thenE ?_
    rw [← hL1, elim_next] at hF
    try dsimp only at hF
    refine TN.blockH ?_
    refine TN.seq ?_
    refine TC.seq ?_
    refine TC.region ?_
    refine TL.op (yq (y_assign ev_c)) rfl rfl rfl ?_
    refine TL.nil ?_
    refine TN.seq ?_
    refine TC.ret ?_
    subst hF
    exact TN.ret1 rfl (ev_t rfl) (fun w' hw => ⟨rfl, hw⟩)

set_option maxRecDepth 4000 in
set_option maxHeartbeats 1000000 in
theorem slices_ContainsFunc_Sint_int_ok (w : World) (vs : Value) (s : List Int) (hs : RI w vs s) (kf : Nat) (cf : List Value) (f : Int → Bool) (ef : En Try.prog kf) (hf : ∀ (w' : World) (_ : Below w.heap.size w w') (x0 : Int), Calls Try.prog kf ([(.int .i64 x0)] ++ cf : List Value).toArray w' (Ret (.bool (f x0)) (Hp w' [])))  :
    Calls Try.prog 64 ([vs, (.func (.func kf) #[] cf.toArray)] : List Value).toArray w (Ret (.bool (F_slices_ContainsFunc_Sint_int s f)) (Hp w [])) := by
  obtain ⟨rz, hF⟩ : ∃ rz, (F_slices_ContainsFunc_Sint_int s f) = rz := ⟨_, rfl⟩
  rw [hF]
  unfold F_slices_ContainsFunc_Sint_int at hF
  have hlen_s := arg_len hs
  refine calls_tc Try.func64 rfl rfl rfl ?_
  change TC _ _ _ _ (Hp w []) [(0, vs), (1, (.func (.func kf) #[] cf.toArray))]
  refine TC.seq ?_
  refine TC.region ?_
  refine TL.op (yq (y_assign ev_c)) rfl rfl rfl ?_
  refine TL.nil ?_
  refine TN.seq ?_
  refine TC.seq ?_
  refine TC.region ?_
  refine TL.op (yq (y_move (ev_t rfl))) rfl rfl rfl ?_
  refine TL.op (yq (y_move (ev_t rfl))) rfl rfl rfl ?_
  refine TL.op (y_call (vs := [vs, (.func (.func kf) #[] cf.toArray)]) (v := (.int .i64 (F_slices_IndexFunc_Sint_int s f))) en_73 ⟨(ev_t rfl), (ev_t rfl), trivial⟩ (fun w hw => slices_IndexFunc_Sint_int_ok w vs s ((ri_arg hs) w hw) kf cf f ef (fun w2 hb => hf w2 (hw.1.trans (hb.mono hw.1.size))))) rfl rfl rfl ?_
  refine TL.op (yq (y_geq (ev_t rfl) ev_c)) rfl rfl rfl ?_
  refine TL.op (yq (y_assign (ev_t rfl))) rfl rfl rfl ?_
  refine TL.nil ?_
  refine TN.seq ?_
  refine TC.ret ?_
  subst hF
  exact TN.ret1 rfl (ev_t rfl) (fun w' hw => ⟨rfl, hw⟩)

set_option maxRecDepth 4000 in
set_option maxHeartbeats 1000000 in
theorem slices_IndexFunc_SSint_Sint_ok (w : World) (vs : Value) (us : List Value) (s : List (List Int)) (hs : RII w vs us s) (kf : Nat) (cf : List Value) (f : List Int → Bool) (ef : En Try.prog kf) (hf : ∀ (w' : World) (_ : Below w.heap.size w w') (vx0 : Value) (x0 : List Int) (_ : RI w' vx0 x0), Calls Try.prog kf ([vx0] ++ cf : List Value).toArray w' (Ret (.bool (f x0)) (Hp w' [])))  :
    Calls Try.prog 75 ([vs, (.func (.func kf) #[] cf.toArray)] : List Value).toArray w (Ret (.int .i64 (F_slices_IndexFunc_SSint_Sint s f)) (Hp w [])) := by
  obtain ⟨rz, hF⟩ : ∃ rz, (F_slices_IndexFunc_SSint_Sint s f) = rz := ⟨_, rfl⟩
  rw [hF]
  unfold F_slices_IndexFunc_SSint_Sint at hF
  have hlen_s := argT_len hs
  refine calls_tc Try.func75 rfl rfl rfl ?_
  change TC _ _ _ _ (Hp w []) [(0, vs), (1, (.func (.func kf) #[] cf.toArray))]
  refine TC.seq ?_
  refine TC.region ?_
  refine TL.op (yq (y_assign ev_c)) rfl rfl rfl ?_
  refine TL.nil ?_
  refine TN.seq ?_
  refine TC.seq ?_
  refine TC.seq ?_
  refine TC.region ?_
  refine TL.op (yq (y_move (ev_t rfl))) rfl rfl rfl ?_
  refine TL.op (yq (y_len (ev_t rfl) Try.underlying22 (fun w hw => ((fun w hw => ((rii_arg hs) w hw).1) w hw).ln))) rfl rfl rfl ?_
  refine TL.op (yq (y_move ev_c)) rfl rfl rfl ?_
  refine TL.nil ?_
  refine TN.seq ?_
  refine TC.block ?_
  obtain ⟨c13, hc14⟩ : ∃ c, F_slices_IndexFunc_SSint_Sint_L1 s f ((s.length - 0) + 1) 0 = c := ⟨_, rfl⟩
  rw [hc14] at hF
  refine TC.loop (ι := Nat × Nat) (fun (fu1, k8_1) => [(0, vs), (1, (.func (.func kf) #[] cf.toArray)), (7, (.int .i64 (s.length : Int))), (8, (.int .i64 (k8_1 : Int)))]) (fun (fu1, k8_1) => Hp w []) (fun (fu1, k8_1) => (k8_1 ≤ s.length) ∧ s.length - k8_1 < fu1 ∧ F_slices_IndexFunc_SSint_Sint_L1 s f fu1 k8_1 = c13) (fun (fu1, k8_1) => fu1) ((s.length - 0) + 1, 0) ⟨(by first | omega | (simp [-List.getD_eq_getElem?_getD] <;> omega)), (by omega), hc14⟩ ⟨rfl, rfl, rfl, rfl, trivial⟩ (fun w hw => hw) ?_
  rintro ⟨fu1, k8_1⟩ hJ1
  obtain ⟨hi1_0, hmu1, hL1⟩ : (k8_1 ≤ s.length) ∧ s.length - k8_1 < fu1 ∧ F_slices_IndexFunc_SSint_Sint_L1 s f fu1 k8_1 = c13 := hJ1
  change TC _ _ _ _ (Hp w []) [(0, vs), (1, (.func (.func kf) #[] cf.toArray)), (7, (.int .i64 (s.length : Int))), (8, (.int .i64 (k8_1 : Int)))]
  obtain ⟨mf1, rfl⟩ : ∃ m, fu1 = m + 1 := ⟨fu1 - 1, by omega⟩
  rw [F_slices_IndexFunc_SSint_Sint_L1_s] at hL1
  refine TC.seq ?_
  refine TC.region ?_
  refine TL.op (yq (y_lss (ev_t rfl) (ev_t rfl))) rfl rfl rfl ?_
  refine TL.nil ?_
  refine TN.seq ?_
  refine TC.seq ?_
  refine TC.cond (b := decide ((k8_1 : Int) < (s.length : Int))) (ev_t rfl) (fun h15 => ?_) (fun h15 => ?_)
  · rw [bif_pos h15] at hL1
    have q16 := (of_decide_eq_true h15)
    refine TC.skip ?_
    refine TN.seq ?_
    refine TC.seq ?_
    refine TC.block ?_
    refine TC.seq ?_
    refine TC.region ?_
    refine TL.op (yq (y_move (ev_t rfl))) rfl rfl rfl ?_
    refine TL.op (yq (y_assign (ev_t rfl))) rfl rfl rfl ?_
    refine TL.nil ?_
    refine TN.seq ?_
    refine TC.seq ?_
    refine TC.region ?_
    refine TL.op (yq (y_move (ev_t rfl))) rfl rfl rfl ?_
    refine TL.op (yq (y_move (ev_t rfl))) rfl rfl rfl ?_
    refine TL.op (yq (y_move (ev_t rfl))) rfl rfl rfl ?_
    have hb17 : k8_1 < s.length := (by first | omega | (simp only [List.length_set, List.length_append, List.length_cons, List.length_nil, List.length_replicate]; omega) | (rw [sortI_length]; simp only [List.length_cons, List.length_nil]; omega) | (simp only [ByteArray.size_append]; omega))
    refine TL.op (yq (y_idx (k := k8_1) (ev_t rfl) (ev_t rfl) (by first | omega | simp) slT_22 (fun w hw => ((rii_arg hs) w hw).1) hb17)) rfl rfl rfl ?_
    have ha18 := hs.row (i := k8_1) hb17
    refine TL.op (yq (y_ldA (ev_t rfl) one_25 (rii_arg hs) hb17)) rfl rfl rfl ?_
    refine TL.op (y_callv (vs := [(us.getD k8_1 undef)]) (v := (.bool (f (s.getD k8_1 [])))) ef (ev_t rfl) ⟨(ev_t rfl), trivial⟩ (fun w hw => hf w hw.1 (us.getD k8_1 undef) (s.getD k8_1 []) ((ri_arg ha18) w hw))) rfl rfl rfl ?_
    refine TL.nil ?_
    refine TN.seq ?_
    refine TC.cond (b := (f (s.getD k8_1 []))) (ev_t rfl) (fun h19 => ?_) (fun h19 => ?_)
    · rw [bif_pos h19] at hL1
      have q20 := h19
      refine TC.seq ?_
      refine TC.region ?_
      refine TL.op (yq (y_move (ev_t rfl))) rfl rfl rfl ?_
      refine TL.op (yq (y_assign (ev_t rfl))) rfl rfl rfl ?_
      refine TL.nil ?_
      refine TN.seq ?_
      refine TC.ret ?_
      refine TN.blockR ?_
      refine TN.thenR ?_
      refine TN.thenR ?_
      rw [← hL1, elim_ret] at hF
      refine TN.blockR ?_
      refine TN.thenR ?_
      subst hF
      exact TN.ret1 rfl (ev_t rfl) (fun w' hw => ⟨rfl, hw⟩)
    · rw [bif_neg h19] at hL1
      have q20 := h19
      refine TC.skip ?_
      refine TN.blockN ?_
      refine TN.seq ?_
      refine TC.region ?_
      refine TL.op (yq (y_add (ev_t rfl) ev_c (by unfold In64; constructor <;> omega))) rfl rfl rfl ?_
      refine TL.op (yq (y_move (ev_t rfl))) rfl rfl rfl ?_
      refine TL.nil ?_
      exact TN.hand (mf1, (k8_1 + 1)) ⟨(by first | omega | (simp [-List.getD_eq_getElem?_getD] <;> omega)), (by omega), hL1⟩ (Nat.lt_succ_self _) ⟨rfl, rfl, rfl, rfl, trivial⟩ (fun w hw => hw)
  · rw [bif_neg h15] at hL1
    have q16 := (of_decide_eq_false h15)
    refine TC.exit ?_
    refine TN.thenE ?_
    refine TN.thenE ?_
    rw [← hL1, elim_next] at hF
    try dsimp only at hF
    refine TN.blockH ?_
    refine TN.seq ?_
    refine TC.seq ?_
    refine TC.region ?_
    refine TL.op (yq (y_assign ev_c)) rfl rfl rfl ?_
    refine TL.nil ?_
    refine TN.seq ?_
    refine TC.ret ?_
    subst hF
    exact TN.ret1 rfl (ev_t rfl) (fun w' hw => ⟨rfl, hw⟩)

set_option maxRecDepth 4000 in
set_option maxHeartbeats 1000000 in
theorem slices_ContainsFunc_SSint_Sint_ok (w : World) (vs : Value) (us : List Value) (s : List (List Int)) (hs : RII w vs us s) (kf : Nat) (cf : List Value) (f : List Int → Bool) (ef : En Try.prog kf) (hf : ∀ (w' : World) (_ : Below w.heap.size w w') (vx0 : Value) (x0 : List Int) (_ : RI w' vx0 x0), Calls Try.prog kf ([vx0] ++ cf : List Value).toArray w' (Ret (.bool (f x0)) (Hp w' [])))  :
    Calls Try.prog 70 ([vs, (.func (.func kf) #[] cf.toArray)] : List Value).toArray w (Ret (.bool (F_slices_ContainsFunc_SSint_Sint s f)) (Hp w [])) := by
  obtain ⟨rz, hF⟩ : ∃ rz, (F_slices_ContainsFunc_SSint_Sint s f) = rz := ⟨_, rfl⟩
  rw [hF]
  unfold F_slices_ContainsFunc_SSint_Sint at hF
  have hlen_s := argT_len hs
  refine calls_tc Try.func70 rfl rfl rfl ?_
  change TC _ _ _ _ (Hp w []) [(0, vs), (1, (.func (.func kf) #[] cf.toArray))]
  refine TC.seq ?_
  refine TC.region ?_
  refine TL.op (yq (y_assign ev_c)) rfl rfl rfl ?_
  refine TL.nil ?_
  refine TN.seq ?_
  refine TC.seq ?_
  refine TC.region ?_
  refine TL.op (yq (y_move (ev_t rfl))) rfl rfl rfl ?_
  refine TL.op (yq (y_move (ev_t rfl))) rfl rfl rfl ?_
  refine TL.op (y_call (vs := [vs, (.func (.func kf) #[] cf.toArray)]) (v := (.int .i64 (F_slices_IndexFunc_SSint_Sint s f))) en_75 ⟨(ev_t rfl), (ev_t rfl), trivial⟩ (fun w hw => slices_IndexFunc_SSint_Sint_ok w vs us s ((rii_arg hs) w hw) kf cf f ef (fun w2 hb => hf w2 (hw.1.trans (hb.mono hw.1.size))))) rfl rfl rfl ?_
  refine TL.op (yq (y_geq (ev_t rfl) ev_c)) rfl rfl rfl ?_
  refine TL.op (yq (y_assign (ev_t rfl))) rfl rfl rfl ?_
  refine TL.nil ?_
  refine TN.seq ?_
  refine TC.ret ?_
  subst hF
  exact TN.ret1 rfl (ev_t rfl) (fun w' hw => ⟨rfl, hw⟩)

set_option maxRecDepth 4000 in
set_option maxHeartbeats 1000000 in
theorem slices_IsSorted_Sint_int_ok (w : World) (vx : Value) (x : List Int) (hx : RI w vx x)  :
    Calls Try.prog 63 ([vx] : List Value).toArray w (Ret (.bool (F_slices_IsSorted_Sint_int x)) (Hp w [])) := by
  obtain ⟨rz, hF⟩ : ∃ rz, (F_slices_IsSorted_Sint_int x) = rz := ⟨_, rfl⟩
  rw [hF]
  unfold F_slices_IsSorted_Sint_int at hF
  have hlen_x := arg_len hx
  refine calls_tc Try.func63 rfl rfl rfl ?_
  change TC _ _ _ _ (Hp w []) [(0, vx)]
  refine TC.seq ?_
  refine TC.region ?_
  refine TL.op (yq (y_assign ev_c)) rfl rfl rfl ?_
  refine TL.nil ?_
  refine TN.seq ?_
  refine TC.seq ?_
  refine TC.seq ?_
  refine TC.region ?_
  refine TL.op (yq (y_move (ev_t rfl))) rfl rfl rfl ?_
  refine TL.op (yq (y_len (ev_t rfl) Try.underlying25 (fun w hw => ((ri_arg hx) w hw).ln))) rfl rfl rfl ?_
  refine TL.op (yq (y_sub (ev_t rfl) ev_c (by unfold In64; constructor <;> omega))) rfl rfl rfl ?_
  refine TL.op (yq (y_assign (ev_t rfl))) rfl rfl rfl ?_
  refine TL.nil ?_
  refine TN.seq ?_
  refine TC.block ?_
  obtain ⟨c13, hc14⟩ : ∃ c, F_slices_IsSorted_Sint_int_L1 x (((((x.length : Int) - 1) + 1).toNat) + 1) ((x.length : Int) - 1) = c := ⟨_, rfl⟩
  rw [hc14] at hF
  refine TC.loop (ι := Nat × Int) (fun (fu1, i1) => [(0, vx), (3, (.int .i64 i1))]) (fun (fu1, i1) => Hp w []) (fun (fu1, i1) => (i1 < x.length) ∧ (-1 ≤ i1) ∧ (i1 + 1).toNat < fu1 ∧ F_slices_IsSorted_Sint_int_L1 x fu1 i1 = c13) (fun (fu1, i1) => fu1) (((((x.length : Int) - 1) + 1).toNat) + 1, (x.length : Int) - 1) ⟨(by first | omega | (simp [-List.getD_eq_getElem?_getD] <;> omega)), (by first | omega | (simp [-List.getD_eq_getElem?_getD] <;> omega)), (by omega), hc14⟩ ⟨rfl, rfl, trivial⟩ (fun w hw => hw) ?_
  rintro ⟨fu1, i1⟩ hJ1
  obtain ⟨hi1_0, hi1_1, hmu1, hL1⟩ : (i1 < x.length) ∧ (-1 ≤ i1) ∧ (i1 + 1).toNat < fu1 ∧ F_slices_IsSorted_Sint_int_L1 x fu1 i1 = c13 := hJ1
  change TC _ _ _ _ (Hp w []) [(0, vx), (3, (.int .i64 i1))]
  obtain ⟨mf1, rfl⟩ : ∃ m, fu1 = m + 1 := ⟨fu1 - 1, by omega⟩
  rw [F_slices_IsSorted_Sint_int_L1_s] at hL1
  refine TC.seq ?_
  refine TC.seq ?_
  refine TC.region ?_
  refine TL.op (yq (y_move (ev_t rfl))) rfl rfl rfl ?_
  refine TL.op (yq (y_gtr (ev_t rfl) ev_c)) rfl rfl rfl ?_
  refine TL.nil ?_
  refine TN.seq ?_
  refine TC.cond (b := decide (0 < i1)) (ev_t rfl) (fun h15 => ?_) (fun h15 => ?_)
  · rw [bif_pos h15] at hL1
    have q16 := (of_decide_eq_true h15)
    refine TC.skip ?_
    refine TN.seq ?_
    refine TC.seq ?_
    refine TC.block ?_
    refine TC.seq ?_
    refine TC.regionQ (by kernel_rfl) (by kernel_rfl) dr_hp ?_
    refine TQ.op (yq (y_move (ev_t rfl))) rfl rfl rfl ?_
    refine TQ.op (yq (y_move (ev_t rfl))) rfl rfl rfl ?_
    have hb17 : (i1).toNat < x.length := (by first | omega | (simp only [List.length_set, List.length_append, List.length_cons, List.length_nil, List.length_replicate]; omega) | (rw [sortI_length]; simp only [List.length_cons, List.length_nil]; omega) | (simp only [ByteArray.size_append]; omega))
    refine TQ.op (yq (y_idx (k := (i1).toNat) (ev_t rfl) (ev_t rfl) (by first | omega | simp) slT_25 (ri_arg hx) hb17)) rfl rfl rfl ?_
    refine TQ.op (yq (y_ldi (ev_t rfl) one_3 (ri_arg hx) hb17)) rfl rfl rfl ?_
    refine TQ.op (yq (y_move (ev_t rfl))) rfl rfl rfl ?_
    refine TQ.op (yq (y_move (ev_t rfl))) rfl rfl rfl ?_
    refine TQ.op (yq (y_sub (ev_t rfl) ev_c (by unfold In64; constructor <;> omega))) rfl rfl rfl ?_
    have hb18 : (i1 - 1).toNat < x.length := (by first | omega | (simp only [List.length_set, List.length_append, List.length_cons, List.length_nil, List.length_replicate]; omega) | (rw [sortI_length]; simp only [List.length_cons, List.length_nil]; omega) | (simp only [ByteArray.size_append]; omega))
    refine TQ.op (yq (y_idx (k := (i1 - 1).toNat) (ev_t rfl) (ev_t rfl) (by first | omega | simp) slT_25 (ri_arg hx) hb18)) rfl rfl rfl ?_
    refine TQ.op (yq (y_ldi (ev_t rfl) one_3 (ri_arg hx) hb18)) rfl rfl rfl ?_
    refine TQ.op (y_call (vs := [(.int .i64 (x.getD ((i1).toNat) 0)), (.int .i64 (x.getD ((i1 - 1).toNat) 0))]) (v := (.bool (F_cmp_Less_int (x.getD ((i1).toNat) 0) (x.getD ((i1 - 1).toNat) 0)))) en_72 ⟨(ev_t rfl), (ev_t rfl), trivial⟩ (fun w hw => cmp_Less_int_ok w (x.getD ((i1).toNat) 0) (x.getD ((i1 - 1).toNat) 0))) rfl rfl rfl ?_
    refine TQ.nil ?_
    refine TN.seq ?_
    refine TC.cond (b := (F_cmp_Less_int (x.getD ((i1).toNat) 0) (x.getD ((i1 - 1).toNat) 0))) (ev_t rfl) (fun h19 => ?_) (fun h19 => ?_)
    · rw [bif_pos h19] at hL1
      have q20 := h19
      refine TC.seq ?_
      refine TC.region ?_
      refine TL.op (yq (y_assign ev_c)) rfl rfl rfl ?_
      refine TL.nil ?_
      refine TN.seq ?_
      refine TC.ret ?_
      refine TN.blockR ?_
      refine TN.thenR ?_
      refine TN.thenR ?_
      rw [← hL1, elim_ret] at hF
      refine TN.blockR ?_
      refine TN.thenR ?_
      subst hF
      exact TN.ret1 rfl (ev_t rfl) (fun w' hw => ⟨rfl, hw⟩)
    · rw [bif_neg h19] at hL1
      have q20 := h19
      refine TC.skip ?_
      refine TN.blockN ?_
      refine TN.seq ?_
      refine TC.region ?_
      refine TL.op (yq (y_move (ev_t rfl))) rfl rfl rfl ?_
      refine TL.op (yq (y_sub (ev_t rfl) ev_c (by unfold In64; constructor <;> omega))) rfl rfl rfl ?_
      refine TL.op (yq (y_assign (ev_t rfl))) rfl rfl rfl ?_
      refine TL.nil ?_
      exact TN.hand (mf1, i1 - 1) ⟨(by first | omega | (simp [-List.getD_eq_getElem?_getD] <;> omega)), (by first | omega | (simp [-List.getD_eq_getElem?_getD] <;> omega)), (by omega), hL1⟩ (Nat.lt_succ_self _) ⟨rfl, rfl, trivial⟩ (fun w hw => hw)
  · rw [bif_neg h15] at hL1
    have q16 := (of_decide_eq_false h15)
    refine TC.exit ?_
    refine TN.thenE ?_
    refine TN.thenE ?_
    rw [← hL1, elim_next] at hF
    try dsimp only at hF
    refine TN.blockH ?_
    refine TN.seq ?_
    refine TC.seq ?_
    refine TC.region ?_
    refine TL.op (yq (y_assign ev_c)) rfl rfl rfl ?_
    refine TL.nil ?_
    refine TN.seq ?_
    refine TC.ret ?_
    subst hF
    exact TN.ret1 rfl (ev_t rfl) (fun w' hw => ⟨rfl, hw⟩)

set_option maxRecDepth 4000 in
set_option maxHeartbeats 1000000 in
theorem slices_Repeat_Sint_int_ok (w : World) (vx : Value) (x : List Int) (hx : RI w vx x) (count : Int) (hp0 : x.length = 1) (hp1 : 0 ≤ count) (hp2 : count ≤ 1000000) :
    Calls Try.prog 37 ([vx, (.int .i64 count)] : List Value).toArray w (fun e w' => ∃ i : Value, e = .returned i ∧ Hp w [rowI 3 i (F_slices_Repeat_Sint_int x count)] w') := by
  obtain ⟨rz, hF⟩ : ∃ rz, (F_slices_Repeat_Sint_int x count) = rz := ⟨_, rfl⟩
  rw [hF]
  unfold F_slices_Repeat_Sint_int at hF
  have hmu := mulU_one hp0 hp1 hp2
  have hmu1 := hmu.1
  have hmu2 := hmu.2
  have hlen_x := arg_len hx
  refine calls_tc Try.func37 rfl rfl rfl ?_
  change TC _ _ _ _ (Hp w []) [(0, vx), (1, (.int .i64 count))]
  refine TC.seq ?_
  refine TC.region ?_
  refine TL.op (yq (y_assign ev_c)) rfl rfl rfl ?_
  refine TL.nil ?_
  refine TN.seq ?_
  obtain ⟨c57, hcj1⟩ : ∃ c, ((bif decide (count < 0) then default else (Ctl.next ())) : Ctl (Unit) (List Int)) = c := ⟨_, rfl⟩
  rw [hcj1] at hF
  refine TC.cut (fun a' w' => Slots 48 [(0, vx), (1, (.int .i64 count))] a' ∧ Hp w [] w' ∧ (Ctl.next () : Ctl (Unit) (List Int)) = c57) ?_ ?_
  · refine TC.seq ?_
    refine TC.region ?_
    refine TL.op (yq (y_move (ev_t rfl))) rfl rfl rfl ?_
    refine TL.op (yq (y_lss (ev_t rfl) ev_c)) rfl rfl rfl ?_
    refine TL.nil ?_
    refine TN.seq ?_
    refine TC.cond (b := decide (count < 0)) (ev_t rfl) (fun h58 => ?_) (fun h58 => ?_)
    · rw [bif_pos h58] at hcj1
      have q59 := (of_decide_eq_true h58)
      exfalso; omega
    · rw [bif_neg h58] at hcj1
      have q59 := (of_decide_eq_false h58)
      refine TC.skip ?_
      exact fun a' w' hs hw => ⟨hs.sub ⟨rfl, rfl, trivial⟩, hw, hcj1⟩
  · rintro a' w' ⟨hs', hw', hdj1⟩
    rw [← hdj1, elim_next] at hF
    try dsimp only at hF
    refine (?_ : TC _ _ _ 48 (Hp w []) [(0, vx), (1, (.int .i64 count))]) a' w' hs' hw'
    clear hs' hw' hcj1
    refine TC.seq ?_
    refine TC.region ?_
    refine TL.op (yq (y_move (ev_t rfl))) rfl rfl rfl ?_
    refine TL.op (yq (y_len (ev_t rfl) Try.underlying25 (fun w hw => ((ri_arg hx) w hw).ln))) rfl rfl rfl ?_
    refine TL.op (yq (y_conv_u64 (ev_t rfl) Try.underlying3 Try.underlying71 (by first | omega | (simp only [List.length_set, List.length_append, List.length_cons, List.length_nil, List.length_replicate]; omega) | (rw [sortI_length]; simp only [List.length_cons, List.length_nil]; omega) | (simp only [ByteArray.size_append]; omega)))) rfl rfl rfl ?_
    refine TL.op (yq (y_move (ev_t rfl))) rfl rfl rfl ?_
    refine TL.op (yq (y_conv_u64 (ev_t rfl) Try.underlying3 Try.underlying71 (by first | omega | (simp only [List.length_set, List.length_append, List.length_cons, List.length_nil, List.length_replicate]; omega) | (rw [sortI_length]; simp only [List.length_cons, List.length_nil]; omega) | (simp only [ByteArray.size_append]; omega)))) rfl rfl rfl ?_
    refine TL.op (y_call (vs := [(.int .u64 (x.length : Int)), (.int .u64 count)]) (v := (.tuple #[(.int .u64 ((mulU (x.length : Int) count).1)), (.int .u64 ((mulU (x.length : Int) count).2))])) en_54 ⟨(ev_t rfl), (ev_t rfl), trivial⟩ (fun w hw => bits_Mul_ok w (x.length : Int) count (by omega) (by omega) (by omega) (by omega))) rfl rfl rfl ?_
    refine TL.op (yq (y_move (ev_t rfl))) rfl rfl rfl ?_
    refine TL.op (yq (y_extract (ev_t rfl) rfl)) rfl rfl rfl ?_
    refine TL.op (yq (y_extract (ev_t rfl) rfl)) rfl rfl rfl ?_
    refine TL.op (yq (y_assign (ev_t rfl))) rfl rfl rfl ?_
    refine TL.op (yq (y_assign (ev_t rfl))) rfl rfl rfl ?_
    refine TL.nil ?_
    refine TN.seq ?_
    obtain ⟨c62, hcj4⟩ : ∃ c, ((bif ((decide (0 < (mulU (x.length : Int) count).1)) || (decide (9223372036854775807 < (mulU (x.length : Int) count).2))) then default else (Ctl.next ())) : Ctl (Unit) (List Int)) = c := ⟨_, rfl⟩
    rw [hcj4] at hF
    refine TC.cut (fun a' w' => Slots 48 [(0, vx), (6, (.int .u64 ((mulU (x.length : Int) count).2)))] a' ∧ Hp w [] w' ∧ (Ctl.next () : Ctl (Unit) (List Int)) = c62) ?_ ?_
    · refine TC.seq ?_
      refine TC.region ?_
      refine TL.op (yq (y_move (ev_t rfl))) rfl rfl rfl ?_
      refine TL.op (yq (y_gtr (ev_t rfl) ev_c)) rfl rfl rfl ?_
      refine TL.op (yq (y_move (ev_t rfl))) rfl rfl rfl ?_
      refine TL.opw (w_f rfl rfl rfl) (fun hg => yq (y_move (ev_t rfl))) rfl rfl ?_
      refine TL.opw (w_f rfl rfl rfl) (fun hg => yq (y_gtr (ev_g rfl hg) ev_c)) rfl rfl ?_
      refine TL.op (yq (y_or (ev_t rfl) (fun hq => (ev_g rfl hq)))) rfl rfl rfl ?_
      refine TL.nil ?_
      refine TN.seq ?_
      refine TC.cond (b := ((decide (0 < (mulU (x.length : Int) count).1)) || (decide (9223372036854775807 < (mulU (x.length : Int) count).2)))) (ev_t rfl) (fun h63 => ?_) (fun h63 => ?_)
      · rw [bif_pos h63] at hcj4
        have q64 := ((or_t h63).imp (fun h => (of_decide_eq_true h)) (fun h => (of_decide_eq_true h)))
        exfalso; omega
      · rw [bif_neg h63] at hcj4
        have q64 := (and_imp (or_f h63) (fun h => (of_decide_eq_false h)) (fun h => (of_decide_eq_false h)))
        refine TC.skip ?_
        exact fun a' w' hs hw => ⟨hs.sub ⟨rfl, rfl, trivial⟩, hw, hcj4⟩
    · rintro a' w' ⟨hs', hw', hdj4⟩
      rw [← hdj4, elim_next] at hF
      try dsimp only at hF
      refine (?_ : TC _ _ _ 48 (Hp w []) [(0, vx), (6, (.int .u64 ((mulU (x.length : Int) count).2)))]) a' w' hs' hw'
      clear hs' hw' hcj4
      refine TC.seq ?_
      refine TC.region ?_
      refine TL.op (yq (y_move (ev_t rfl))) rfl rfl rfl ?_
      refine TL.op (yq (y_conv_i64 (ev_t rfl) Try.underlying71 Try.underlying3 (by first | omega | (simp only [List.length_set, List.length_append, List.length_cons, List.length_nil, List.length_replicate]; omega) | (rw [sortI_length]; simp only [List.length_cons, List.length_nil]; omega) | (simp only [ByteArray.size_append]; omega)))) rfl rfl rfl ?_
      refine TL.makeSlice (n := ((mulU (x.length : Int) count).2).toNat) (ev_t rfl) (ev_t rfl) (by omega) slT_25 rfl (by omega) (by unfold maxLen; omega) rfl (fun v6_2 => ?_)
      refine TL.cls (fun w hw => hw.zeros) ?_
      refine TL.op (yq (y_assign (ev_t rfl))) rfl rfl rfl ?_
      refine TL.nil ?_
      refine TN.seq ?_
      refine TC.seq ?_
      refine TC.region ?_
      refine TL.op (yq (y_move (ev_t rfl))) rfl rfl rfl ?_
      refine TL.op (yq (y_move (ev_t rfl))) rfl rfl rfl ?_
      refine TL.copyW 0 (qs := x) (ev_t rfl) (ev_t rfl) rfl slT_25 (ri_arg hx) rfl ?_
      refine TL.op (yq (y_assign (ev_t rfl))) rfl rfl rfl ?_
      refine TL.nil ?_
      refine TN.seq ?_
      refine TC.seq ?_
      refine TC.block ?_
      have hd0 : (x.take (List.replicate (((mulU (x.length : Int) count).2).toNat) (0 : Int)).length ++ (List.replicate (((mulU (x.length : Int) count).2).toNat) (0 : Int)).drop (min x.length (List.replicate (((mulU (x.length : Int) count).2).toNat) (0 : Int)).length)).length = count.toNat := by simp; omega
      have hd3 : (List.replicate (((mulU (x.length : Int) count).2).toNat) (0 : Int)).length = count.toNat := by simp; omega
      obtain ⟨c65, hc66⟩ : ∃ c, F_slices_Repeat_Sint_int_L1  (((x.take (List.replicate (((mulU (x.length : Int) count).2).toNat) (0 : Int)).length ++ (List.replicate (((mulU (x.length : Int) count).2).toNat) (0 : Int)).drop (min x.length (List.replicate (((mulU (x.length : Int) count).2).toNat) (0 : Int)).length)).length - (min x.length (List.replicate (((mulU (x.length : Int) count).2).toNat) (0 : Int)).length)) + 1) ((min x.length (List.replicate (((mulU (x.length : Int) count).2).toNat) (0 : Int)).length), (x.take (List.replicate (((mulU (x.length : Int) count).2).toNat) (0 : Int)).length ++ (List.replicate (((mulU (x.length : Int) count).2).toNat) (0 : Int)).drop (min x.length (List.replicate (((mulU (x.length : Int) count).2).toNat) (0 : Int)).length))) = c := ⟨_, rfl⟩
      rw [hc66] at hF
      refine TC.loop (ι := Nat × Nat × List Int) (fun (fu1, n1, newslice1) => [(7, v6_2), (8, (.int .i64 (n1 : Int)))]) (fun (fu1, n1, newslice1) => Hp w [rowI 3 v6_2 newslice1]) (fun (fu1, n1, newslice1) => (n1 ≤ newslice1.length) ∧ (0 < n1 ∨ newslice1.length = 0) ∧ (newslice1.length ≤ 1000000) ∧ newslice1.length - n1 < fu1 ∧ F_slices_Repeat_Sint_int_L1  fu1 (n1, newslice1) = c65) (fun (fu1, n1, newslice1) => fu1) (((x.take (List.replicate (((mulU (x.length : Int) count).2).toNat) (0 : Int)).length ++ (List.replicate (((mulU (x.length : Int) count).2).toNat) (0 : Int)).drop (min x.length (List.replicate (((mulU (x.length : Int) count).2).toNat) (0 : Int)).length)).length - (min x.length (List.replicate (((mulU (x.length : Int) count).2).toNat) (0 : Int)).length)) + 1, (min x.length (List.replicate (((mulU (x.length : Int) count).2).toNat) (0 : Int)).length), (x.take (List.replicate (((mulU (x.length : Int) count).2).toNat) (0 : Int)).length ++ (List.replicate (((mulU (x.length : Int) count).2).toNat) (0 : Int)).drop (min x.length (List.replicate (((mulU (x.length : Int) count).2).toNat) (0 : Int)).length))) ⟨(by first | omega | (simp [-List.getD_eq_getElem?_getD] <;> omega)), (by first | omega | (simp [-List.getD_eq_getElem?_getD] <;> omega)), (by first | omega | (simp [-List.getD_eq_getElem?_getD] <;> omega)), (by omega), hc66⟩ ⟨rfl, rfl, trivial⟩ (fun w hw => hw) ?_
      rintro ⟨fu1, n1, newslice1⟩ hJ1
      obtain ⟨hi1_0, hi1_1, hi1_2, hmu1, hL1⟩ : (n1 ≤ newslice1.length) ∧ (0 < n1 ∨ newslice1.length = 0) ∧ (newslice1.length ≤ 1000000) ∧ newslice1.length - n1 < fu1 ∧ F_slices_Repeat_Sint_int_L1  fu1 (n1, newslice1) = c65 := hJ1
      change TC _ _ _ _ (Hp w [rowI 3 v6_2 newslice1]) [(7, v6_2), (8, (.int .i64 (n1 : Int)))]
      obtain ⟨mf1, rfl⟩ : ∃ m, fu1 = m + 1 := ⟨fu1 - 1, by omega⟩
      rw [F_slices_Repeat_Sint_int_L1_s] at hL1
      have hd1 : ((newslice1.take n1).drop 0).length = n1 := by simp; omega
      have hd2 : (newslice1.take n1 ++ ((newslice1.take n1).drop 0).take (newslice1.length - n1) ++ newslice1.drop (n1 + (min ((newslice1.take n1).drop 0).length (newslice1.length - n1)))).length = newslice1.length := by simp; omega
      refine TC.seq ?_
      refine TC.seq ?_
      refine TC.region ?_
      refine TL.op (yq (y_move (ev_t rfl))) rfl rfl rfl ?_
      refine TL.op (yq (y_move (ev_t rfl))) rfl rfl rfl ?_
      refine TL.op (yq (y_len (ev_t rfl) Try.underlying25 (fun w hw => ((ri_row 0 rfl) w hw).ln))) rfl rfl rfl ?_
      refine TL.op (yq (y_lss (ev_t rfl) (ev_t rfl))) rfl rfl rfl ?_
      refine TL.nil ?_
      refine TN.seq ?_
      refine TC.cond (b := decide ((n1 : Int) < (newslice1.length : Int))) (ev_t rfl) (fun h67 => ?_) (fun h67 => ?_)
      · rw [bif_pos h67] at hL1
        have q68 := (of_decide_eq_true h67)
        refine TC.skip ?_
        refine TN.seq ?_
        refine TC.block ?_
        refine TC.mid (fun a' w' => Slots 48 [(7, v6_2), (8, (.int .i64 ((n1 : Int) + ((min ((newslice1.take n1).drop 0).length (newslice1.length - n1)) : Nat))))] a' ∧ Hp w [rowI 3 v6_2 (newslice1.take n1 ++ ((newslice1.take n1).drop 0).take (newslice1.length - n1) ++ newslice1.drop (n1 + (min ((newslice1.take n1).drop 0).length (newslice1.length - n1))))] w') ?_ ?_
        · refine TC.regionH 10 (Hp w []) rfl (by kernel_rfl) dr_hp (fun w hw => Hp.sublist hw (List.nil_sublist _)) ?_
          refine TH.take 0 rfl (by kernel_rfl) (y_move (ev_t rfl)) rfl rfl rfl ?_
          refine TH.take 1 rfl (by kernel_rfl) (y_move (ev_t rfl)) rfl rfl rfl ?_
          refine TH.take 2 rfl (by kernel_rfl) (y_move (ev_t rfl)) rfl rfl rfl ?_
          refine TH.take 4 rfl (by kernel_rfl) (y_move (ev_t rfl)) rfl rfl rfl ?_
          refine TH.take 5 rfl (by kernel_rfl) (y_move (ev_t rfl)) rfl rfl rfl ?_
          refine TH.loud2 3 6 rfl rfl (by kernel_rfl) ?_ ?_
          · have hs73 : n1 ≤ newslice1.length := (by first | omega | (simp only [List.length_set, List.length_append, List.length_cons, List.length_nil, List.length_replicate]; omega) | (rw [sortI_length]; simp only [List.length_cons, List.length_nil]; omega) | (simp only [ByteArray.size_append]; omega))
            have hs74 : newslice1.length ≤ newslice1.length := (by first | omega | (simp only [List.length_set, List.length_append, List.length_cons, List.length_nil, List.length_replicate]; omega) | (rw [sortI_length]; simp only [List.length_cons, List.length_nil]; omega) | (simp only [ByteArray.size_append]; omega))
            refine TL.op (yq (y_slice_lo (ev_t rfl) (ev_t rfl) (lo := n1) (by omega) slT_25 (ri_row 0 rfl) hs73)) rfl rfl rfl ?_
            refine TL.nil ?_
            refine TH.back (fun w hw => Hp.sublist hw (List.nil_sublist _)) ?_
            refine TH.loud 6 rfl (by kernel_rfl) ?_
            have hs75 : 0 ≤ n1 := (by first | omega | (simp only [List.length_set, List.length_append, List.length_cons, List.length_nil, List.length_replicate]; omega) | (rw [sortI_length]; simp only [List.length_cons, List.length_nil]; omega) | (simp only [ByteArray.size_append]; omega))
            have hs76 : n1 ≤ newslice1.length := (by first | omega | (simp only [List.length_set, List.length_append, List.length_cons, List.length_nil, List.length_replicate]; omega) | (rw [sortI_length]; simp only [List.length_cons, List.length_nil]; omega) | (simp only [ByteArray.size_append]; omega))
            refine TL.op (yq (y_slice_hi (ev_t rfl) (ev_t rfl) (hi := n1) (by omega) slT_25 (ri_row 0 rfl) hs76)) rfl rfl rfl ?_
            refine TL.nil ?_
            refine TH.back (fun w hw => Hp.sublist hw (List.nil_sublist _)) ?_
            refine TH.loud 7 rfl (by kernel_rfl) ?_
            refine TL.copyI 0 (lo := n1) (hi := newslice1.length) (qs := ((newslice1.take n1).drop 0)) (ev_t rfl) (ev_t rfl) rfl slT_25 (fun w hw => ri_resl ((ri_row 0 rfl) w hw) hs75 hs76) hs73 hs74 rfl ?_
            refine TL.nil ?_
            refine TH.back (fun w hw => Hp.sublist hw (List.nil_sublist _)) ?_
            refine TH.take 8 rfl (by kernel_rfl) (y_add (ev_t rfl) (ev_t rfl) (by unfold In64; constructor <;> omega)) rfl rfl rfl ?_
            refine TH.take 9 rfl (by kernel_rfl) (y_assign (ev_t rfl)) rfl rfl rfl ?_
            refine TH.done (by kernel_rfl) ?_
            exact fun a' w' hs hw => ⟨hs.sub ⟨rfl, rfl, trivial⟩, hw⟩
          · have hs77 : 0 ≤ n1 := (by first | omega | (simp only [List.length_set, List.length_append, List.length_cons, List.length_nil, List.length_replicate]; omega) | (rw [sortI_length]; simp only [List.length_cons, List.length_nil]; omega) | (simp only [ByteArray.size_append]; omega))
            have hs78 : n1 ≤ newslice1.length := (by first | omega | (simp only [List.length_set, List.length_append, List.length_cons, List.length_nil, List.length_replicate]; omega) | (rw [sortI_length]; simp only [List.length_cons, List.length_nil]; omega) | (simp only [ByteArray.size_append]; omega))
            refine TL.op (yq (y_slice_hi (ev_t rfl) (ev_t rfl) (hi := n1) (by omega) slT_25 (ri_row 0 rfl) hs78)) rfl rfl rfl ?_
            refine TL.nil ?_
            refine TH.back (fun w hw => Hp.sublist hw (List.nil_sublist _)) ?_
            refine TH.loud 3 rfl (by kernel_rfl) ?_
            have hs79 : n1 ≤ newslice1.length := (by first | omega | (simp only [List.length_set, List.length_append, List.length_cons, List.length_nil, List.length_replicate]; omega) | (rw [sortI_length]; simp only [List.length_cons, List.length_nil]; omega) | (simp only [ByteArray.size_append]; omega))
            have hs80 : newslice1.length ≤ newslice1.length := (by first | omega | (simp only [List.length_set, List.length_append, List.length_cons, List.length_nil, List.length_replicate]; omega) | (rw [sortI_length]; simp only [List.length_cons, List.length_nil]; omega) | (simp only [ByteArray.size_append]; omega))
            refine TL.op (yq (y_slice_lo (ev_t rfl) (ev_t rfl) (lo := n1) (by omega) slT_25 (ri_row 0 rfl) hs79)) rfl rfl rfl ?_
            refine TL.nil ?_
            refine TH.back (fun w hw => Hp.sublist hw (List.nil_sublist _)) ?_
            refine TH.loud 7 rfl (by kernel_rfl) ?_
            refine TL.copyI 0 (lo := n1) (hi := newslice1.length) (qs := ((newslice1.take n1).drop 0)) (ev_t rfl) (ev_t rfl) rfl slT_25 (fun w hw => ri_resl ((ri_row 0 rfl) w hw) hs77 hs78) hs79 hs80 rfl ?_
            refine TL.nil ?_
            refine TH.back (fun w hw => Hp.sublist hw (List.nil_sublist _)) ?_
            refine TH.take 8 rfl (by kernel_rfl) (y_add (ev_t rfl) (ev_t rfl) (by unfold In64; constructor <;> omega)) rfl rfl rfl ?_
            refine TH.take 9 rfl (by kernel_rfl) (y_assign (ev_t rfl)) rfl rfl rfl ?_
            refine TH.done (by kernel_rfl) ?_
            exact fun a' w' hs hw => ⟨hs.sub ⟨rfl, rfl, trivial⟩, hw⟩
        · rintro a' w' ⟨hs', hw'⟩
          refine (?_ : TN _ .normal 48 (Hp w [rowI 3 v6_2 (newslice1.take n1 ++ ((newslice1.take n1).drop 0).take (newslice1.length - n1) ++ newslice1.drop (n1 + (min ((newslice1.take n1).drop 0).length (newslice1.length - n1))))]) [(7, v6_2), (8, (.int .i64 ((n1 : Int) + ((min ((newslice1.take n1).drop 0).length (newslice1.length - n1)) : Nat))))]) a' w' hs' hw'
          clear hs' hw'
          refine TN.blockN ?_
          exact TN.hand (mf1, (n1 + (min ((newslice1.take n1).drop 0).length (newslice1.length - n1))), (newslice1.take n1 ++ ((newslice1.take n1).drop 0).take (newslice1.length - n1) ++ newslice1.drop (n1 + (min ((newslice1.take n1).drop 0).length (newslice1.length - n1))))) ⟨(by first | omega | (simp [-List.getD_eq_getElem?_getD] <;> omega)), (by first | omega | (simp [-List.getD_eq_getElem?_getD] <;> omega)), (by first | omega | (simp [-List.getD_eq_getElem?_getD] <;> omega)), (by omega), hL1⟩ (Nat.lt_succ_self _) ⟨rfl, rfl, trivial⟩ (fun w hw => hw)
      · rw [bif_neg h67] at hL1
        have q68 := (of_decide_eq_false h67)
        refine TC.exit ?_
        refine TN.thenE ?_
        refine TN.thenE ?_
        rw [← hL1, elim_next] at hF
        try dsimp only at hF
        refine TN.blockH ?_
        refine TN.seq ?_
        refine TC.seq ?_
        refine TC.region ?_
        refine TL.op (yq (y_move (ev_t rfl))) rfl rfl rfl ?_
        refine TL.op (yq (y_assign (ev_t rfl))) rfl rfl rfl ?_
        refine TL.nil ?_
        refine TN.seq ?_
        refine TC.ret ?_
        subst hF
        exact TN.ret1 rfl (ev_t rfl) (fun w' hw => ⟨v6_2, rfl, hw⟩)

set_option maxRecDepth 4000 in
set_option maxHeartbeats 1000000 in
theorem slices_Concat_Sint_int_ok (w : World) (vs : Value) (us : List Value) (s : List (List Int)) (hs : RII w vs us s) (hp0 : total s ≤ 1000000) :
    Calls Try.prog 48 ([vs] : List Value).toArray w (fun e w' => ∃ i : Value, e = .returned i ∧ Hp w [rowI 3 i (F_slices_Concat_Sint_int s)] w') := by
  obtain ⟨rz, hF⟩ : ∃ rz, (F_slices_Concat_Sint_int s) = rz := ⟨_, rfl⟩
  rw [hF]
  unfold F_slices_Concat_Sint_int at hF
  have htot := totalFrom_zero s
  have hlen_s := argT_len hs
  refine calls_tc Try.func48 rfl rfl rfl ?_
  change TC _ _ _ _ (Hp w []) [(0, vs)]
  refine TC.seq ?_
  refine TC.region ?_
  refine TL.op (yq (y_assign ev_c)) rfl rfl rfl ?_
  refine TL.nil ?_
  refine TN.seq ?_
  refine TC.seq ?_
  refine TC.region ?_
  refine TL.op (yq (y_assign ev_c)) rfl rfl rfl ?_
  refine TL.nil ?_
  refine TN.seq ?_
  refine TC.seq ?_
  refine TC.seq ?_
  refine TC.region ?_
  refine TL.op (yq (y_move (ev_t rfl))) rfl rfl rfl ?_
  refine TL.op (yq (y_len (ev_t rfl) Try.underlying22 (fun w hw => ((fun w hw => ((rii_arg hs) w hw).1) w hw).ln))) rfl rfl rfl ?_
  refine TL.op (yq (y_move ev_c)) rfl rfl rfl ?_
  refine TL.nil ?_
  refine TN.seq ?_
  refine TC.block ?_
  obtain ⟨c21, hc22⟩ : ∃ c, F_slices_Concat_Sint_int_L1 s ((s.length - 0) + 1) (0, 0) = c := ⟨_, rfl⟩
  rw [hc22] at hF
  refine TC.loop (ι := Nat × Nat × Nat) (fun (fu1, size1, k11_1) => [(0, vs), (3, (.int .i64 (size1 : Int))), (9, vs), (10, (.int .i64 (s.length : Int))), (11, (.int .i64 (k11_1 : Int)))]) (fun (fu1, size1, k11_1) => Hp w []) (fun (fu1, size1, k11_1) => (k11_1 ≤ s.length) ∧ (size1 + totalFrom s k11_1 ≤ 1000000) ∧ s.length - k11_1 < fu1 ∧ F_slices_Concat_Sint_int_L1 s fu1 (size1, k11_1) = c21) (fun (fu1, size1, k11_1) => fu1) ((s.length - 0) + 1, 0, 0) ⟨(by first | omega | (simp [-List.getD_eq_getElem?_getD] <;> omega)), (by first | omega | (simp [-List.getD_eq_getElem?_getD] <;> omega)), (by omega), hc22⟩ ⟨rfl, rfl, rfl, rfl, rfl, trivial⟩ (fun w hw => hw) ?_
  rintro ⟨fu1, size1, k11_1⟩ hJ1
  obtain ⟨hi1_0, hi1_1, hmu1, hL1⟩ : (k11_1 ≤ s.length) ∧ (size1 + totalFrom s k11_1 ≤ 1000000) ∧ s.length - k11_1 < fu1 ∧ F_slices_Concat_Sint_int_L1 s fu1 (size1, k11_1) = c21 := hJ1
  change TC _ _ _ _ (Hp w []) [(0, vs), (3, (.int .i64 (size1 : Int))), (9, vs), (10, (.int .i64 (s.length : Int))), (11, (.int .i64 (k11_1 : Int)))]
  obtain ⟨mf1, rfl⟩ : ∃ m, fu1 = m + 1 := ⟨fu1 - 1, by omega⟩
  rw [F_slices_Concat_Sint_int_L1_s] at hL1
  have hst := totalFrom_step s k11_1
  refine TC.seq ?_
  refine TC.region ?_
  refine TL.op (yq (y_lss (ev_t rfl) (ev_t rfl))) rfl rfl rfl ?_
  refine TL.nil ?_
  refine TN.seq ?_
  refine TC.seq ?_
  refine TC.cond (b := decide ((k11_1 : Int) < (s.length : Int))) (ev_t rfl) (fun h23 => ?_) (fun h23 => ?_)
  · rw [bif_pos h23] at hL1
    have q24 := (of_decide_eq_true h23)
    refine TC.skip ?_
    refine TN.seq ?_
    refine TC.seq ?_
    refine TC.block ?_
    refine TC.seq ?_
    refine TC.region ?_
    have hb25 : k11_1 < s.length := (by first | omega | (simp only [List.length_set, List.length_append, List.length_cons, List.length_nil, List.length_replicate]; omega) | (rw [sortI_length]; simp only [List.length_cons, List.length_nil]; omega) | (simp only [ByteArray.size_append]; omega))
    refine TL.op (yq (y_idx (k := k11_1) (ev_t rfl) (ev_t rfl) (by first | omega | simp) slT_22 (fun w hw => ((rii_arg hs) w hw).1) hb25)) rfl rfl rfl ?_
    have ha26 := hs.row (i := k11_1) hb25
    refine TL.op (yq (y_ldA (ev_t rfl) one_25 (rii_arg hs) hb25)) rfl rfl rfl ?_
    refine TL.op (yq (y_assign (ev_t rfl))) rfl rfl rfl ?_
    refine TL.nil ?_
    refine TN.seq ?_
    refine TC.seq ?_
    refine TC.region ?_
    refine TL.op (yq (y_move (ev_t rfl))) rfl rfl rfl ?_
    refine TL.op (yq (y_move (ev_t rfl))) rfl rfl rfl ?_
    refine TL.op (yq (y_len (ev_t rfl) Try.underlying25 (fun w hw => ((ri_arg ha26) w hw).ln))) rfl rfl rfl ?_
    refine TL.op (yq (y_add (ev_t rfl) (ev_t rfl) (by unfold In64; constructor <;> omega))) rfl rfl rfl ?_
    refine TL.op (yq (y_assign (ev_t rfl))) rfl rfl rfl ?_
    refine TL.nil ?_
    refine TN.seq ?_
    refine TC.seq ?_
    refine TC.region ?_
    refine TL.op (yq (y_move (ev_t rfl))) rfl rfl rfl ?_
    refine TL.op (yq (y_lss (ev_t rfl) ev_c)) rfl rfl rfl ?_
    refine TL.nil ?_
    refine TN.seq ?_
    refine TC.cond (b := decide ((size1 : Int) + ((s.getD k11_1 []).length : Int) < 0)) (ev_t rfl) (fun h27 => ?_) (fun h27 => ?_)
    · rw [bif_pos h27] at hL1
      have q28 := (of_decide_eq_true h27)
      exfalso; omega
    · rw [bif_neg h27] at hL1
      have q28 := (of_decide_eq_false h27)
      refine TC.skip ?_
      refine TN.blockN ?_
      refine TN.seq ?_
      refine TC.region ?_
      refine TL.op (yq (y_add (ev_t rfl) ev_c (by unfold In64; constructor <;> omega))) rfl rfl rfl ?_
      refine TL.op (yq (y_move (ev_t rfl))) rfl rfl rfl ?_
      refine TL.nil ?_
      exact TN.hand (mf1, (size1 + (s.getD k11_1 []).length), (k11_1 + 1)) ⟨(by first | omega | (simp [-List.getD_eq_getElem?_getD] <;> omega)), (by first | omega | (simp [-List.getD_eq_getElem?_getD] <;> omega)), (by omega), hL1⟩ (Nat.lt_succ_self _) ⟨rfl, rfl, rfl, rfl, rfl, trivial⟩ (fun w hw => hw)
  · rw [bif_neg h23] at hL1
    have q24 := (of_decide_eq_false h23)
    refine TC.exit ?_
    refine TN.thenE ?_
    refine TN.thenE ?_
    rw [← hL1, elim_next] at hF
    try dsimp only at hF
    refine TN.blockH ?_
    refine TN.seq ?_
    refine TC.seq ?_
    refine TC.region ?_
    refine TL.op (yq (y_move (ev_t rfl))) rfl rfl rfl ?_
    refine TL.callr (ι := Value) (vs := [(.slice none 0 0), (.int .i64 (size1 : Int))]) (fun i => i) (fun i => [rowI 3 i ([] : List Int)]) en_66 ⟨ev_c, (ev_t rfl), trivial⟩ rfl (fun w hw => slices_Grow_ok w (size1 : Int) (by first | assumption | omega | grind) (by first | assumption | omega | grind)) (fun r9_1 => ?_)
    refine TL.op (yq (y_assign (ev_t rfl))) rfl rfl rfl ?_
    refine TL.nil ?_
    refine TN.seq ?_
    refine TC.seq ?_
    refine TC.seq ?_
    refine TC.region ?_
    refine TL.op (yq (y_move (ev_t rfl))) rfl rfl rfl ?_
    refine TL.op (yq (y_len (ev_t rfl) Try.underlying22 (fun w hw => ((fun w hw => ((rii_arg hs) w hw).1) w hw).ln))) rfl rfl rfl ?_
    refine TL.op (yq (y_move ev_c)) rfl rfl rfl ?_
    refine TL.nil ?_
    refine TN.seq ?_
    refine TC.block ?_
    obtain ⟨c29, hc30⟩ : ∃ c, F_slices_Concat_Sint_int_L2 s ((s.length - 0) + 1) (([] : List Int), 0) = c := ⟨_, rfl⟩
    rw [hc30] at hF
    refine TC.loop (ι := Nat × List Int × Nat × Value) (fun (fu2, newslice2, k27_2, vnewslice2) => [(6, vnewslice2), (25, vs), (26, (.int .i64 (s.length : Int))), (27, (.int .i64 (k27_2 : Int)))]) (fun (fu2, newslice2, k27_2, vnewslice2) => Hp w [rowI 3 vnewslice2 newslice2]) (fun (fu2, newslice2, k27_2, vnewslice2) => (k27_2 ≤ s.length) ∧ (newslice2.length + totalFrom s k27_2 ≤ 1000000) ∧ s.length - k27_2 < fu2 ∧ F_slices_Concat_Sint_int_L2 s fu2 (newslice2, k27_2) = c29) (fun (fu2, newslice2, k27_2, vnewslice2) => fu2) ((s.length - 0) + 1, ([] : List Int), 0, r9_1) ⟨(by first | omega | (simp [-List.getD_eq_getElem?_getD] <;> omega)), (by first | omega | (simp [-List.getD_eq_getElem?_getD] <;> omega)), (by omega), hc30⟩ ⟨rfl, rfl, rfl, rfl, trivial⟩ (fun w hw => hw) ?_
    rintro ⟨fu2, newslice2, k27_2, vnewslice2⟩ hJ2
    obtain ⟨hi2_0, hi2_1, hmu2, hL2⟩ : (k27_2 ≤ s.length) ∧ (newslice2.length + totalFrom s k27_2 ≤ 1000000) ∧ s.length - k27_2 < fu2 ∧ F_slices_Concat_Sint_int_L2 s fu2 (newslice2, k27_2) = c29 := hJ2
    change TC _ _ _ _ (Hp w [rowI 3 vnewslice2 newslice2]) [(6, vnewslice2), (25, vs), (26, (.int .i64 (s.length : Int))), (27, (.int .i64 (k27_2 : Int)))]
    obtain ⟨mf2, rfl⟩ : ∃ m, fu2 = m + 1 := ⟨fu2 - 1, by omega⟩
    rw [F_slices_Concat_Sint_int_L2_s] at hL2
    have hst := totalFrom_step s k27_2
    refine TC.seq ?_
    refine TC.region ?_
    refine TL.op (yq (y_lss (ev_t rfl) (ev_t rfl))) rfl rfl rfl ?_
    refine TL.nil ?_
    refine TN.seq ?_
    refine TC.seq ?_
    refine TC.cond (b := decide ((k27_2 : Int) < (s.length : Int))) (ev_t rfl) (fun h31 => ?_) (fun h31 => ?_)
    · rw [bif_pos h31] at hL2
      have q32 := (of_decide_eq_true h31)
      refine TC.skip ?_
      refine TN.seq ?_
      refine TC.seq ?_
      refine TC.block ?_
      refine TC.seq ?_
      refine TC.region ?_
      have hb33 : k27_2 < s.length := (by first | omega | (simp only [List.length_set, List.length_append, List.length_cons, List.length_nil, List.length_replicate]; omega) | (rw [sortI_length]; simp only [List.length_cons, List.length_nil]; omega) | (simp only [ByteArray.size_append]; omega))
      refine TL.op (yq (y_idx (k := k27_2) (ev_t rfl) (ev_t rfl) (by first | omega | simp) slT_22 (fun w hw => ((rii_arg hs) w hw).1) hb33)) rfl rfl rfl ?_
      have ha34 := hs.row (i := k27_2) hb33
      refine TL.op (yq (y_ldA (ev_t rfl) one_25 (rii_arg hs) hb33)) rfl rfl rfl ?_
      refine TL.op (yq (y_assign (ev_t rfl))) rfl rfl rfl ?_
      refine TL.nil ?_
      refine TN.seq ?_
      refine TC.region ?_
      refine TL.op (yq (y_move (ev_t rfl))) rfl rfl rfl ?_
      refine TL.op (yq (y_move (ev_t rfl))) rfl rfl rfl ?_
      refine TL.appendI 0 (ev_t rfl) (ev_t rfl) rfl slT_25 (ri_arg ha34) (by first | omega | (simp [-List.getD_eq_getElem?_getD] <;> omega)) rfl (fun v13_2 => ?_)
      refine TL.op (yq (y_assign (ev_t rfl))) rfl rfl rfl ?_
      refine TL.nil ?_
      refine TN.blockN ?_
      refine TN.seq ?_
      refine TC.region ?_
      refine TL.op (yq (y_add (ev_t rfl) ev_c (by unfold In64; constructor <;> omega))) rfl rfl rfl ?_
      refine TL.op (yq (y_move (ev_t rfl))) rfl rfl rfl ?_
      refine TL.nil ?_
      exact TN.hand (mf2, (newslice2 ++ (s.getD k27_2 [])), (k27_2 + 1), v13_2) ⟨(by first | omega | (simp [-List.getD_eq_getElem?_getD] <;> omega)), (by first | omega | (simp [-List.getD_eq_getElem?_getD] <;> omega)), (by omega), hL2⟩ (Nat.lt_succ_self _) ⟨rfl, rfl, rfl, rfl, trivial⟩ (fun w hw => hw)
    · rw [bif_neg h31] at hL2
      have q32 := (of_decide_eq_false h31)
      refine TC.exit ?_
      refine TN.thenE ?_
      refine TN.thenE ?_
      rw [← hL2, elim_next] at hF
      try dsimp only at hF
      refine TN.blockH ?_
      refine TN.seq ?_
      refine TC.seq ?_
      refine TC.region ?_
      refine TL.op (yq (y_move (ev_t rfl))) rfl rfl rfl ?_
      refine TL.op (yq (y_assign (ev_t rfl))) rfl rfl rfl ?_
      refine TL.nil ?_
      refine TN.seq ?_
      refine TC.ret ?_
      subst hF
      exact TN.ret1 rfl (ev_t rfl) (fun w' hw => ⟨vnewslice2, rfl, hw⟩)

end Go.Proofs.Ytgnikdpgndmldaa
namespace Go.Proofs.Ytgnikdpgndmldaa
set_option linter.unusedVariables false
set_option linter.unusedSimpArgs false
open Go Go.RowKit
set_option linter.unusedVariables false

set_option maxRecDepth 4000 in
set_option maxHeartbeats 1000000 in
theorem spec_l1In_ok (w : World) (x : Int) (a : Int) (b : Int)  :
    Calls Try.prog 55 ([(.int .i64 x), (.int .i64 a), (.int .i64 b)] : List Value).toArray w (Ret (.bool (F_spec_l1In x a b)) (Hp w [])) := by
  obtain ⟨rz, hF⟩ : ∃ rz, (F_spec_l1In x a b) = rz := ⟨_, rfl⟩
  rw [hF]
  unfold F_spec_l1In at hF
  refine calls_tc Try.func55 rfl rfl rfl ?_
  change TC _ _ _ _ (Hp w []) [(0, (.int .i64 x)), (1, (.int .i64 a)), (2, (.int .i64 b))]
  refine TC.seq ?_
  refine TC.region ?_
  refine TL.op (yq (y_assign ev_c)) rfl rfl rfl ?_
  refine TL.nil ?_
  refine TN.seq ?_
  refine TC.seq ?_
  refine TC.region ?_
  refine TL.op (yq (y_move (ev_t rfl))) rfl rfl rfl ?_
  refine TL.op (yq (y_move (ev_t rfl))) rfl rfl rfl ?_
  refine TL.op (yq (y_geq (ev_t rfl) (ev_t rfl))) rfl rfl rfl ?_
  refine TL.op (yq (y_move (ev_t rfl))) rfl rfl rfl ?_
  refine TL.opw (w_t rfl rfl rfl) (fun hg => yq (y_move (ev_t rfl))) rfl rfl ?_
  refine TL.opw (w_t rfl rfl rfl) (fun hg => yq (y_move (ev_t rfl))) rfl rfl ?_
  refine TL.opw (w_t rfl rfl rfl) (fun hg => yq (y_leq (ev_g rfl hg) (ev_g rfl hg))) rfl rfl ?_
  refine TL.op (yq (y_and (ev_t rfl) (fun hq => (ev_g rfl hq)))) rfl rfl rfl ?_
  refine TL.op (yq (y_assign (ev_t rfl))) rfl rfl rfl ?_
  refine TL.nil ?_
  refine TN.seq ?_
  refine TC.ret ?_
  subst hF
  exact TN.ret1 rfl (ev_t rfl) (fun w' hw => ⟨rfl, hw⟩)

set_option maxRecDepth 4000 in
set_option maxHeartbeats 1000000 in
theorem impl_within_ok (w : World) (n : Int) (lo : Int) (hi : Int)  :
    Calls Try.prog 62 ([(.int .i64 n), (.int .i64 lo), (.int .i64 hi)] : List Value).toArray w (Ret (.bool (F_impl_within n lo hi)) (Hp w [])) := by
  obtain ⟨rz, hF⟩ : ∃ rz, (F_impl_within n lo hi) = rz := ⟨_, rfl⟩
  rw [hF]
  unfold F_impl_within at hF
  refine calls_tc Try.func62 rfl rfl rfl ?_
  change TC _ _ _ _ (Hp w []) [(0, (.int .i64 n)), (1, (.int .i64 lo)), (2, (.int .i64 hi))]
  refine TC.seq ?_
  refine TC.region ?_
  refine TL.op (yq (y_assign ev_c)) rfl rfl rfl ?_
  refine TL.nil ?_
  refine TN.seq ?_
  refine TC.seq ?_
  refine TC.region ?_
  refine TL.op (yq (y_move (ev_t rfl))) rfl rfl rfl ?_
  refine TL.op (yq (y_move (ev_t rfl))) rfl rfl rfl ?_
  refine TL.op (yq (y_geq (ev_t rfl) (ev_t rfl))) rfl rfl rfl ?_
  refine TL.op (yq (y_move (ev_t rfl))) rfl rfl rfl ?_
  refine TL.opw (w_t rfl rfl rfl) (fun hg => yq (y_move (ev_t rfl))) rfl rfl ?_
  refine TL.opw (w_t rfl rfl rfl) (fun hg => yq (y_move (ev_t rfl))) rfl rfl ?_
  refine TL.opw (w_t rfl rfl rfl) (fun hg => yq (y_leq (ev_g rfl hg) (ev_g rfl hg))) rfl rfl ?_
  refine TL.op (yq (y_and (ev_t rfl) (fun hq => (ev_g rfl hq)))) rfl rfl rfl ?_
  refine TL.op (yq (y_assign (ev_t rfl))) rfl rfl rfl ?_
  refine TL.nil ?_
  refine TN.seq ?_
  refine TC.ret ?_
  subst hF
  exact TN.ret1 rfl (ev_t rfl) (fun w' hw => ⟨rfl, hw⟩)

set_option maxRecDepth 4000 in
set_option maxHeartbeats 1000000 in
theorem spec_l6Ascending_ok (w : World) (vlist : Value) (list : List Int) (hlist : RI w vlist list)  :
    Calls Try.prog 56 ([vlist] : List Value).toArray w (Ret (.bool (F_spec_l6Ascending list)) (Hp w [])) := by
  obtain ⟨rz, hF⟩ : ∃ rz, (F_spec_l6Ascending list) = rz := ⟨_, rfl⟩
  rw [hF]
  unfold F_spec_l6Ascending at hF
  have hlen_list := arg_len hlist
  refine calls_tc Try.func56 rfl rfl rfl ?_
  change TC _ _ _ _ (Hp w []) [(0, vlist)]
  refine TC.seq ?_
  refine TC.region ?_
  refine TL.op (yq (y_assign ev_c)) rfl rfl rfl ?_
  refine TL.nil ?_
  refine TN.seq ?_
  refine TC.seq ?_
  refine TC.seq ?_
  refine TC.region ?_
  refine TL.op (yq (y_assign ev_c)) rfl rfl rfl ?_
  refine TL.nil ?_
  refine TN.seq ?_
  refine TC.block ?_
  obtain ⟨c13, hc14⟩ : ∃ c, F_spec_l6Ascending_L1 list ((list.length - 1) + 1) 1 = c := ⟨_, rfl⟩
  rw [hc14] at hF
  refine TC.loop (ι := Nat × Nat) (fun (fu1, i1) => [(0, vlist), (3, (.int .i64 (i1 : Int)))]) (fun (fu1, i1) => Hp w []) (fun (fu1, i1) => (i1 ≤ max list.length 1) ∧ (1 ≤ i1) ∧ list.length - i1 < fu1 ∧ F_spec_l6Ascending_L1 list fu1 i1 = c13) (fun (fu1, i1) => fu1) ((list.length - 1) + 1, 1) ⟨(by first | omega | (simp [-List.getD_eq_getElem?_getD] <;> omega)), (by first | omega | (simp [-List.getD_eq_getElem?_getD] <;> omega)), (by omega), hc14⟩ ⟨rfl, rfl, trivial⟩ (fun w hw => hw) ?_
  rintro ⟨fu1, i1⟩ hJ1
  obtain ⟨hi1_0, hi1_1, hmu1, hL1⟩ : (i1 ≤ max list.length 1) ∧ (1 ≤ i1) ∧ list.length - i1 < fu1 ∧ F_spec_l6Ascending_L1 list fu1 i1 = c13 := hJ1
  change TC _ _ _ _ (Hp w []) [(0, vlist), (3, (.int .i64 (i1 : Int)))]
  obtain ⟨mf1, rfl⟩ : ∃ m, fu1 = m + 1 := ⟨fu1 - 1, by omega⟩
  rw [F_spec_l6Ascending_L1_s] at hL1
  refine TC.seq ?_
  refine TC.seq ?_
  refine TC.region ?_
  refine TL.op (yq (y_move (ev_t rfl))) rfl rfl rfl ?_
  refine TL.op (yq (y_move (ev_t rfl))) rfl rfl rfl ?_
  refine TL.op (yq (y_len (ev_t rfl) Try.underlying25 (fun w hw => ((ri_arg hlist) w hw).ln))) rfl rfl rfl ?_
  refine TL.op (yq (y_lss (ev_t rfl) (ev_t rfl))) rfl rfl rfl ?_
  refine TL.nil ?_
  refine TN.seq ?_
  refine TC.cond (b := decide ((i1 : Int) < (list.length : Int))) (ev_t rfl) (fun h15 => ?_) (fun h15 => ?_)
  · rw [bif_pos h15] at hL1
    have q16 := (of_decide_eq_true h15)
    refine TC.skip ?_
    refine TN.seq ?_
    refine TC.seq ?_
    refine TC.block ?_
    refine TC.seq ?_
    refine TC.regionQ (by kernel_rfl) (by kernel_rfl) dr_hp ?_
    refine TQ.op (yq (y_move (ev_t rfl))) rfl rfl rfl ?_
    refine TQ.op (yq (y_move (ev_t rfl))) rfl rfl rfl ?_
    refine TQ.op (yq (y_sub (ev_t rfl) ev_c (by unfold In64; constructor <;> omega))) rfl rfl rfl ?_
    have hb17 : ((i1 : Int) - 1).toNat < list.length := (by first | omega | (simp only [List.length_set, List.length_append, List.length_cons, List.length_nil, List.length_replicate]; omega) | (rw [sortI_length]; simp only [List.length_cons, List.length_nil]; omega) | (simp only [ByteArray.size_append]; omega))
    refine TQ.op (yq (y_idx (k := ((i1 : Int) - 1).toNat) (ev_t rfl) (ev_t rfl) (by first | omega | simp) slT_25 (ri_arg hlist) hb17)) rfl rfl rfl ?_
    refine TQ.op (yq (y_ldi (ev_t rfl) one_3 (ri_arg hlist) hb17)) rfl rfl rfl ?_
    refine TQ.op (yq (y_move (ev_t rfl))) rfl rfl rfl ?_
    refine TQ.op (yq (y_move (ev_t rfl))) rfl rfl rfl ?_
    have hb18 : i1 < list.length := (by first | omega | (simp only [List.length_set, List.length_append, List.length_cons, List.length_nil, List.length_replicate]; omega) | (rw [sortI_length]; simp only [List.length_cons, List.length_nil]; omega) | (simp only [ByteArray.size_append]; omega))
    refine TQ.op (yq (y_idx (k := i1) (ev_t rfl) (ev_t rfl) (by first | omega | simp) slT_25 (ri_arg hlist) hb18)) rfl rfl rfl ?_
    refine TQ.op (yq (y_ldi (ev_t rfl) one_3 (ri_arg hlist) hb18)) rfl rfl rfl ?_
    refine TQ.op (yq (y_gtr (ev_t rfl) (ev_t rfl))) rfl rfl rfl ?_
    refine TQ.nil ?_
    refine TN.seq ?_
    refine TC.cond (b := decide ((list.getD i1 0) < (list.getD (((i1 : Int) - 1).toNat) 0))) (ev_t rfl) (fun h19 => ?_) (fun h19 => ?_)
    · rw [bif_pos h19] at hL1
      have q20 := (of_decide_eq_true h19)
      refine TC.seq ?_
      refine TC.region ?_
      refine TL.op (yq (y_assign ev_c)) rfl rfl rfl ?_
      refine TL.nil ?_
      refine TN.seq ?_
      refine TC.ret ?_
      refine TN.blockR ?_
      refine TN.thenR ?_
      refine TN.thenR ?_
      rw [← hL1, elim_ret] at hF
      refine TN.blockR ?_
      refine TN.thenR ?_
      subst hF
      exact TN.ret1 rfl (ev_t rfl) (fun w' hw => ⟨rfl, hw⟩)
    · rw [bif_neg h19] at hL1
      have q20 := (of_decide_eq_false h19)
      refine TC.skip ?_
      refine TN.blockN ?_
      refine TN.seq ?_
      refine TC.region ?_
      refine TL.op (yq (y_move (ev_t rfl))) rfl rfl rfl ?_
      refine TL.op (yq (y_add (ev_t rfl) ev_c (by unfold In64; constructor <;> omega))) rfl rfl rfl ?_
      refine TL.op (yq (y_assign (ev_t rfl))) rfl rfl rfl ?_
      refine TL.nil ?_
      exact TN.hand (mf1, (i1 + 1)) ⟨(by first | omega | (simp [-List.getD_eq_getElem?_getD] <;> omega)), (by first | omega | (simp [-List.getD_eq_getElem?_getD] <;> omega)), (by omega), hL1⟩ (Nat.lt_succ_self _) ⟨rfl, rfl, trivial⟩ (fun w hw => hw)
  · rw [bif_neg h15] at hL1
    have q16 := (of_decide_eq_false h15)
    refine TC.exit ?_
    refine TN.thenE ?_
    refine TN.thenE ?_
    rw [← hL1, elim_next] at hF
    try dsimp only at hF
    refine TN.blockH ?_
    refine TN.seq ?_
    refine TC.seq ?_
    refine TC.region ?_
    refine TL.op (yq (y_assign ev_c)) rfl rfl rfl ?_
    refine TL.nil ?_
    refine TN.seq ?_
    refine TC.ret ?_
    subst hF
    exact TN.ret1 rfl (ev_t rfl) (fun w' hw => ⟨rfl, hw⟩)

set_option maxRecDepth 4000 in
set_option maxHeartbeats 1000000 in
theorem impl_Metric_isTable_1_ok (w : World) (vrow : Value) (row : List Int) (hrow : RI w vrow row) (gn : Nat) (n : Int) (hn : CellAt w gn (.int .i64 n))  :
    Calls Try.prog 71 ([vrow, (.pointer (some ⟨gn, 0, none⟩))] : List Value).toArray w (Ret (.bool (F_impl_Metric_isTable_1 row n)) (Hp w [])) := by
  obtain ⟨rz, hF⟩ : ∃ rz, (F_impl_Metric_isTable_1 row n) = rz := ⟨_, rfl⟩
  rw [hF]
  unfold F_impl_Metric_isTable_1 at hF
  have hlen_row := arg_len hrow
  refine calls_tc Try.func71 rfl rfl rfl ?_
  change TC _ _ _ _ (Hp w []) [(0, vrow), (1, (.pointer (some ⟨gn, 0, none⟩)))]
  refine TC.seq ?_
  refine TC.region ?_
  refine TL.op (yq (y_assign ev_c)) rfl rfl rfl ?_
  refine TL.nil ?_
  refine TN.seq ?_
  refine TC.seq ?_
  refine TC.region ?_
  refine TL.op (yq (y_move (ev_t rfl))) rfl rfl rfl ?_
  refine TL.op (yq (y_len (ev_t rfl) Try.underlying25 (fun w hw => ((ri_arg hrow) w hw).ln))) rfl rfl rfl ?_
  refine TL.op (yq (y_ldc (ev_t rfl) one_3 hn)) rfl rfl rfl ?_
  refine TL.op (yq (y_neq (ev_t rfl) (ev_t rfl))) rfl rfl rfl ?_
  refine TL.op (yq (y_assign (ev_t rfl))) rfl rfl rfl ?_
  refine TL.nil ?_
  refine TN.seq ?_
  refine TC.ret ?_
  subst hF
  exact TN.ret1 rfl (ev_t rfl) (fun w' hw => ⟨rfl, hw⟩)

set_option maxRecDepth 4000 in
set_option maxHeartbeats 1000000 in
theorem impl_Metric_isTable_ok (w : World) (vm : Value) (um : List Value) (m : List (List Int)) (hm : RII w vm um m) (opn : Bool)  :
    Calls Try.prog 60 ([(.agg #[vm]), (.bool opn)] : List Value).toArray w (Ret (.bool (F_impl_Metric_isTable m opn)) (Hp w [])) := by
  obtain ⟨rz, hF⟩ : ∃ rz, (F_impl_Metric_isTable m opn) = rz := ⟨_, rfl⟩
  rw [hF]
  unfold F_impl_Metric_isTable at hF
  have hlen_m := argT_len hm
  refine calls_tc Try.func60 rfl rfl rfl ?_
  change TC _ _ _ _ (Hp w []) [(0, (.agg #[vm])), (1, (.bool opn))]
  refine TC.seq ?_
  refine TC.region ?_
  refine TL.box (ev_t rfl) rfl (fun g0_0 => ?_)
  refine TL.op (yq (y_assign ev_c)) rfl rfl rfl ?_
  refine TL.nil ?_
  refine TN.seq ?_
  refine TC.seq ?_
  refine TC.region ?_
  refine TL.op (yq (y_fa (fa_29_0 g0_0) (ev_t rfl))) rfl rfl rfl ?_
  refine TL.op (yq (y_ldb 0 (ev_t rfl) one_22 rfl rfl)) rfl rfl rfl ?_
  refine TL.op (yq (y_len (ev_t rfl) Try.underlying22 (fun w hw => ((fun w hw => ((rii_arg hm) w hw).1) w hw).ln))) rfl rfl rfl ?_
  refine TL.alloc (u := (.int .i64 0)) (by kernel_rfl) rfl (fun g1_3 => ?_)
  refine TL.storeB 0 (ev_t rfl) (ev_t rfl) one_3 rfl (by first | decide | simp) (fun w hw => rfl) ?_
  refine TL.nil ?_
  refine TN.seq ?_
  refine TC.seq ?_
  refine TC.seq ?_
  refine TC.region ?_
  refine TL.op (yq (y_ldb 0 (ev_t rfl) one_3 rfl rfl)) rfl rfl rfl ?_
  refine TL.op (y_call (vs := [(.int .i64 (m.length : Int)), (.int .i64 1), (.int .i64 6)]) (v := (.bool ((decide (1 ≤ (m.length : Int))) && (decide ((m.length : Int) ≤ 6))))) en_62 ⟨(ev_t rfl), ev_c, ev_c, trivial⟩ (fun w hw => impl_within_ok w (m.length : Int) 1 6)) rfl rfl rfl ?_
  refine TL.op (yq (y_not (ev_t rfl))) rfl rfl rfl ?_
  refine TL.op (yq (y_move (ev_t rfl))) rfl rfl rfl ?_
  refine TL.opw (w_f rfl rfl rfl) (fun hg => yq (y_fa (fa_29_0 g0_0) (ev_t rfl))) rfl rfl ?_
  refine TL.opw (w_f rfl rfl rfl) (fun hg => yq (y_ldb 1 (ev_g rfl hg) one_22 rfl rfl)) rfl rfl ?_
  refine TL.opw (w_f rfl rfl rfl) (fun hg => yq (y_mkf (us := [(.pointer (some ⟨g1_3, 0, none⟩))]) ⟨(ev_t rfl), trivial⟩)) rfl rfl ?_
  refine TL.opw (w_f rfl rfl rfl) (fun hg => y_call (vs := [vm, (.func (.func 71) #[] ([(.pointer (some ⟨g1_3, 0, none⟩))] : List Value).toArray)]) (v := (.bool (F_slices_ContainsFunc_SSint_Sint m (fun row => F_impl_Metric_isTable_1 row (m.length : Int))))) en_70 ⟨(ev_g rfl hg), (ev_g rfl hg), trivial⟩ (fun w hw => slices_ContainsFunc_SSint_Sint_ok w vm um m ((rii_arg hm) w hw) 71 [(.pointer (some ⟨g1_3, 0, none⟩))] (fun row => F_impl_Metric_isTable_1 row (m.length : Int)) en_71 (fun w2 hb vrow row hrow => impl_Metric_isTable_1_ok w2 vrow row hrow g1_3 (m.length : Int) (cell_blk 0 rfl rfl hw hb)))) rfl rfl ?_
  refine TL.op (yq (y_or (ev_t rfl) (fun hq => (ev_g rfl hq)))) rfl rfl rfl ?_
  refine TL.nil ?_
  refine TN.seq ?_
  refine TC.cond (b := ((!((decide (1 ≤ (m.length : Int))) && (decide ((m.length : Int) ≤ 6)))) || (F_slices_ContainsFunc_SSint_Sint m (fun row => F_impl_Metric_isTable_1 row (m.length : Int))))) (ev_t rfl) (fun h65 => ?_) (fun h65 => ?_)
  · rw [bif_pos h65] at hF
    have q66 := ((or_t h65).imp (fun h => ((and_f (not_t h)).imp (fun h => (of_decide_eq_false h)) (fun h => (of_decide_eq_false h)))) (fun h => h))
    refine TC.seq ?_
    refine TC.region ?_
    refine TL.op (yq (y_assign ev_c)) rfl rfl rfl ?_
    refine TL.nil ?_
    refine TN.seq ?_
    refine TC.ret ?_
    refine TN.thenR ?_
    subst hF
    exact TN.ret1 rfl (ev_t rfl) (fun w' hw => ⟨rfl, Hp.sublist hw (List.nil_sublist _)⟩)
  · rw [bif_neg h65] at hF
    have q66 := (and_imp (or_f h65) (fun h => (and_imp (and_t (not_f h)) (fun h => (of_decide_eq_true h)) (fun h => (of_decide_eq_true h)))) (fun h => h))
    refine TC.skip ?_
    refine TN.seq ?_
    refine TC.seq ?_
    refine TC.seq ?_
    refine TC.region ?_
    refine TL.op (yq (y_ldb 0 (ev_t rfl) one_3 rfl rfl)) rfl rfl rfl ?_
    refine TL.op (yq (y_move ev_c)) rfl rfl rfl ?_
    refine TL.nil ?_
    refine TN.seq ?_
    refine TC.block ?_
    have hrows := rows_of (m := m) (And.right (by assumption))
    obtain ⟨c67, hc68⟩ : ∃ c, F_impl_Metric_isTable_L1 m opn ((m.length - 0) + 1) 0 = c := ⟨_, rfl⟩
    rw [hc68] at hF
    refine TC.loop (ι := Nat × Nat) (fun (fu1, k22_1) => [(1, (.bool opn)), (2, (.pointer (some ⟨g0_0, 0, none⟩))), (21, (.int .i64 (m.length : Int))), (22, (.int .i64 (k22_1 : Int)))]) (fun (fu1, k22_1) => Hp w [.blk g0_0 29 [vm]]) (fun (fu1, k22_1) => (k22_1 ≤ m.length) ∧ m.length - k22_1 < fu1 ∧ F_impl_Metric_isTable_L1 m opn fu1 k22_1 = c67) (fun (fu1, k22_1) => fu1) ((m.length - 0) + 1, 0) ⟨(by first | omega | (simp [-List.getD_eq_getElem?_getD] <;> omega)), (by omega), hc68⟩ ⟨rfl, rfl, rfl, rfl, trivial⟩ (fun w hw => Hp.sublist hw (.cons _ (.cons_cons _ .slnil))) ?_
    rintro ⟨fu1, k22_1⟩ hJ1
    obtain ⟨hi1_0, hmu1, hL1⟩ : (k22_1 ≤ m.length) ∧ m.length - k22_1 < fu1 ∧ F_impl_Metric_isTable_L1 m opn fu1 k22_1 = c67 := hJ1
    change TC _ _ _ _ (Hp w [.blk g0_0 29 [vm]]) [(1, (.bool opn)), (2, (.pointer (some ⟨g0_0, 0, none⟩))), (21, (.int .i64 (m.length : Int))), (22, (.int .i64 (k22_1 : Int)))]
    obtain ⟨mf1, rfl⟩ : ∃ m, fu1 = m + 1 := ⟨fu1 - 1, by omega⟩
    rw [F_impl_Metric_isTable_L1_s] at hL1
    have hrw := hrows k22_1
    refine TC.seq ?_
    refine TC.region ?_
    refine TL.op (yq (y_lss (ev_t rfl) (ev_t rfl))) rfl rfl rfl ?_
    refine TL.nil ?_
    refine TN.seq ?_
    refine TC.seq ?_
    refine TC.cond (b := decide ((k22_1 : Int) < (m.length : Int))) (ev_t rfl) (fun h69 => ?_) (fun h69 => ?_)
    · rw [bif_pos h69] at hL1
      have q70 := (of_decide_eq_true h69)
      refine TC.skip ?_
      refine TN.seq ?_
      refine TC.seq ?_
      refine TC.block ?_
      refine TC.seq ?_
      refine TC.region ?_
      refine TL.op (yq (y_move (ev_t rfl))) rfl rfl rfl ?_
      refine TL.op (yq (y_assign (ev_t rfl))) rfl rfl rfl ?_
      refine TL.nil ?_
      refine TN.seq ?_
      refine TC.seq ?_
      refine TC.region ?_
      refine TL.op (yq (y_fa (fa_29_0 g0_0) (ev_t rfl))) rfl rfl rfl ?_
      refine TL.op (yq (y_ldb 0 (ev_t rfl) one_22 rfl rfl)) rfl rfl rfl ?_
      refine TL.op (yq (y_move (ev_t rfl))) rfl rfl rfl ?_
      have hb71 : k22_1 < m.length := (by first | omega | (simp only [List.length_set, List.length_append, List.length_cons, List.length_nil, List.length_replicate]; omega) | (rw [sortI_length]; simp only [List.length_cons, List.length_nil]; omega) | (simp only [ByteArray.size_append]; omega))
      refine TL.op (yq (y_idx (k := k22_1) (ev_t rfl) (ev_t rfl) (by first | omega | simp) slT_22 (fun w hw => ((rii_arg hm) w hw).1) hb71)) rfl rfl rfl ?_
      have ha72 := hm.row (i := k22_1) hb71
      refine TL.op (yq (y_ldA (ev_t rfl) one_25 (rii_arg hm) hb71)) rfl rfl rfl ?_
      refine TL.op (yq (y_len (ev_t rfl) Try.underlying25 (fun w hw => ((ri_arg ha72) w hw).ln))) rfl rfl rfl ?_
      refine TL.op (yq (y_move ev_c)) rfl rfl rfl ?_
      refine TL.nil ?_
      refine TN.seq ?_
      refine TC.block ?_
      obtain ⟨c73, hc74⟩ : ∃ c, F_impl_Metric_isTable_L2 m opn k22_1 ((((m.getD k22_1 []).length) - 0) + 1) 0 = c := ⟨_, rfl⟩
      rw [hc74] at hL1
      refine TC.loop (ι := Nat × Nat) (fun (fu2, k31_2) => [(1, (.bool opn)), (2, (.pointer (some ⟨g0_0, 0, none⟩))), (6, (.int .i64 (k22_1 : Int))), (21, (.int .i64 (m.length : Int))), (22, (.int .i64 (k22_1 : Int))), (29, (um.getD k22_1 undef)), (30, (.int .i64 ((m.getD k22_1 []).length : Int))), (31, (.int .i64 (k31_2 : Int)))]) (fun (fu2, k31_2) => Hp w [.blk g0_0 29 [vm]]) (fun (fu2, k31_2) => (k31_2 ≤ ((m.getD k22_1 []).length)) ∧ ((m.getD k22_1 []).length) - k31_2 < fu2 ∧ F_impl_Metric_isTable_L2 m opn k22_1 fu2 k31_2 = c73) (fun (fu2, k31_2) => fu2) ((((m.getD k22_1 []).length) - 0) + 1, 0) ⟨(by first | omega | (simp [-List.getD_eq_getElem?_getD] <;> omega)), (by omega), hc74⟩ ⟨rfl, rfl, rfl, rfl, rfl, rfl, rfl, rfl, trivial⟩ (fun w hw => hw) ?_
      rintro ⟨fu2, k31_2⟩ hJ2
      obtain ⟨hi2_0, hmu2, hL2⟩ : (k31_2 ≤ ((m.getD k22_1 []).length)) ∧ ((m.getD k22_1 []).length) - k31_2 < fu2 ∧ F_impl_Metric_isTable_L2 m opn k22_1 fu2 k31_2 = c73 := hJ2
      change TC _ _ _ _ (Hp w [.blk g0_0 29 [vm]]) [(1, (.bool opn)), (2, (.pointer (some ⟨g0_0, 0, none⟩))), (6, (.int .i64 (k22_1 : Int))), (21, (.int .i64 (m.length : Int))), (22, (.int .i64 (k22_1 : Int))), (29, (um.getD k22_1 undef)), (30, (.int .i64 ((m.getD k22_1 []).length : Int))), (31, (.int .i64 (k31_2 : Int)))]
      obtain ⟨mf2, rfl⟩ : ∃ m, fu2 = m + 1 := ⟨fu2 - 1, by omega⟩
      rw [F_impl_Metric_isTable_L2_s] at hL2
      have hrw2 := hrows k31_2
      refine TC.seq ?_
      refine TC.region ?_
      refine TL.op (yq (y_lss (ev_t rfl) (ev_t rfl))) rfl rfl rfl ?_
      refine TL.nil ?_
      refine TN.seq ?_
      refine TC.seq ?_
      refine TC.cond (b := decide ((k31_2 : Int) < ((m.getD k22_1 []).length : Int))) (ev_t rfl) (fun h75 => ?_) (fun h75 => ?_)
      · rw [bif_pos h75] at hL2
        have q76 := (of_decide_eq_true h75)
        refine TC.skip ?_
        refine TN.seq ?_
        refine TC.seq ?_
        refine TC.block ?_
        refine TC.seq ?_
        refine TC.region ?_
        refine TL.op (yq (y_move (ev_t rfl))) rfl rfl rfl ?_
        have hb77 : k31_2 < (m.getD k22_1 []).length := (by first | omega | (simp only [List.length_set, List.length_append, List.length_cons, List.length_nil, List.length_replicate]; omega) | (rw [sortI_length]; simp only [List.length_cons, List.length_nil]; omega) | (simp only [ByteArray.size_append]; omega))
        refine TL.op (yq (y_idx (k := k31_2) (ev_t rfl) (ev_t rfl) (by first | omega | simp) slT_25 (ri_arg ha72) hb77)) rfl rfl rfl ?_
        refine TL.op (yq (y_ldi (ev_t rfl) one_3 (ri_arg ha72) hb77)) rfl rfl rfl ?_
        refine TL.op (yq (y_assign (ev_t rfl))) rfl rfl rfl ?_
        refine TL.op (yq (y_assign (ev_t rfl))) rfl rfl rfl ?_
        refine TL.nil ?_
        refine TN.seq ?_
        refine TC.block ?_
        refine TC.seq ?_
        refine TC.seq ?_
        refine TC.region ?_
        refine TL.op (yq (y_move (ev_t rfl))) rfl rfl rfl ?_
        refine TL.op (yq (y_move (ev_t rfl))) rfl rfl rfl ?_
        refine TL.op (yq (y_eql (ev_t rfl) (ev_t rfl))) rfl rfl rfl ?_
        refine TL.op (yq (y_move (ev_t rfl))) rfl rfl rfl ?_
        refine TL.opw (w_t rfl rfl rfl) (fun hg => yq (y_move (ev_t rfl))) rfl rfl ?_
        refine TL.opw (w_t rfl rfl rfl) (fun hg => yq (y_neq (ev_g rfl hg) ev_c)) rfl rfl ?_
        refine TL.op (yq (y_and (ev_t rfl) (fun hq => (ev_g rfl hq)))) rfl rfl rfl ?_
        refine TL.op (yq (y_assign (ev_t rfl))) rfl rfl rfl ?_
        refine TL.nil ?_
        refine TN.seq ?_
        refine TC.cond (b := ((decide ((k22_1 : Int) = (k31_2 : Int))) && (!decide (((m.getD k22_1 []).getD k31_2 0) = 0)))) (ev_t rfl) (fun h78 => ?_) (fun h78 => ?_)
        · rw [bif_pos h78] at hL2
          have q79 := (and_imp (and_t h78) (fun h => (of_decide_eq_true h)) (fun h => (of_decide_eq_false (not_t h))))
          refine TC.skip ?_
          refine TN.seq ?_
          refine TC.condT (ev_t rfl) h78 ?_
          refine TC.seq ?_
          refine TC.region ?_
          refine TL.op (yq (y_assign ev_c)) rfl rfl rfl ?_
          refine TL.nil ?_
          refine TN.seq ?_
          refine TC.ret ?_
          refine TN.blockR ?_
          refine TN.blockR ?_
          refine TN.thenR ?_
          refine TN.thenR ?_
          rw [← hL2, elim_ret] at hL1
          refine TN.blockR ?_
          refine TN.blockR ?_
          refine TN.thenR ?_
          refine TN.thenR ?_
          rw [← hL1, elim_ret] at hF
          refine TN.blockR ?_
          refine TN.thenR ?_
          subst hF
          exact TN.ret1 rfl (ev_t rfl) (fun w' hw => ⟨rfl, Hp.sublist hw (List.nil_sublist _)⟩)
        · rw [bif_neg h78] at hL2
          have q79 := ((and_f h78).imp (fun h => (of_decide_eq_false h)) (fun h => (of_decide_eq_true (not_f h))))
          refine TC.seq ?_
          refine TC.region ?_
          refine TL.op (yq (y_move (ev_t rfl))) rfl rfl rfl ?_
          refine TL.op (yq (y_fa (fa_29_0 g0_0) (ev_t rfl))) rfl rfl rfl ?_
          refine TL.op (yq (y_ldb 0 (ev_t rfl) one_22 rfl rfl)) rfl rfl rfl ?_
          refine TL.op (yq (y_move (ev_t rfl))) rfl rfl rfl ?_
          have hb82 : k31_2 < m.length := (by first | omega | (simp only [List.length_set, List.length_append, List.length_cons, List.length_nil, List.length_replicate]; omega) | (rw [sortI_length]; simp only [List.length_cons, List.length_nil]; omega) | (simp only [ByteArray.size_append]; omega))
          refine TL.op (yq (y_idx (k := k31_2) (ev_t rfl) (ev_t rfl) (by first | omega | simp) slT_22 (fun w hw => ((rii_arg hm) w hw).1) hb82)) rfl rfl rfl ?_
          have ha83 := hm.row (i := k31_2) hb82
          refine TL.op (yq (y_ldA (ev_t rfl) one_25 (rii_arg hm) hb82)) rfl rfl rfl ?_
          refine TL.op (yq (y_move (ev_t rfl))) rfl rfl rfl ?_
          have hb84 : k22_1 < (m.getD k31_2 []).length := (by first | omega | (simp only [List.length_set, List.length_append, List.length_cons, List.length_nil, List.length_replicate]; omega) | (rw [sortI_length]; simp only [List.length_cons, List.length_nil]; omega) | (simp only [ByteArray.size_append]; omega))
          refine TL.op (yq (y_idx (k := k22_1) (ev_t rfl) (ev_t rfl) (by first | omega | simp) slT_25 (ri_arg ha83) hb84)) rfl rfl rfl ?_
          refine TL.op (yq (y_ldi (ev_t rfl) one_3 (ri_arg ha83) hb84)) rfl rfl rfl ?_
          refine TL.op (yq (y_neq (ev_t rfl) (ev_t rfl))) rfl rfl rfl ?_
          refine TL.op (yq (y_assign (ev_t rfl))) rfl rfl rfl ?_
          refine TL.nil ?_
          refine TN.seq ?_
          refine TC.cond (b := !decide (((m.getD k22_1 []).getD k31_2 0) = ((m.getD k31_2 []).getD k22_1 0))) (ev_t rfl) (fun h85 => ?_) (fun h85 => ?_)
          · rw [bif_pos h85] at hL2
            have q86 := (of_decide_eq_false (not_t h85))
            refine TC.skip ?_
            refine TN.seq ?_
            refine TC.condT (ev_t rfl) h85 ?_
            refine TC.seq ?_
            refine TC.region ?_
            refine TL.op (yq (y_assign ev_c)) rfl rfl rfl ?_
            refine TL.nil ?_
            refine TN.seq ?_
            refine TC.ret ?_
            refine TN.blockR ?_
            refine TN.blockR ?_
            refine TN.thenR ?_
            refine TN.thenR ?_
            rw [← hL2, elim_ret] at hL1
            refine TN.blockR ?_
            refine TN.blockR ?_
            refine TN.thenR ?_
            refine TN.thenR ?_
            rw [← hL1, elim_ret] at hF
            refine TN.blockR ?_
            refine TN.thenR ?_
            subst hF
            exact TN.ret1 rfl (ev_t rfl) (fun w' hw => ⟨rfl, Hp.sublist hw (List.nil_sublist _)⟩)
          · rw [bif_neg h85] at hL2
            have q86 := (of_decide_eq_true (not_f h85))
            refine TC.region ?_
            refine TL.op (yq (y_move (ev_t rfl))) rfl rfl rfl ?_
            refine TL.op (yq (y_gtr (ev_t rfl) ev_c)) rfl rfl rfl ?_
            refine TL.op (yq (y_assign (ev_t rfl))) rfl rfl rfl ?_
            refine TL.nil ?_
            refine TN.seq ?_
            refine TC.cond (b := decide (99 < ((m.getD k22_1 []).getD k31_2 0))) (ev_t rfl) (fun h89 => ?_) (fun h89 => ?_)
            · rw [bif_pos h89] at hL2
              have q90 := (of_decide_eq_true h89)
              refine TC.seq ?_
              refine TC.region ?_
              refine TL.op (yq (y_assign ev_c)) rfl rfl rfl ?_
              refine TL.nil ?_
              refine TN.seq ?_
              refine TC.ret ?_
              refine TN.blockR ?_
              refine TN.blockR ?_
              refine TN.thenR ?_
              refine TN.thenR ?_
              rw [← hL2, elim_ret] at hL1
              refine TN.blockR ?_
              refine TN.blockR ?_
              refine TN.thenR ?_
              refine TN.thenR ?_
              rw [← hL1, elim_ret] at hF
              refine TN.blockR ?_
              refine TN.thenR ?_
              subst hF
              exact TN.ret1 rfl (ev_t rfl) (fun w' hw => ⟨rfl, Hp.sublist hw (List.nil_sublist _)⟩)
            · rw [bif_neg h89] at hL2
              have q90 := (of_decide_eq_false h89)
              refine TC.seq ?_
              refine TC.region ?_
              refine TL.op (yq (y_move (ev_t rfl))) rfl rfl rfl ?_
              refine TL.op (yq (y_move (ev_t rfl))) rfl rfl rfl ?_
              refine TL.op (yq (y_neq (ev_t rfl) (ev_t rfl))) rfl rfl rfl ?_
              refine TL.op (yq (y_move (ev_t rfl))) rfl rfl rfl ?_
              refine TL.opw (w_t rfl rfl rfl) (fun hg => yq (y_move (ev_t rfl))) rfl rfl ?_
              refine TL.opw (w_t rfl rfl rfl) (fun hg => yq (y_lss (ev_g rfl hg) ev_c)) rfl rfl ?_
              refine TL.op (yq (y_and (ev_t rfl) (fun hq => (ev_g rfl hq)))) rfl rfl rfl ?_
              refine TL.op (yq (y_move (ev_t rfl))) rfl rfl rfl ?_
              refine TL.opw (w_t rfl rfl rfl) (fun hg => yq (y_move (ev_t rfl))) rfl rfl ?_
              refine TL.opw (w_t rfl rfl rfl) (fun hg => yq (y_move (ev_g rfl hg))) rfl rfl ?_
              refine TL.opw (w_gt rfl rfl rfl) (fun hg => yq (y_move (ev_t rfl))) rfl rfl ?_
              refine TL.opw (w_gt rfl rfl rfl) (fun hg => yq (y_eql (ev_g rfl hg) ev_c)) rfl rfl ?_
              refine TL.opw (w_t rfl rfl rfl) (fun hg => yq (y_and (ev_g rfl hg) (fun hq => (ev_g rfl (gand hg hq))))) rfl rfl ?_
              refine TL.opw (w_t rfl rfl rfl) (fun hg => yq (y_not (ev_g rfl hg))) rfl rfl ?_
              refine TL.op (yq (y_and (ev_t rfl) (fun hq => (ev_g rfl hq)))) rfl rfl rfl ?_
              refine TL.op (yq (y_assign (ev_t rfl))) rfl rfl rfl ?_
              refine TL.nil ?_
              refine TN.seq ?_
              refine TC.cond (b := (((!decide ((k22_1 : Int) = (k31_2 : Int))) && (decide (((m.getD k22_1 []).getD k31_2 0) < 1))) && (!(opn && (decide (((m.getD k22_1 []).getD k31_2 0) = -1)))))) (ev_t rfl) (fun h91 => ?_) (fun h91 => ?_)
              · rw [bif_pos h91] at hL2
                have q92 := (and_imp (and_t h91) (fun h => (and_imp (and_t h) (fun h => (of_decide_eq_false (not_t h))) (fun h => (of_decide_eq_true h)))) (fun h => ((and_f (not_t h)).imp (fun h => h) (fun h => (of_decide_eq_false h)))))
                refine TC.seq ?_
                refine TC.region ?_
                refine TL.op (yq (y_assign ev_c)) rfl rfl rfl ?_
                refine TL.nil ?_
                refine TN.seq ?_
                refine TC.ret ?_
                refine TN.blockR ?_
                refine TN.blockR ?_
                refine TN.thenR ?_
                refine TN.thenR ?_
                rw [← hL2, elim_ret] at hL1
                refine TN.blockR ?_
                refine TN.blockR ?_
                refine TN.thenR ?_
                refine TN.thenR ?_
                rw [← hL1, elim_ret] at hF
                refine TN.blockR ?_
                refine TN.thenR ?_
                subst hF
                exact TN.ret1 rfl (ev_t rfl) (fun w' hw => ⟨rfl, Hp.sublist hw (List.nil_sublist _)⟩)
              · rw [bif_neg h91] at hL2
                have q92 := ((and_f h91).imp (fun h => ((and_f h).imp (fun h => (of_decide_eq_true (not_f h))) (fun h => (of_decide_eq_false h)))) (fun h => (and_imp (and_t (not_f h)) (fun h => h) (fun h => (of_decide_eq_true h)))))
                refine TC.skip ?_
                refine TN.blockN ?_
                refine TN.blockN ?_
                refine TN.seq ?_
                refine TC.region ?_
                refine TL.op (yq (y_add (ev_t rfl) ev_c (by unfold In64; constructor <;> omega))) rfl rfl rfl ?_
                refine TL.op (yq (y_move (ev_t rfl))) rfl rfl rfl ?_
                refine TL.nil ?_
                exact TN.hand (mf2, (k31_2 + 1)) ⟨(by first | omega | (simp [-List.getD_eq_getElem?_getD] <;> omega)), (by omega), hL2⟩ (Nat.lt_succ_self _) ⟨rfl, rfl, rfl, rfl, rfl, rfl, rfl, rfl, trivial⟩ (fun w hw => hw)
      · rw [bif_neg h75] at hL2
        have q76 := (of_decide_eq_false h75)
        refine TC.exit ?_
        refine TN.thenE ?_
        refine TN.thenE ?_
        rw [← hL2, elim_next] at hL1
        try dsimp only at hL1
        refine TN.blockH ?_
        refine TN.blockN ?_
        refine TN.seq ?_
        refine TC.region ?_
        refine TL.op (yq (y_add (ev_t rfl) ev_c (by unfold In64; constructor <;> omega))) rfl rfl rfl ?_
        refine TL.op (yq (y_move (ev_t rfl))) rfl rfl rfl ?_
        refine TL.nil ?_
        exact TN.hand (mf1, (k22_1 + 1)) ⟨(by first | omega | (simp [-List.getD_eq_getElem?_getD] <;> omega)), (by omega), hL1⟩ (Nat.lt_succ_self _) ⟨rfl, rfl, rfl, rfl, trivial⟩ (fun w hw => hw)
    · rw [bif_neg h69] at hL1
      have q70 := (of_decide_eq_false h69)
      refine TC.exit ?_
      refine TN.thenE ?_
      refine TN.thenE ?_
      rw [← hL1, elim_next] at hF
      try dsimp only at hF
      refine TN.blockH ?_
      refine TN.seq ?_
      refine TC.seq ?_
      refine TC.region ?_
      refine TL.op (yq (y_assign ev_c)) rfl rfl rfl ?_
      refine TL.nil ?_
      refine TN.seq ?_
      refine TC.ret ?_
      subst hF
      exact TN.ret1 rfl (ev_t rfl) (fun w' hw => ⟨rfl, Hp.sublist hw (List.nil_sublist _)⟩)

set_option maxRecDepth 4000 in
set_option maxHeartbeats 1000000 in
theorem impl_Metric_detour_ok (w : World) (vm : Value) (um : List Value) (m : List (List Int)) (hm : RII w vm um m) (hp0 : Tab m) :
    Calls Try.prog 61 ([(.agg #[vm])] : List Value).toArray w (fun e w' => ∃ i : Value, e = .returned (.tuple #[i, (.bool ((F_impl_Metric_detour m).2))]) ∧ Hp w [rowI 3 i ((F_impl_Metric_detour m).1)] w') := by
  obtain ⟨rz, hF⟩ : ∃ rz, (F_impl_Metric_detour m) = rz := ⟨_, rfl⟩
  rw [hF]
  unfold F_impl_Metric_detour at hF
  have hlen_m := argT_len hm
  refine calls_tc Try.func61 rfl rfl rfl ?_
  change TC _ _ _ _ (Hp w []) [(0, (.agg #[vm]))]
  refine TC.seq ?_
  refine TC.region ?_
  refine TL.box (ev_t rfl) rfl (fun g0_0 => ?_)
  refine TL.op (yq (y_assign ev_c)) rfl rfl rfl ?_
  refine TL.op (yq (y_assign ev_c)) rfl rfl rfl ?_
  refine TL.nil ?_
  refine TN.seq ?_
  refine TC.seq ?_
  refine TC.seq ?_
  refine TC.region ?_
  refine TL.op (yq (y_fa (fa_29_0 g0_0) (ev_t rfl))) rfl rfl rfl ?_
  refine TL.op (yq (y_ldb 0 (ev_t rfl) one_22 rfl rfl)) rfl rfl rfl ?_
  refine TL.op (yq (y_len (ev_t rfl) Try.underlying22 (fun w hw => ((fun w hw => ((rii_arg hm) w hw).1) w hw).ln))) rfl rfl rfl ?_
  refine TL.op (yq (y_move ev_c)) rfl rfl rfl ?_
  refine TL.nil ?_
  refine TN.seq ?_
  refine TC.block ?_
  obtain ⟨c50, hc51⟩ : ∃ c, F_impl_Metric_detour_L1 m ((m.length - 0) + 1) 0 = c := ⟨_, rfl⟩
  rw [hc51] at hF
  refine TC.loop (ι := Nat × Nat) (fun (fu1, k12_1) => [(1, (.pointer (some ⟨g0_0, 0, none⟩))), (10, vm), (11, (.int .i64 (m.length : Int))), (12, (.int .i64 (k12_1 : Int)))]) (fun (fu1, k12_1) => Hp w [.blk g0_0 29 [vm]]) (fun (fu1, k12_1) => (k12_1 ≤ m.length) ∧ m.length - k12_1 < fu1 ∧ F_impl_Metric_detour_L1 m fu1 k12_1 = c50) (fun (fu1, k12_1) => fu1) ((m.length - 0) + 1, 0) ⟨(by first | omega | (simp [-List.getD_eq_getElem?_getD] <;> omega)), (by omega), hc51⟩ ⟨rfl, rfl, rfl, rfl, trivial⟩ (fun w hw => hw) ?_
  rintro ⟨fu1, k12_1⟩ hJ1
  obtain ⟨hi1_0, hmu1, hL1⟩ : (k12_1 ≤ m.length) ∧ m.length - k12_1 < fu1 ∧ F_impl_Metric_detour_L1 m fu1 k12_1 = c50 := hJ1
  change TC _ _ _ _ (Hp w [.blk g0_0 29 [vm]]) [(1, (.pointer (some ⟨g0_0, 0, none⟩))), (10, vm), (11, (.int .i64 (m.length : Int))), (12, (.int .i64 (k12_1 : Int)))]
  obtain ⟨mf1, rfl⟩ : ∃ m, fu1 = m + 1 := ⟨fu1 - 1, by omega⟩
  rw [F_impl_Metric_detour_L1_s] at hL1
  have hrw := hp0.rows k12_1
  refine TC.seq ?_
  refine TC.region ?_
  refine TL.op (yq (y_lss (ev_t rfl) (ev_t rfl))) rfl rfl rfl ?_
  refine TL.nil ?_
  refine TN.seq ?_
  refine TC.seq ?_
  refine TC.cond (b := decide ((k12_1 : Int) < (m.length : Int))) (ev_t rfl) (fun h52 => ?_) (fun h52 => ?_)
  · rw [bif_pos h52] at hL1
    have q53 := (of_decide_eq_true h52)
    refine TC.skip ?_
    refine TN.seq ?_
    refine TC.seq ?_
    refine TC.block ?_
    refine TC.seq ?_
    refine TC.region ?_
    refine TL.op (yq (y_move (ev_t rfl))) rfl rfl rfl ?_
    have hb54 : k12_1 < m.length := (by first | omega | (simp only [List.length_set, List.length_append, List.length_cons, List.length_nil, List.length_replicate]; omega) | (rw [sortI_length]; simp only [List.length_cons, List.length_nil]; omega) | (simp only [ByteArray.size_append]; omega))
    refine TL.op (yq (y_idx (k := k12_1) (ev_t rfl) (ev_t rfl) (by first | omega | simp) slT_22 (fun w hw => ((rii_arg hm) w hw).1) hb54)) rfl rfl rfl ?_
    have ha55 := hm.row (i := k12_1) hb54
    refine TL.op (yq (y_ldA (ev_t rfl) one_25 (rii_arg hm) hb54)) rfl rfl rfl ?_
    refine TL.op (yq (y_assign (ev_t rfl))) rfl rfl rfl ?_
    refine TL.op (yq (y_assign (ev_t rfl))) rfl rfl rfl ?_
    refine TL.nil ?_
    refine TN.seq ?_
    refine TC.seq ?_
    refine TC.region ?_
    refine TL.op (yq (y_move (ev_t rfl))) rfl rfl rfl ?_
    refine TL.op (yq (y_len (ev_t rfl) Try.underlying25 (fun w hw => ((ri_arg ha55) w hw).ln))) rfl rfl rfl ?_
    refine TL.op (yq (y_move ev_c)) rfl rfl rfl ?_
    refine TL.nil ?_
    refine TN.seq ?_
    refine TC.block ?_
    obtain ⟨c56, hc57⟩ : ∃ c, F_impl_Metric_detour_L2 m k12_1 ((((m.getD k12_1 []).length) - 0) + 1) 0 = c := ⟨_, rfl⟩
    rw [hc57] at hL1
    refine TC.loop (ι := Nat × Nat) (fun (fu2, k19_2) => [(1, (.pointer (some ⟨g0_0, 0, none⟩))), (4, (.int .i64 (k12_1 : Int))), (5, (um.getD k12_1 undef)), (10, vm), (11, (.int .i64 (m.length : Int))), (12, (.int .i64 (k12_1 : Int))), (17, (um.getD k12_1 undef)), (18, (.int .i64 ((m.getD k12_1 []).length : Int))), (19, (.int .i64 (k19_2 : Int)))]) (fun (fu2, k19_2) => Hp w [.blk g0_0 29 [vm]]) (fun (fu2, k19_2) => (k19_2 ≤ ((m.getD k12_1 []).length)) ∧ ((m.getD k12_1 []).length) - k19_2 < fu2 ∧ F_impl_Metric_detour_L2 m k12_1 fu2 k19_2 = c56) (fun (fu2, k19_2) => fu2) ((((m.getD k12_1 []).length) - 0) + 1, 0) ⟨(by first | omega | (simp [-List.getD_eq_getElem?_getD] <;> omega)), (by omega), hc57⟩ ⟨rfl, rfl, rfl, rfl, rfl, rfl, rfl, rfl, rfl, trivial⟩ (fun w hw => hw) ?_
    rintro ⟨fu2, k19_2⟩ hJ2
    obtain ⟨hi2_0, hmu2, hL2⟩ : (k19_2 ≤ ((m.getD k12_1 []).length)) ∧ ((m.getD k12_1 []).length) - k19_2 < fu2 ∧ F_impl_Metric_detour_L2 m k12_1 fu2 k19_2 = c56 := hJ2
    change TC _ _ _ _ (Hp w [.blk g0_0 29 [vm]]) [(1, (.pointer (some ⟨g0_0, 0, none⟩))), (4, (.int .i64 (k12_1 : Int))), (5, (um.getD k12_1 undef)), (10, vm), (11, (.int .i64 (m.length : Int))), (12, (.int .i64 (k12_1 : Int))), (17, (um.getD k12_1 undef)), (18, (.int .i64 ((m.getD k12_1 []).length : Int))), (19, (.int .i64 (k19_2 : Int)))]
    obtain ⟨mf2, rfl⟩ : ∃ m, fu2 = m + 1 := ⟨fu2 - 1, by omega⟩
    rw [F_impl_Metric_detour_L2_s] at hL2
    have hrw2 := hp0.rows k19_2
    refine TC.seq ?_
    refine TC.region ?_
    refine TL.op (yq (y_lss (ev_t rfl) (ev_t rfl))) rfl rfl rfl ?_
    refine TL.nil ?_
    refine TN.seq ?_
    refine TC.seq ?_
    refine TC.cond (b := decide ((k19_2 : Int) < ((m.getD k12_1 []).length : Int))) (ev_t rfl) (fun h58 => ?_) (fun h58 => ?_)
    · rw [bif_pos h58] at hL2
      have q59 := (of_decide_eq_true h58)
      refine TC.skip ?_
      refine TN.seq ?_
      refine TC.seq ?_
      refine TC.block ?_
      refine TC.seq ?_
      refine TC.region ?_
      refine TL.op (yq (y_move (ev_t rfl))) rfl rfl rfl ?_
      have hb60 : k19_2 < (m.getD k12_1 []).length := (by first | omega | (simp only [List.length_set, List.length_append, List.length_cons, List.length_nil, List.length_replicate]; omega) | (rw [sortI_length]; simp only [List.length_cons, List.length_nil]; omega) | (simp only [ByteArray.size_append]; omega))
      refine TL.op (yq (y_idx (k := k19_2) (ev_t rfl) (ev_t rfl) (by first | omega | simp) slT_25 (ri_arg ha55) hb60)) rfl rfl rfl ?_
      refine TL.op (yq (y_ldi (ev_t rfl) one_3 (ri_arg ha55) hb60)) rfl rfl rfl ?_
      refine TL.op (yq (y_assign (ev_t rfl))) rfl rfl rfl ?_
      refine TL.op (yq (y_assign (ev_t rfl))) rfl rfl rfl ?_
      refine TL.nil ?_
      refine TN.seq ?_
      refine TC.seq ?_
      refine TC.region ?_
      refine TL.op (yq (y_fa (fa_29_0 g0_0) (ev_t rfl))) rfl rfl rfl ?_
      refine TL.op (yq (y_ldb 0 (ev_t rfl) one_22 rfl rfl)) rfl rfl rfl ?_
      refine TL.op (yq (y_len (ev_t rfl) Try.underlying22 (fun w hw => ((fun w hw => ((rii_arg hm) w hw).1) w hw).ln))) rfl rfl rfl ?_
      refine TL.op (yq (y_move ev_c)) rfl rfl rfl ?_
      refine TL.nil ?_
      refine TN.seq ?_
      refine TC.block ?_
      obtain ⟨c61, hc62⟩ : ∃ c, F_impl_Metric_detour_L3 m k12_1 k19_2 ((m.length - 0) + 1) 0 = c := ⟨_, rfl⟩
      rw [hc62] at hL2
      refine TC.loop (ι := Nat × Nat) (fun (fu3, k27_3) => [(1, (.pointer (some ⟨g0_0, 0, none⟩))), (4, (.int .i64 (k12_1 : Int))), (5, (um.getD k12_1 undef)), (6, (.int .i64 (k19_2 : Int))), (7, (.int .i64 ((m.getD k12_1 []).getD k19_2 0))), (10, vm), (11, (.int .i64 (m.length : Int))), (12, (.int .i64 (k12_1 : Int))), (17, (um.getD k12_1 undef)), (18, (.int .i64 ((m.getD k12_1 []).length : Int))), (19, (.int .i64 (k19_2 : Int))), (26, (.int .i64 (m.length : Int))), (27, (.int .i64 (k27_3 : Int)))]) (fun (fu3, k27_3) => Hp w [.blk g0_0 29 [vm]]) (fun (fu3, k27_3) => (k27_3 ≤ m.length) ∧ m.length - k27_3 < fu3 ∧ F_impl_Metric_detour_L3 m k12_1 k19_2 fu3 k27_3 = c61) (fun (fu3, k27_3) => fu3) ((m.length - 0) + 1, 0) ⟨(by first | omega | (simp [-List.getD_eq_getElem?_getD] <;> omega)), (by omega), hc62⟩ ⟨rfl, rfl, rfl, rfl, rfl, rfl, rfl, rfl, rfl, rfl, rfl, rfl, rfl, trivial⟩ (fun w hw => hw) ?_
      rintro ⟨fu3, k27_3⟩ hJ3
      obtain ⟨hi3_0, hmu3, hL3⟩ : (k27_3 ≤ m.length) ∧ m.length - k27_3 < fu3 ∧ F_impl_Metric_detour_L3 m k12_1 k19_2 fu3 k27_3 = c61 := hJ3
      change TC _ _ _ _ (Hp w [.blk g0_0 29 [vm]]) [(1, (.pointer (some ⟨g0_0, 0, none⟩))), (4, (.int .i64 (k12_1 : Int))), (5, (um.getD k12_1 undef)), (6, (.int .i64 (k19_2 : Int))), (7, (.int .i64 ((m.getD k12_1 []).getD k19_2 0))), (10, vm), (11, (.int .i64 (m.length : Int))), (12, (.int .i64 (k12_1 : Int))), (17, (um.getD k12_1 undef)), (18, (.int .i64 ((m.getD k12_1 []).length : Int))), (19, (.int .i64 (k19_2 : Int))), (26, (.int .i64 (m.length : Int))), (27, (.int .i64 (k27_3 : Int)))]
      obtain ⟨mf3, rfl⟩ : ∃ m, fu3 = m + 1 := ⟨fu3 - 1, by omega⟩
      rw [F_impl_Metric_detour_L3_s] at hL3
      have he1 := hp0.el k12_1 k19_2
      have he2 := hp0.el k19_2 k27_3
      refine TC.seq ?_
      refine TC.region ?_
      refine TL.op (yq (y_lss (ev_t rfl) (ev_t rfl))) rfl rfl rfl ?_
      refine TL.nil ?_
      refine TN.seq ?_
      refine TC.seq ?_
      refine TC.cond (b := decide ((k27_3 : Int) < (m.length : Int))) (ev_t rfl) (fun h63 => ?_) (fun h63 => ?_)
      · rw [bif_pos h63] at hL3
        have q64 := (of_decide_eq_true h63)
        refine TC.skip ?_
        refine TN.seq ?_
        refine TC.seq ?_
        refine TC.block ?_
        refine TC.seq ?_
        refine TC.region ?_
        refine TL.op (yq (y_move (ev_t rfl))) rfl rfl rfl ?_
        refine TL.op (yq (y_assign (ev_t rfl))) rfl rfl rfl ?_
        refine TL.nil ?_
        refine TN.seq ?_
        refine TC.seq ?_
        refine TC.regionQ (by kernel_rfl) (by kernel_rfl) dr_hp ?_
        refine TQ.op (yq (y_move (ev_t rfl))) rfl rfl rfl ?_
        refine TQ.op (yq (y_move (ev_t rfl))) rfl rfl rfl ?_
        have hb65 : k27_3 < (m.getD k12_1 []).length := (by first | omega | (simp only [List.length_set, List.length_append, List.length_cons, List.length_nil, List.length_replicate]; omega) | (rw [sortI_length]; simp only [List.length_cons, List.length_nil]; omega) | (simp only [ByteArray.size_append]; omega))
        refine TQ.op (yq (y_idx (k := k27_3) (ev_t rfl) (ev_t rfl) (by first | omega | simp) slT_25 (ri_arg ha55) hb65)) rfl rfl rfl ?_
        refine TQ.op (yq (y_ldi (ev_t rfl) one_3 (ri_arg ha55) hb65)) rfl rfl rfl ?_
        refine TQ.op (yq (y_move (ev_t rfl))) rfl rfl rfl ?_
        refine TQ.op (yq (y_fa (fa_29_0 g0_0) (ev_t rfl))) rfl rfl rfl ?_
        refine TQ.op (yq (y_ldb 0 (ev_t rfl) one_22 rfl rfl)) rfl rfl rfl ?_
        refine TQ.op (yq (y_move (ev_t rfl))) rfl rfl rfl ?_
        have hb66 : k19_2 < m.length := (by first | omega | (simp only [List.length_set, List.length_append, List.length_cons, List.length_nil, List.length_replicate]; omega) | (rw [sortI_length]; simp only [List.length_cons, List.length_nil]; omega) | (simp only [ByteArray.size_append]; omega))
        refine TQ.op (yq (y_idx (k := k19_2) (ev_t rfl) (ev_t rfl) (by first | omega | simp) slT_22 (fun w hw => ((rii_arg hm) w hw).1) hb66)) rfl rfl rfl ?_
        have ha67 := hm.row (i := k19_2) hb66
        refine TQ.op (yq (y_ldA (ev_t rfl) one_25 (rii_arg hm) hb66)) rfl rfl rfl ?_
        refine TQ.op (yq (y_move (ev_t rfl))) rfl rfl rfl ?_
        have hb68 : k27_3 < (m.getD k19_2 []).length := (by first | omega | (simp only [List.length_set, List.length_append, List.length_cons, List.length_nil, List.length_replicate]; omega) | (rw [sortI_length]; simp only [List.length_cons, List.length_nil]; omega) | (simp only [ByteArray.size_append]; omega))
        refine TQ.op (yq (y_idx (k := k27_3) (ev_t rfl) (ev_t rfl) (by first | omega | simp) slT_25 (ri_arg ha67) hb68)) rfl rfl rfl ?_
        refine TQ.op (yq (y_ldi (ev_t rfl) one_3 (ri_arg ha67) hb68)) rfl rfl rfl ?_
        refine TQ.op (yq (y_add (ev_t rfl) (ev_t rfl) (by unfold In64; constructor <;> omega))) rfl rfl rfl ?_
        refine TQ.op (yq (y_gtr (ev_t rfl) (ev_t rfl))) rfl rfl rfl ?_
        refine TQ.nil ?_
        refine TN.seq ?_
        refine TC.cond (b := decide (((m.getD k12_1 []).getD k19_2 0) + ((m.getD k19_2 []).getD k27_3 0) < ((m.getD k12_1 []).getD k27_3 0))) (ev_t rfl) (fun h69 => ?_) (fun h69 => ?_)
        · rw [bif_pos h69] at hL3
          have q70 := (of_decide_eq_true h69)
          refine TC.seq ?_
          refine TC.region ?_
          refine TL.op (yq (y_move (ev_t rfl))) rfl rfl rfl ?_
          refine TL.op (yq (y_move (ev_t rfl))) rfl rfl rfl ?_
          refine TL.op (yq (y_move (ev_t rfl))) rfl rfl rfl ?_
          refine TL.buildI (zs := [.tmp 45, .tmp 46, .tmp 47]) (qs := [(k12_1 : Int), (k19_2 : Int), (k27_3 : Int)]) slT_25 rfl ⟨(ev_t rfl), (ev_t rfl), (ev_t rfl), trivial⟩ rfl (by decide) rfl (fun v11_3 => ?_)
          refine TL.op (yq (y_assign (ev_t rfl))) rfl rfl rfl ?_
          refine TL.op (yq (y_assign ev_c)) rfl rfl rfl ?_
          refine TL.nil ?_
          refine TN.seq ?_
          refine TC.ret ?_
          refine TN.blockR ?_
          refine TN.thenR ?_
          refine TN.thenR ?_
          rw [← hL3, elim_ret] at hL2
          refine TN.blockR ?_
          refine TN.blockR ?_
          refine TN.thenR ?_
          refine TN.thenR ?_
          rw [← hL2, elim_ret] at hL1
          refine TN.blockR ?_
          refine TN.blockR ?_
          refine TN.thenR ?_
          refine TN.thenR ?_
          rw [← hL1, elim_ret] at hF
          refine TN.blockR ?_
          refine TN.thenR ?_
          subst hF
          exact TN.ret2 rfl (ev_t rfl) (ev_t rfl) (fun w' hw => ⟨v11_3, rfl, Hp.sublist hw (.cons_cons _ (.cons _ .slnil))⟩)
        · rw [bif_neg h69] at hL3
          have q70 := (of_decide_eq_false h69)
          refine TC.skip ?_
          refine TN.blockN ?_
          refine TN.seq ?_
          refine TC.region ?_
          refine TL.op (yq (y_add (ev_t rfl) ev_c (by unfold In64; constructor <;> omega))) rfl rfl rfl ?_
          refine TL.op (yq (y_move (ev_t rfl))) rfl rfl rfl ?_
          refine TL.nil ?_
          exact TN.hand (mf3, (k27_3 + 1)) ⟨(by first | omega | (simp [-List.getD_eq_getElem?_getD] <;> omega)), (by omega), hL3⟩ (Nat.lt_succ_self _) ⟨rfl, rfl, rfl, rfl, rfl, rfl, rfl, rfl, rfl, rfl, rfl, rfl, rfl, trivial⟩ (fun w hw => hw)
      · rw [bif_neg h63] at hL3
        have q64 := (of_decide_eq_false h63)
        refine TC.exit ?_
        refine TN.thenE ?_
        refine TN.thenE ?_
        rw [← hL3, elim_next] at hL2
        try dsimp only at hL2
        refine TN.blockH ?_
        refine TN.blockN ?_
        refine TN.seq ?_
        refine TC.region ?_
        refine TL.op (yq (y_add (ev_t rfl) ev_c (by unfold In64; constructor <;> omega))) rfl rfl rfl ?_
        refine TL.op (yq (y_move (ev_t rfl))) rfl rfl rfl ?_
        refine TL.nil ?_
        exact TN.hand (mf2, (k19_2 + 1)) ⟨(by first | omega | (simp [-List.getD_eq_getElem?_getD] <;> omega)), (by omega), hL2⟩ (Nat.lt_succ_self _) ⟨rfl, rfl, rfl, rfl, rfl, rfl, rfl, rfl, rfl, trivial⟩ (fun w hw => hw)
    · rw [bif_neg h58] at hL2
      have q59 := (of_decide_eq_false h58)
      refine TC.exit ?_
      refine TN.thenE ?_
      refine TN.thenE ?_
      rw [← hL2, elim_next] at hL1
      try dsimp only at hL1
      refine TN.blockH ?_
      refine TN.blockN ?_
      refine TN.seq ?_
      refine TC.region ?_
      refine TL.op (yq (y_add (ev_t rfl) ev_c (by unfold In64; constructor <;> omega))) rfl rfl rfl ?_
      refine TL.op (yq (y_move (ev_t rfl))) rfl rfl rfl ?_
      refine TL.nil ?_
      exact TN.hand (mf1, (k12_1 + 1)) ⟨(by first | omega | (simp [-List.getD_eq_getElem?_getD] <;> omega)), (by omega), hL1⟩ (Nat.lt_succ_self _) ⟨rfl, rfl, rfl, rfl, trivial⟩ (fun w hw => hw)
  · rw [bif_neg h52] at hL1
    have q53 := (of_decide_eq_false h52)
    refine TC.exit ?_
    refine TN.thenE ?_
    refine TN.thenE ?_
    rw [← hL1, elim_next] at hF
    try dsimp only at hF
    refine TN.blockH ?_
    refine TN.seq ?_
    refine TC.seq ?_
    refine TC.region ?_
    refine TL.op (yq (y_assign ev_c)) rfl rfl rfl ?_
    refine TL.op (yq (y_assign ev_c)) rfl rfl rfl ?_
    refine TL.nil ?_
    refine TN.seq ?_
    refine TC.ret ?_
    subst hF
    refine TN.cls (fun w hw => hw.nil 3 1) ?_
    exact TN.ret2 rfl (ev_t rfl) (ev_t rfl) (fun w' hw => ⟨(.slice none 0 0), rfl, Hp.sublist hw (.cons_cons _ (.cons _ .slnil))⟩)

set_option maxRecDepth 4000 in
set_option maxHeartbeats 1000000 in
theorem impl_IsMetric_ok (w : World) (vm : Value) (um : List Value) (m : List (List Int)) (hm : RII w vm um m)  :
    Calls Try.prog 45 ([(.agg #[vm])] : List Value).toArray w (Ret (.bool (F_impl_IsMetric m)) (Hp w [])) := by
  obtain ⟨rz, hF⟩ : ∃ rz, (F_impl_IsMetric m) = rz := ⟨_, rfl⟩
  rw [hF]
  unfold F_impl_IsMetric at hF
  have hlen_m := argT_len hm
  refine calls_tc Try.func45 rfl rfl rfl ?_
  change TC _ _ _ _ (Hp w []) [(0, (.agg #[vm]))]
  refine TC.seq ?_
  refine TC.region ?_
  refine TL.box (ev_t rfl) rfl (fun g0_0 => ?_)
  refine TL.op (yq (y_assign ev_c)) rfl rfl rfl ?_
  refine TL.nil ?_
  refine TN.seq ?_
  refine TC.seq ?_
  refine TC.seq ?_
  refine TC.region ?_
  refine TL.op (yq (y_ldagg (cs := [vm]) 0 (ev_t rfl) agg_29 rfl)) rfl rfl rfl ?_
  refine TL.op (y_call (vs := [(.agg #[vm]), (.bool false)]) (v := (.bool (F_impl_Metric_isTable m false))) en_60 ⟨(ev_t rfl), ev_c, trivial⟩ (fun w hw => impl_Metric_isTable_ok w vm um m ((rii_arg hm) w hw) false)) rfl rfl rfl ?_
  refine TL.op (yq (y_not (ev_t rfl))) rfl rfl rfl ?_
  refine TL.nil ?_
  refine TN.seq ?_
  refine TC.cond (b := !(F_impl_Metric_isTable m false)) (ev_t rfl) (fun h3 => ?_) (fun h3 => ?_)
  · rw [bif_pos h3] at hF
    have q4 := (not_t h3)
    refine TC.seq ?_
    refine TC.region ?_
    refine TL.op (yq (y_assign ev_c)) rfl rfl rfl ?_
    refine TL.nil ?_
    refine TN.seq ?_
    refine TC.ret ?_
    refine TN.thenR ?_
    subst hF
    exact TN.ret1 rfl (ev_t rfl) (fun w' hw => ⟨rfl, Hp.sublist hw (List.nil_sublist _)⟩)
  · rw [bif_neg h3] at hF
    have q4 := (isTable_t (not_f h3))
    refine TC.skip ?_
    refine TN.seq ?_
    refine TC.seq ?_
    refine TC.region ?_
    refine TL.op (yq (y_ldagg (cs := [vm]) 0 (ev_t rfl) agg_29 rfl)) rfl rfl rfl ?_
    refine TL.callr (ι := Value) (vs := [(.agg #[vm])]) (fun i => (.tuple #[i, (.bool ((F_impl_Metric_detour m).2))])) (fun i => [rowI 3 i ((F_impl_Metric_detour m).1)]) en_61 ⟨(ev_t rfl), trivial⟩ rfl (fun w hw => impl_Metric_detour_ok w vm um m ((rii_arg hm) w hw) (by first | assumption | omega | grind)) (fun r3_1 => ?_)
    refine TL.op (yq (y_move (ev_t rfl))) rfl rfl rfl ?_
    refine TL.op (yq (y_extract (ev_t rfl) rfl)) rfl rfl rfl ?_
    refine TL.op (yq (y_extract (ev_t rfl) rfl)) rfl rfl rfl ?_
    refine TL.op (yq (y_assign (ev_t rfl))) rfl rfl rfl ?_
    refine TL.op (yq (y_assign (ev_t rfl))) rfl rfl rfl ?_
    refine TL.nil ?_
    refine TN.seq ?_
    refine TC.seq ?_
    refine TC.region ?_
    refine TL.op (yq (y_move (ev_t rfl))) rfl rfl rfl ?_
    refine TL.op (yq (y_not (ev_t rfl))) rfl rfl rfl ?_
    refine TL.op (yq (y_assign (ev_t rfl))) rfl rfl rfl ?_
    refine TL.nil ?_
    refine TN.seq ?_
    refine TC.ret ?_
    subst hF
    exact TN.ret1 rfl (ev_t rfl) (fun w' hw => ⟨rfl, Hp.sublist hw (List.nil_sublist _)⟩)

end Go.Proofs.Ytgnikdpgndmldaa
namespace Go.Proofs.Ytgnikdpgndmldaa
set_option linter.unusedVariables false
set_option linter.unusedSimpArgs false
open Go Go.RowKit
set_option linter.unusedVariables false

set_option maxRecDepth 4000 in
set_option maxHeartbeats 1000000 in
theorem spec_l6Table_ok (w : World) (vm : Value) (um : List Value) (m : List (List Int)) (hm : RII w vm um m) (opn : Bool)  :
    Calls Try.prog 39 ([(.agg #[vm]), (.bool opn)] : List Value).toArray w (Ret (.bool (F_spec_l6Table m opn)) (Hp w [])) := by
  obtain ⟨rz, hF⟩ : ∃ rz, (F_spec_l6Table m opn) = rz := ⟨_, rfl⟩
  rw [hF]
  unfold F_spec_l6Table at hF
  have hlen_m := argT_len hm
  refine calls_tc Try.func39 rfl rfl rfl ?_
  change TC _ _ _ _ (Hp w []) [(0, (.agg #[vm])), (1, (.bool opn))]
  refine TC.seq ?_
  refine TC.region ?_
  refine TL.box (ev_t rfl) rfl (fun g0_0 => ?_)
  refine TL.op (yq (y_assign ev_c)) rfl rfl rfl ?_
  refine TL.nil ?_
  refine TN.seq ?_
  refine TC.seq ?_
  refine TC.region ?_
  refine TL.op (yq (y_fa (fa_29_0 g0_0) (ev_t rfl))) rfl rfl rfl ?_
  refine TL.op (yq (y_ldb 0 (ev_t rfl) one_22 rfl rfl)) rfl rfl rfl ?_
  refine TL.op (yq (y_len (ev_t rfl) Try.underlying22 (fun w hw => ((fun w hw => ((rii_arg hm) w hw).1) w hw).ln))) rfl rfl rfl ?_
  refine TL.op (yq (y_assign (ev_t rfl))) rfl rfl rfl ?_
  refine TL.nil ?_
  refine TN.seq ?_
  refine TC.seq ?_
  refine TC.seq ?_
  refine TC.region ?_
  refine TL.op (yq (y_move (ev_t rfl))) rfl rfl rfl ?_
  refine TL.op (y_call (vs := [(.int .i64 (m.length : Int)), (.int .i64 1), (.int .i64 6)]) (v := (.bool ((decide (1 ≤ (m.length : Int))) && (decide ((m.length : Int) ≤ 6))))) en_55 ⟨(ev_t rfl), ev_c, ev_c, trivial⟩ (fun w hw => spec_l1In_ok w (m.length : Int) 1 6)) rfl rfl rfl ?_
  refine TL.op (yq (y_not (ev_t rfl))) rfl rfl rfl ?_
  refine TL.nil ?_
  refine TN.seq ?_
  refine TC.cond (b := !((decide (1 ≤ (m.length : Int))) && (decide ((m.length : Int) ≤ 6)))) (ev_t rfl) (fun h49 => ?_) (fun h49 => ?_)
  · rw [bif_pos h49] at hF
    have q50 := ((and_f (not_t h49)).imp (fun h => (of_decide_eq_false h)) (fun h => (of_decide_eq_false h)))
    refine TC.seq ?_
    refine TC.region ?_
    refine TL.op (yq (y_assign ev_c)) rfl rfl rfl ?_
    refine TL.nil ?_
    refine TN.seq ?_
    refine TC.ret ?_
    refine TN.thenR ?_
    subst hF
    exact TN.ret1 rfl (ev_t rfl) (fun w' hw => ⟨rfl, Hp.sublist hw (List.nil_sublist _)⟩)
  · rw [bif_neg h49] at hF
    have q50 := (and_imp (and_t (not_f h49)) (fun h => (of_decide_eq_true h)) (fun h => (of_decide_eq_true h)))
    refine TC.skip ?_
    refine TN.seq ?_
    refine TC.seq ?_
    refine TC.seq ?_
    refine TC.region ?_
    refine TL.op (yq (y_assign ev_c)) rfl rfl rfl ?_
    refine TL.nil ?_
    refine TN.seq ?_
    refine TC.block ?_
    obtain ⟨c51, hc52⟩ : ∃ c, F_spec_l6Table_L1 m ((m.length - 0) + 1) 0 = c := ⟨_, rfl⟩
    rw [hc52] at hF
    refine TC.loop (ι := Nat × Nat) (fun (fu1, k6_1) => [(1, (.bool opn)), (2, (.pointer (some ⟨g0_0, 0, none⟩))), (5, (.int .i64 (m.length : Int))), (6, (.int .i64 (k6_1 : Int)))]) (fun (fu1, k6_1) => Hp w [.blk g0_0 29 [vm]]) (fun (fu1, k6_1) => (k6_1 ≤ m.length) ∧ (∀ j, j < k6_1 → (m.getD j []).length = m.length) ∧ m.length - k6_1 < fu1 ∧ F_spec_l6Table_L1 m fu1 k6_1 = c51) (fun (fu1, k6_1) => fu1) ((m.length - 0) + 1, 0) ⟨(by first | omega | (simp [-List.getD_eq_getElem?_getD] <;> omega)), (fun j hj => by omega), (by omega), hc52⟩ ⟨rfl, rfl, rfl, rfl, trivial⟩ (fun w hw => hw) ?_
    rintro ⟨fu1, k6_1⟩ hJ1
    obtain ⟨hi1_0, hi1_1, hmu1, hL1⟩ : (k6_1 ≤ m.length) ∧ (∀ j, j < k6_1 → (m.getD j []).length = m.length) ∧ m.length - k6_1 < fu1 ∧ F_spec_l6Table_L1 m fu1 k6_1 = c51 := hJ1
    change TC _ _ _ _ (Hp w [.blk g0_0 29 [vm]]) [(1, (.bool opn)), (2, (.pointer (some ⟨g0_0, 0, none⟩))), (5, (.int .i64 (m.length : Int))), (6, (.int .i64 (k6_1 : Int)))]
    obtain ⟨mf1, rfl⟩ : ∃ m, fu1 = m + 1 := ⟨fu1 - 1, by omega⟩
    rw [F_spec_l6Table_L1_s] at hL1
    refine TC.seq ?_
    refine TC.seq ?_
    refine TC.region ?_
    refine TL.op (yq (y_move (ev_t rfl))) rfl rfl rfl ?_
    refine TL.op (yq (y_move (ev_t rfl))) rfl rfl rfl ?_
    refine TL.op (yq (y_lss (ev_t rfl) (ev_t rfl))) rfl rfl rfl ?_
    refine TL.nil ?_
    refine TN.seq ?_
    refine TC.cond (b := decide ((k6_1 : Int) < (m.length : Int))) (ev_t rfl) (fun h53 => ?_) (fun h53 => ?_)
    · rw [bif_pos h53] at hL1
      have q54 := (of_decide_eq_true h53)
      refine TC.skip ?_
      refine TN.seq ?_
      refine TC.seq ?_
      refine TC.block ?_
      refine TC.seq ?_
      refine TC.region ?_
      refine TL.op (yq (y_fa (fa_29_0 g0_0) (ev_t rfl))) rfl rfl rfl ?_
      refine TL.op (yq (y_ldb 0 (ev_t rfl) one_22 rfl rfl)) rfl rfl rfl ?_
      refine TL.op (yq (y_move (ev_t rfl))) rfl rfl rfl ?_
      have hb55 : k6_1 < m.length := (by first | omega | (simp only [List.length_set, List.length_append, List.length_cons, List.length_nil, List.length_replicate]; omega) | (rw [sortI_length]; simp only [List.length_cons, List.length_nil]; omega) | (simp only [ByteArray.size_append]; omega))
      refine TL.op (yq (y_idx (k := k6_1) (ev_t rfl) (ev_t rfl) (by first | omega | simp) slT_22 (fun w hw => ((rii_arg hm) w hw).1) hb55)) rfl rfl rfl ?_
      have ha56 := hm.row (i := k6_1) hb55
      refine TL.op (yq (y_ldA (ev_t rfl) one_25 (rii_arg hm) hb55)) rfl rfl rfl ?_
      refine TL.op (yq (y_len (ev_t rfl) Try.underlying25 (fun w hw => ((ri_arg ha56) w hw).ln))) rfl rfl rfl ?_
      refine TL.op (yq (y_move (ev_t rfl))) rfl rfl rfl ?_
      refine TL.op (yq (y_neq (ev_t rfl) (ev_t rfl))) rfl rfl rfl ?_
      refine TL.nil ?_
      refine TN.seq ?_
      refine TC.cond (b := !decide (((m.getD k6_1 []).length : Int) = (m.length : Int))) (ev_t rfl) (fun h57 => ?_) (fun h57 => ?_)
      · rw [bif_pos h57] at hL1
        have q58 := (of_decide_eq_false (not_t h57))
        refine TC.seq ?_
        refine TC.region ?_
        refine TL.op (yq (y_assign ev_c)) rfl rfl rfl ?_
        refine TL.nil ?_
        refine TN.seq ?_
        refine TC.ret ?_
        refine TN.blockR ?_
        refine TN.thenR ?_
        refine TN.thenR ?_
        rw [← hL1, elim_ret] at hF
        refine TN.blockR ?_
        refine TN.thenR ?_
        subst hF
        exact TN.ret1 rfl (ev_t rfl) (fun w' hw => ⟨rfl, Hp.sublist hw (List.nil_sublist _)⟩)
      · rw [bif_neg h57] at hL1
        have q58 := (of_decide_eq_true (not_f h57))
        refine TC.skip ?_
        refine TN.blockN ?_
        refine TN.seq ?_
        refine TC.region ?_
        refine TL.op (yq (y_move (ev_t rfl))) rfl rfl rfl ?_
        refine TL.op (yq (y_add (ev_t rfl) ev_c (by unfold In64; constructor <;> omega))) rfl rfl rfl ?_
        refine TL.op (yq (y_assign (ev_t rfl))) rfl rfl rfl ?_
        refine TL.nil ?_
        exact TN.hand (mf1, (k6_1 + 1)) ⟨(by first | omega | (simp [-List.getD_eq_getElem?_getD] <;> omega)), (upto_succ hi1_1 (by omega)), (by omega), hL1⟩ (Nat.lt_succ_self _) ⟨rfl, rfl, rfl, rfl, trivial⟩ (fun w hw => hw)
    · rw [bif_neg h53] at hL1
      have q54 := (of_decide_eq_false h53)
      refine TC.exit ?_
      refine TN.thenE ?_
      refine TN.thenE ?_
      rw [← hL1, elim_next] at hF
      try dsimp only at hF
      refine TN.blockH ?_
      refine TN.seq ?_
      refine TC.seq ?_
      refine TC.seq ?_
      refine TC.region ?_
      refine TL.op (yq (y_assign ev_c)) rfl rfl rfl ?_
      refine TL.nil ?_
      refine TN.seq ?_
      refine TC.block ?_
      obtain ⟨c59, hc60⟩ : ∃ c, F_spec_l6Table_L2 m opn ((m.length - 0) + 1) 0 = c := ⟨_, rfl⟩
      rw [hc60] at hF
      refine TC.loop (ι := Nat × Nat) (fun (fu2, k7_2) => [(1, (.bool opn)), (2, (.pointer (some ⟨g0_0, 0, none⟩))), (5, (.int .i64 (m.length : Int))), (7, (.int .i64 (k7_2 : Int)))]) (fun (fu2, k7_2) => Hp w [.blk g0_0 29 [vm]]) (fun (fu2, k7_2) => (k7_2 ≤ m.length) ∧ m.length - k7_2 < fu2 ∧ F_spec_l6Table_L2 m opn fu2 k7_2 = c59) (fun (fu2, k7_2) => fu2) ((m.length - 0) + 1, 0) ⟨(by first | omega | (simp [-List.getD_eq_getElem?_getD] <;> omega)), (by omega), hc60⟩ ⟨rfl, rfl, rfl, rfl, trivial⟩ (fun w hw => hw) ?_
      rintro ⟨fu2, k7_2⟩ hJ2
      obtain ⟨hi2_0, hmu2, hL2⟩ : (k7_2 ≤ m.length) ∧ m.length - k7_2 < fu2 ∧ F_spec_l6Table_L2 m opn fu2 k7_2 = c59 := hJ2
      change TC _ _ _ _ (Hp w [.blk g0_0 29 [vm]]) [(1, (.bool opn)), (2, (.pointer (some ⟨g0_0, 0, none⟩))), (5, (.int .i64 (m.length : Int))), (7, (.int .i64 (k7_2 : Int)))]
      obtain ⟨mf2, rfl⟩ : ∃ m, fu2 = m + 1 := ⟨fu2 - 1, by omega⟩
      rw [F_spec_l6Table_L2_s] at hL2
      have hrw := hi1_1 k7_2
      refine TC.seq ?_
      refine TC.seq ?_
      refine TC.region ?_
      refine TL.op (yq (y_move (ev_t rfl))) rfl rfl rfl ?_
      refine TL.op (yq (y_move (ev_t rfl))) rfl rfl rfl ?_
      refine TL.op (yq (y_lss (ev_t rfl) (ev_t rfl))) rfl rfl rfl ?_
      refine TL.nil ?_
      refine TN.seq ?_
      refine TC.cond (b := decide ((k7_2 : Int) < (m.length : Int))) (ev_t rfl) (fun h61 => ?_) (fun h61 => ?_)
      · rw [bif_pos h61] at hL2
        have q62 := (of_decide_eq_true h61)
        refine TC.skip ?_
        refine TN.seq ?_
        refine TC.seq ?_
        refine TC.block ?_
        refine TC.seq ?_
        refine TC.region ?_
        refine TL.op (yq (y_assign ev_c)) rfl rfl rfl ?_
        refine TL.nil ?_
        refine TN.seq ?_
        refine TC.block ?_
        obtain ⟨c63, hc64⟩ : ∃ c, F_spec_l6Table_L3 m opn k7_2 ((m.length - 0) + 1) 0 = c := ⟨_, rfl⟩
        rw [hc64] at hL2
        refine TC.loop (ι := Nat × Nat) (fun (fu3, k8_3) => [(1, (.bool opn)), (2, (.pointer (some ⟨g0_0, 0, none⟩))), (5, (.int .i64 (m.length : Int))), (7, (.int .i64 (k7_2 : Int))), (8, (.int .i64 (k8_3 : Int)))]) (fun (fu3, k8_3) => Hp w [.blk g0_0 29 [vm]]) (fun (fu3, k8_3) => (k8_3 ≤ m.length) ∧ m.length - k8_3 < fu3 ∧ F_spec_l6Table_L3 m opn k7_2 fu3 k8_3 = c63) (fun (fu3, k8_3) => fu3) ((m.length - 0) + 1, 0) ⟨(by first | omega | (simp [-List.getD_eq_getElem?_getD] <;> omega)), (by omega), hc64⟩ ⟨rfl, rfl, rfl, rfl, rfl, trivial⟩ (fun w hw => hw) ?_
        rintro ⟨fu3, k8_3⟩ hJ3
        obtain ⟨hi3_0, hmu3, hL3⟩ : (k8_3 ≤ m.length) ∧ m.length - k8_3 < fu3 ∧ F_spec_l6Table_L3 m opn k7_2 fu3 k8_3 = c63 := hJ3
        change TC _ _ _ _ (Hp w [.blk g0_0 29 [vm]]) [(1, (.bool opn)), (2, (.pointer (some ⟨g0_0, 0, none⟩))), (5, (.int .i64 (m.length : Int))), (7, (.int .i64 (k7_2 : Int))), (8, (.int .i64 (k8_3 : Int)))]
        obtain ⟨mf3, rfl⟩ : ∃ m, fu3 = m + 1 := ⟨fu3 - 1, by omega⟩
        rw [F_spec_l6Table_L3_s] at hL3
        have hrw2 := hi1_1 k8_3
        refine TC.seq ?_
        refine TC.seq ?_
        refine TC.region ?_
        refine TL.op (yq (y_move (ev_t rfl))) rfl rfl rfl ?_
        refine TL.op (yq (y_move (ev_t rfl))) rfl rfl rfl ?_
        refine TL.op (yq (y_lss (ev_t rfl) (ev_t rfl))) rfl rfl rfl ?_
        refine TL.nil ?_
        refine TN.seq ?_
        refine TC.cond (b := decide ((k8_3 : Int) < (m.length : Int))) (ev_t rfl) (fun h65 => ?_) (fun h65 => ?_)
        · rw [bif_pos h65] at hL3
          have q66 := (of_decide_eq_true h65)
          refine TC.skip ?_
          refine TN.seq ?_
          refine TC.seq ?_
          refine TC.block ?_
          refine TC.seq ?_
          refine TC.region ?_
          refine TL.op (yq (y_fa (fa_29_0 g0_0) (ev_t rfl))) rfl rfl rfl ?_
          refine TL.op (yq (y_ldb 0 (ev_t rfl) one_22 rfl rfl)) rfl rfl rfl ?_
          refine TL.op (yq (y_move (ev_t rfl))) rfl rfl rfl ?_
          have hb67 : k7_2 < m.length := (by first | omega | (simp only [List.length_set, List.length_append, List.length_cons, List.length_nil, List.length_replicate]; omega) | (rw [sortI_length]; simp only [List.length_cons, List.length_nil]; omega) | (simp only [ByteArray.size_append]; omega))
          refine TL.op (yq (y_idx (k := k7_2) (ev_t rfl) (ev_t rfl) (by first | omega | simp) slT_22 (fun w hw => ((rii_arg hm) w hw).1) hb67)) rfl rfl rfl ?_
          have ha68 := hm.row (i := k7_2) hb67
          refine TL.op (yq (y_ldA (ev_t rfl) one_25 (rii_arg hm) hb67)) rfl rfl rfl ?_
          refine TL.op (yq (y_move (ev_t rfl))) rfl rfl rfl ?_
          have hb69 : k8_3 < (m.getD k7_2 []).length := (by first | omega | (simp only [List.length_set, List.length_append, List.length_cons, List.length_nil, List.length_replicate]; omega) | (rw [sortI_length]; simp only [List.length_cons, List.length_nil]; omega) | (simp only [ByteArray.size_append]; omega))
          refine TL.op (yq (y_idx (k := k8_3) (ev_t rfl) (ev_t rfl) (by first | omega | simp) slT_25 (ri_arg ha68) hb69)) rfl rfl rfl ?_
          refine TL.op (yq (y_ldi (ev_t rfl) one_3 (ri_arg ha68) hb69)) rfl rfl rfl ?_
          refine TL.op (yq (y_assign (ev_t rfl))) rfl rfl rfl ?_
          refine TL.nil ?_
          refine TN.seq ?_
          refine TC.seq ?_
          refine TC.region ?_
          refine TL.op (yq (y_move (ev_t rfl))) rfl rfl rfl ?_
          refine TL.op (yq (y_fa (fa_29_0 g0_0) (ev_t rfl))) rfl rfl rfl ?_
          refine TL.op (yq (y_ldb 0 (ev_t rfl) one_22 rfl rfl)) rfl rfl rfl ?_
          refine TL.op (yq (y_move (ev_t rfl))) rfl rfl rfl ?_
          have hb70 : k8_3 < m.length := (by first | omega | (simp only [List.length_set, List.length_append, List.length_cons, List.length_nil, List.length_replicate]; omega) | (rw [sortI_length]; simp only [List.length_cons, List.length_nil]; omega) | (simp only [ByteArray.size_append]; omega))
          refine TL.op (yq (y_idx (k := k8_3) (ev_t rfl) (ev_t rfl) (by first | omega | simp) slT_22 (fun w hw => ((rii_arg hm) w hw).1) hb70)) rfl rfl rfl ?_
          have ha71 := hm.row (i := k8_3) hb70
          refine TL.op (yq (y_ldA (ev_t rfl) one_25 (rii_arg hm) hb70)) rfl rfl rfl ?_
          refine TL.op (yq (y_move (ev_t rfl))) rfl rfl rfl ?_
          have hb72 : k7_2 < (m.getD k8_3 []).length := (by first | omega | (simp only [List.length_set, List.length_append, List.length_cons, List.length_nil, List.length_replicate]; omega) | (rw [sortI_length]; simp only [List.length_cons, List.length_nil]; omega) | (simp only [ByteArray.size_append]; omega))
          refine TL.op (yq (y_idx (k := k7_2) (ev_t rfl) (ev_t rfl) (by first | omega | simp) slT_25 (ri_arg ha71) hb72)) rfl rfl rfl ?_
          refine TL.op (yq (y_ldi (ev_t rfl) one_3 (ri_arg ha71) hb72)) rfl rfl rfl ?_
          refine TL.op (yq (y_neq (ev_t rfl) (ev_t rfl))) rfl rfl rfl ?_
          refine TL.op (yq (y_move (ev_t rfl))) rfl rfl rfl ?_
          refine TL.opw (w_f rfl rfl rfl) (fun hg => yq (y_move (ev_t rfl))) rfl rfl ?_
          refine TL.opw (w_f rfl rfl rfl) (fun hg => yq (y_move (ev_t rfl))) rfl rfl ?_
          refine TL.opw (w_f rfl rfl rfl) (fun hg => yq (y_eql (ev_g rfl hg) (ev_g rfl hg))) rfl rfl ?_
          refine TL.opw (w_f rfl rfl rfl) (fun hg => yq (y_move (ev_g rfl hg))) rfl rfl ?_
          refine TL.opw (w_gt rfl rfl rfl) (fun hg => yq (y_move (ev_t rfl))) rfl rfl ?_
          refine TL.opw (w_gt rfl rfl rfl) (fun hg => yq (y_neq (ev_g rfl hg) ev_c)) rfl rfl ?_
          refine TL.opw (w_f rfl rfl rfl) (fun hg => yq (y_and (ev_g rfl hg) (fun hq => (ev_g rfl (gand hg hq))))) rfl rfl ?_
          refine TL.op (yq (y_or (ev_t rfl) (fun hq => (ev_g rfl hq)))) rfl rfl rfl ?_
          refine TL.op (yq (y_move (ev_t rfl))) rfl rfl rfl ?_
          refine TL.opw (w_f rfl rfl rfl) (fun hg => yq (y_move (ev_t rfl))) rfl rfl ?_
          refine TL.opw (w_f rfl rfl rfl) (fun hg => yq (y_move (ev_t rfl))) rfl rfl ?_
          refine TL.opw (w_f rfl rfl rfl) (fun hg => yq (y_neq (ev_g rfl hg) (ev_g rfl hg))) rfl rfl ?_
          refine TL.opw (w_f rfl rfl rfl) (fun hg => yq (y_move (ev_g rfl hg))) rfl rfl ?_
          refine TL.opw (w_gt rfl rfl rfl) (fun hg => yq (y_move (ev_t rfl))) rfl rfl ?_
          refine TL.opw (w_gt rfl rfl rfl) (fun hg => y_call (vs := [(.int .i64 ((m.getD k7_2 []).getD k8_3 0)), (.int .i64 1), (.int .i64 99)]) (v := (.bool ((decide (1 ≤ ((m.getD k7_2 []).getD k8_3 0))) && (decide (((m.getD k7_2 []).getD k8_3 0) ≤ 99))))) en_55 ⟨(ev_g rfl hg), ev_c, ev_c, trivial⟩ (fun w hw => spec_l1In_ok w ((m.getD k7_2 []).getD k8_3 0) 1 99)) rfl rfl ?_
          refine TL.opw (w_gt rfl rfl rfl) (fun hg => yq (y_not (ev_g rfl hg))) rfl rfl ?_
          refine TL.opw (w_f rfl rfl rfl) (fun hg => yq (y_and (ev_g rfl hg) (fun hq => (ev_g rfl (gand hg hq))))) rfl rfl ?_
          refine TL.opw (w_f rfl rfl rfl) (fun hg => yq (y_move (ev_g rfl hg))) rfl rfl ?_
          refine TL.opw (w_gt rfl rfl rfl) (fun hg => yq (y_move (ev_t rfl))) rfl rfl ?_
          refine TL.opw (w_gt rfl rfl rfl) (fun hg => yq (y_move (ev_g rfl hg))) rfl rfl ?_
          refine TL.opw (w_gt rfl rfl rfl) (fun hg => yq (y_move (ev_t rfl))) rfl rfl ?_
          refine TL.opw (w_gt rfl rfl rfl) (fun hg => yq (y_eql (ev_g rfl hg) ev_c)) rfl rfl ?_
          refine TL.opw (w_gt rfl rfl rfl) (fun hg => yq (y_and (ev_g rfl hg) (fun hq => (ev_g rfl (gand hg hq))))) rfl rfl ?_
          refine TL.opw (w_gt rfl rfl rfl) (fun hg => yq (y_not (ev_g rfl hg))) rfl rfl ?_
          refine TL.opw (w_f rfl rfl rfl) (fun hg => yq (y_and (ev_g rfl hg) (fun hq => (ev_g rfl (gand hg hq))))) rfl rfl ?_
          refine TL.op (yq (y_or (ev_t rfl) (fun hq => (ev_g rfl hq)))) rfl rfl rfl ?_
          refine TL.nil ?_
          refine TN.seq ?_
          refine TC.cond (b := (((!decide (((m.getD k7_2 []).getD k8_3 0) = ((m.getD k8_3 []).getD k7_2 0))) || ((decide ((k7_2 : Int) = (k8_3 : Int))) && (!decide (((m.getD k7_2 []).getD k8_3 0) = 0)))) || (((!decide ((k7_2 : Int) = (k8_3 : Int))) && (!((decide (1 ≤ ((m.getD k7_2 []).getD k8_3 0))) && (decide (((m.getD k7_2 []).getD k8_3 0) ≤ 99))))) && (!(opn && (decide (((m.getD k7_2 []).getD k8_3 0) = -1))))))) (ev_t rfl) (fun h73 => ?_) (fun h73 => ?_)
          · rw [bif_pos h73] at hL3
            have q74 := ((or_t h73).imp (fun h => ((or_t h).imp (fun h => (of_decide_eq_false (not_t h))) (fun h => (and_imp (and_t h) (fun h => (of_decide_eq_true h)) (fun h => (of_decide_eq_false (not_t h))))))) (fun h => (and_imp (and_t h) (fun h => (and_imp (and_t h) (fun h => (of_decide_eq_false (not_t h))) (fun h => ((and_f (not_t h)).imp (fun h => (of_decide_eq_false h)) (fun h => (of_decide_eq_false h)))))) (fun h => ((and_f (not_t h)).imp (fun h => h) (fun h => (of_decide_eq_false h)))))))
            refine TC.seq ?_
            refine TC.region ?_
            refine TL.op (yq (y_assign ev_c)) rfl rfl rfl ?_
            refine TL.nil ?_
            refine TN.seq ?_
            refine TC.ret ?_
            refine TN.blockR ?_
            refine TN.thenR ?_
            refine TN.thenR ?_
            rw [← hL3, elim_ret] at hL2
            refine TN.blockR ?_
            refine TN.blockR ?_
            refine TN.thenR ?_
            refine TN.thenR ?_
            rw [← hL2, elim_ret] at hF
            refine TN.blockR ?_
            refine TN.thenR ?_
            subst hF
            exact TN.ret1 rfl (ev_t rfl) (fun w' hw => ⟨rfl, Hp.sublist hw (List.nil_sublist _)⟩)
          · rw [bif_neg h73] at hL3
            have q74 := (and_imp (or_f h73) (fun h => (and_imp (or_f h) (fun h => (of_decide_eq_true (not_f h))) (fun h => ((and_f h).imp (fun h => (of_decide_eq_false h)) (fun h => (of_decide_eq_true (not_f h))))))) (fun h => ((and_f h).imp (fun h => ((and_f h).imp (fun h => (of_decide_eq_true (not_f h))) (fun h => (and_imp (and_t (not_f h)) (fun h => (of_decide_eq_true h)) (fun h => (of_decide_eq_true h)))))) (fun h => (and_imp (and_t (not_f h)) (fun h => h) (fun h => (of_decide_eq_true h)))))))
            refine TC.skip ?_
            refine TN.blockN ?_
            refine TN.seq ?_
            refine TC.region ?_
            refine TL.op (yq (y_move (ev_t rfl))) rfl rfl rfl ?_
            refine TL.op (yq (y_add (ev_t rfl) ev_c (by unfold In64; constructor <;> omega))) rfl rfl rfl ?_
            refine TL.op (yq (y_assign (ev_t rfl))) rfl rfl rfl ?_
            refine TL.nil ?_
            exact TN.hand (mf3, (k8_3 + 1)) ⟨(by first | omega | (simp [-List.getD_eq_getElem?_getD] <;> omega)), (by omega), hL3⟩ (Nat.lt_succ_self _) ⟨rfl, rfl, rfl, rfl, rfl, trivial⟩ (fun w hw => hw)
        · rw [bif_neg h65] at hL3
          have q66 := (of_decide_eq_false h65)
          refine TC.exit ?_
          refine TN.thenE ?_
          refine TN.thenE ?_
          rw [← hL3, elim_next] at hL2
          try dsimp only at hL2
          refine TN.blockH ?_
          refine TN.blockN ?_
          refine TN.seq ?_
          refine TC.region ?_
          refine TL.op (yq (y_move (ev_t rfl))) rfl rfl rfl ?_
          refine TL.op (yq (y_add (ev_t rfl) ev_c (by unfold In64; constructor <;> omega))) rfl rfl rfl ?_
          refine TL.op (yq (y_assign (ev_t rfl))) rfl rfl rfl ?_
          refine TL.nil ?_
          exact TN.hand (mf2, (k7_2 + 1)) ⟨(by first | omega | (simp [-List.getD_eq_getElem?_getD] <;> omega)), (by omega), hL2⟩ (Nat.lt_succ_self _) ⟨rfl, rfl, rfl, rfl, trivial⟩ (fun w hw => hw)
      · rw [bif_neg h61] at hL2
        have q62 := (of_decide_eq_false h61)
        refine TC.exit ?_
        refine TN.thenE ?_
        refine TN.thenE ?_
        rw [← hL2, elim_next] at hF
        try dsimp only at hF
        refine TN.blockH ?_
        refine TN.seq ?_
        refine TC.seq ?_
        refine TC.region ?_
        refine TL.op (yq (y_assign ev_c)) rfl rfl rfl ?_
        refine TL.nil ?_
        refine TN.seq ?_
        refine TC.ret ?_
        subst hF
        exact TN.ret1 rfl (ev_t rfl) (fun w' hw => ⟨rfl, Hp.sublist hw (List.nil_sublist _)⟩)

set_option maxRecDepth 4000 in
set_option maxHeartbeats 1000000 in
theorem spec_l6Detour_ok (w : World) (vm : Value) (um : List Value) (m : List (List Int)) (hm : RII w vm um m) (hp0 : Tab m) :
    Calls Try.prog 40 ([(.agg #[vm])] : List Value).toArray w (fun e w' => ∃ i : Value, e = .returned i ∧ Hp w [rowI 3 i (F_spec_l6Detour m)] w') := by
  obtain ⟨rz, hF⟩ : ∃ rz, (F_spec_l6Detour m) = rz := ⟨_, rfl⟩
  rw [hF]
  unfold F_spec_l6Detour at hF
  have hlen_m := argT_len hm
  refine calls_tc Try.func40 rfl rfl rfl ?_
  change TC _ _ _ _ (Hp w []) [(0, (.agg #[vm]))]
  refine TC.seq ?_
  refine TC.region ?_
  refine TL.box (ev_t rfl) rfl (fun g0_0 => ?_)
  refine TL.op (yq (y_assign ev_c)) rfl rfl rfl ?_
  refine TL.nil ?_
  refine TN.seq ?_
  refine TC.seq ?_
  refine TC.region ?_
  refine TL.op (yq (y_fa (fa_29_0 g0_0) (ev_t rfl))) rfl rfl rfl ?_
  refine TL.op (yq (y_ldb 0 (ev_t rfl) one_22 rfl rfl)) rfl rfl rfl ?_
  refine TL.op (yq (y_len (ev_t rfl) Try.underlying22 (fun w hw => ((fun w hw => ((rii_arg hm) w hw).1) w hw).ln))) rfl rfl rfl ?_
  refine TL.op (yq (y_assign (ev_t rfl))) rfl rfl rfl ?_
  refine TL.nil ?_
  refine TN.seq ?_
  refine TC.seq ?_
  refine TC.seq ?_
  refine TC.region ?_
  refine TL.op (yq (y_assign ev_c)) rfl rfl rfl ?_
  refine TL.nil ?_
  refine TN.seq ?_
  refine TC.block ?_
  obtain ⟨c63, hc64⟩ : ∃ c, F_spec_l6Detour_L1 m ((m.length - 0) + 1) 0 = c := ⟨_, rfl⟩
  rw [hc64] at hF
  refine TC.loop (ι := Nat × Nat) (fun (fu1, x1) => [(1, (.pointer (some ⟨g0_0, 0, none⟩))), (3, (.int .i64 (m.length : Int))), (4, (.int .i64 (x1 : Int)))]) (fun (fu1, x1) => Hp w [.blk g0_0 29 [vm]]) (fun (fu1, x1) => (x1 ≤ m.length) ∧ m.length - x1 < fu1 ∧ F_spec_l6Detour_L1 m fu1 x1 = c63) (fun (fu1, x1) => fu1) ((m.length - 0) + 1, 0) ⟨(by first | omega | (simp [-List.getD_eq_getElem?_getD] <;> omega)), (by omega), hc64⟩ ⟨rfl, rfl, rfl, trivial⟩ (fun w hw => hw) ?_
  rintro ⟨fu1, x1⟩ hJ1
  obtain ⟨hi1_0, hmu1, hL1⟩ : (x1 ≤ m.length) ∧ m.length - x1 < fu1 ∧ F_spec_l6Detour_L1 m fu1 x1 = c63 := hJ1
  change TC _ _ _ _ (Hp w [.blk g0_0 29 [vm]]) [(1, (.pointer (some ⟨g0_0, 0, none⟩))), (3, (.int .i64 (m.length : Int))), (4, (.int .i64 (x1 : Int)))]
  obtain ⟨mf1, rfl⟩ : ∃ m, fu1 = m + 1 := ⟨fu1 - 1, by omega⟩
  rw [F_spec_l6Detour_L1_s] at hL1
  have hrw := hp0.rows x1
  refine TC.seq ?_
  refine TC.seq ?_
  refine TC.region ?_
  refine TL.op (yq (y_move (ev_t rfl))) rfl rfl rfl ?_
  refine TL.op (yq (y_move (ev_t rfl))) rfl rfl rfl ?_
  refine TL.op (yq (y_lss (ev_t rfl) (ev_t rfl))) rfl rfl rfl ?_
  refine TL.nil ?_
  refine TN.seq ?_
  refine TC.cond (b := decide ((x1 : Int) < (m.length : Int))) (ev_t rfl) (fun h65 => ?_) (fun h65 => ?_)
  · rw [bif_pos h65] at hL1
    have q66 := (of_decide_eq_true h65)
    refine TC.skip ?_
    refine TN.seq ?_
    refine TC.seq ?_
    refine TC.block ?_
    refine TC.seq ?_
    refine TC.region ?_
    refine TL.op (yq (y_assign ev_c)) rfl rfl rfl ?_
    refine TL.nil ?_
    refine TN.seq ?_
    refine TC.block ?_
    obtain ⟨c67, hc68⟩ : ∃ c, F_spec_l6Detour_L2 m x1 ((m.length - 0) + 1) 0 = c := ⟨_, rfl⟩
    rw [hc68] at hL1
    refine TC.loop (ι := Nat × Nat) (fun (fu2, y2) => [(1, (.pointer (some ⟨g0_0, 0, none⟩))), (3, (.int .i64 (m.length : Int))), (4, (.int .i64 (x1 : Int))), (5, (.int .i64 (y2 : Int)))]) (fun (fu2, y2) => Hp w [.blk g0_0 29 [vm]]) (fun (fu2, y2) => (y2 ≤ m.length) ∧ m.length - y2 < fu2 ∧ F_spec_l6Detour_L2 m x1 fu2 y2 = c67) (fun (fu2, y2) => fu2) ((m.length - 0) + 1, 0) ⟨(by first | omega | (simp [-List.getD_eq_getElem?_getD] <;> omega)), (by omega), hc68⟩ ⟨rfl, rfl, rfl, rfl, trivial⟩ (fun w hw => hw) ?_
    rintro ⟨fu2, y2⟩ hJ2
    obtain ⟨hi2_0, hmu2, hL2⟩ : (y2 ≤ m.length) ∧ m.length - y2 < fu2 ∧ F_spec_l6Detour_L2 m x1 fu2 y2 = c67 := hJ2
    change TC _ _ _ _ (Hp w [.blk g0_0 29 [vm]]) [(1, (.pointer (some ⟨g0_0, 0, none⟩))), (3, (.int .i64 (m.length : Int))), (4, (.int .i64 (x1 : Int))), (5, (.int .i64 (y2 : Int)))]
    obtain ⟨mf2, rfl⟩ : ∃ m, fu2 = m + 1 := ⟨fu2 - 1, by omega⟩
    rw [F_spec_l6Detour_L2_s] at hL2
    have hrw2 := hp0.rows y2
    refine TC.seq ?_
    refine TC.seq ?_
    refine TC.region ?_
    refine TL.op (yq (y_move (ev_t rfl))) rfl rfl rfl ?_
    refine TL.op (yq (y_move (ev_t rfl))) rfl rfl rfl ?_
    refine TL.op (yq (y_lss (ev_t rfl) (ev_t rfl))) rfl rfl rfl ?_
    refine TL.nil ?_
    refine TN.seq ?_
    refine TC.cond (b := decide ((y2 : Int) < (m.length : Int))) (ev_t rfl) (fun h69 => ?_) (fun h69 => ?_)
    · rw [bif_pos h69] at hL2
      have q70 := (of_decide_eq_true h69)
      refine TC.skip ?_
      refine TN.seq ?_
      refine TC.seq ?_
      refine TC.block ?_
      refine TC.seq ?_
      refine TC.region ?_
      refine TL.op (yq (y_assign ev_c)) rfl rfl rfl ?_
      refine TL.nil ?_
      refine TN.seq ?_
      refine TC.block ?_
      obtain ⟨c71, hc72⟩ : ∃ c, F_spec_l6Detour_L3 m x1 y2 ((m.length - 0) + 1) 0 = c := ⟨_, rfl⟩
      rw [hc72] at hL2
      refine TC.loop (ι := Nat × Nat) (fun (fu3, z3) => [(1, (.pointer (some ⟨g0_0, 0, none⟩))), (3, (.int .i64 (m.length : Int))), (4, (.int .i64 (x1 : Int))), (5, (.int .i64 (y2 : Int))), (6, (.int .i64 (z3 : Int)))]) (fun (fu3, z3) => Hp w [.blk g0_0 29 [vm]]) (fun (fu3, z3) => (z3 ≤ m.length) ∧ m.length - z3 < fu3 ∧ F_spec_l6Detour_L3 m x1 y2 fu3 z3 = c71) (fun (fu3, z3) => fu3) ((m.length - 0) + 1, 0) ⟨(by first | omega | (simp [-List.getD_eq_getElem?_getD] <;> omega)), (by omega), hc72⟩ ⟨rfl, rfl, rfl, rfl, rfl, trivial⟩ (fun w hw => hw) ?_
      rintro ⟨fu3, z3⟩ hJ3
      obtain ⟨hi3_0, hmu3, hL3⟩ : (z3 ≤ m.length) ∧ m.length - z3 < fu3 ∧ F_spec_l6Detour_L3 m x1 y2 fu3 z3 = c71 := hJ3
      change TC _ _ _ _ (Hp w [.blk g0_0 29 [vm]]) [(1, (.pointer (some ⟨g0_0, 0, none⟩))), (3, (.int .i64 (m.length : Int))), (4, (.int .i64 (x1 : Int))), (5, (.int .i64 (y2 : Int))), (6, (.int .i64 (z3 : Int)))]
      obtain ⟨mf3, rfl⟩ : ∃ m, fu3 = m + 1 := ⟨fu3 - 1, by omega⟩
      rw [F_spec_l6Detour_L3_s] at hL3
      have he1 := hp0.el x1 y2
      have he2 := hp0.el y2 z3
      refine TC.seq ?_
      refine TC.seq ?_
      refine TC.region ?_
      refine TL.op (yq (y_move (ev_t rfl))) rfl rfl rfl ?_
      refine TL.op (yq (y_move (ev_t rfl))) rfl rfl rfl ?_
      refine TL.op (yq (y_lss (ev_t rfl) (ev_t rfl))) rfl rfl rfl ?_
      refine TL.nil ?_
      refine TN.seq ?_
      refine TC.cond (b := decide ((z3 : Int) < (m.length : Int))) (ev_t rfl) (fun h73 => ?_) (fun h73 => ?_)
      · rw [bif_pos h73] at hL3
        have q74 := (of_decide_eq_true h73)
        refine TC.skip ?_
        refine TN.seq ?_
        refine TC.seq ?_
        refine TC.block ?_
        refine TC.seq ?_
        refine TC.regionQ (by kernel_rfl) (by kernel_rfl) dr_hp ?_
        refine TQ.op (yq (y_fa (fa_29_0 g0_0) (ev_t rfl))) rfl rfl rfl ?_
        refine TQ.op (yq (y_ldb 0 (ev_t rfl) one_22 rfl rfl)) rfl rfl rfl ?_
        refine TQ.op (yq (y_move (ev_t rfl))) rfl rfl rfl ?_
        have hb75 : x1 < m.length := (by first | omega | (simp only [List.length_set, List.length_append, List.length_cons, List.length_nil, List.length_replicate]; omega) | (rw [sortI_length]; simp only [List.length_cons, List.length_nil]; omega) | (simp only [ByteArray.size_append]; omega))
        refine TQ.op (yq (y_idx (k := x1) (ev_t rfl) (ev_t rfl) (by first | omega | simp) slT_22 (fun w hw => ((rii_arg hm) w hw).1) hb75)) rfl rfl rfl ?_
        have ha76 := hm.row (i := x1) hb75
        refine TQ.op (yq (y_ldA (ev_t rfl) one_25 (rii_arg hm) hb75)) rfl rfl rfl ?_
        refine TQ.op (yq (y_move (ev_t rfl))) rfl rfl rfl ?_
        have hb77 : z3 < (m.getD x1 []).length := (by first | omega | (simp only [List.length_set, List.length_append, List.length_cons, List.length_nil, List.length_replicate]; omega) | (rw [sortI_length]; simp only [List.length_cons, List.length_nil]; omega) | (simp only [ByteArray.size_append]; omega))
        refine TQ.op (yq (y_idx (k := z3) (ev_t rfl) (ev_t rfl) (by first | omega | simp) slT_25 (ri_arg ha76) hb77)) rfl rfl rfl ?_
        refine TQ.op (yq (y_ldi (ev_t rfl) one_3 (ri_arg ha76) hb77)) rfl rfl rfl ?_
        refine TQ.op (yq (y_fa (fa_29_0 g0_0) (ev_t rfl))) rfl rfl rfl ?_
        refine TQ.op (yq (y_ldb 0 (ev_t rfl) one_22 rfl rfl)) rfl rfl rfl ?_
        refine TQ.op (yq (y_move (ev_t rfl))) rfl rfl rfl ?_
        have hb78 : x1 < m.length := (by first | omega | (simp only [List.length_set, List.length_append, List.length_cons, List.length_nil, List.length_replicate]; omega) | (rw [sortI_length]; simp only [List.length_cons, List.length_nil]; omega) | (simp only [ByteArray.size_append]; omega))
        refine TQ.op (yq (y_idx (k := x1) (ev_t rfl) (ev_t rfl) (by first | omega | simp) slT_22 (fun w hw => ((rii_arg hm) w hw).1) hb78)) rfl rfl rfl ?_
        have ha79 := hm.row (i := x1) hb78
        refine TQ.op (yq (y_ldA (ev_t rfl) one_25 (rii_arg hm) hb78)) rfl rfl rfl ?_
        refine TQ.op (yq (y_move (ev_t rfl))) rfl rfl rfl ?_
        have hb80 : y2 < (m.getD x1 []).length := (by first | omega | (simp only [List.length_set, List.length_append, List.length_cons, List.length_nil, List.length_replicate]; omega) | (rw [sortI_length]; simp only [List.length_cons, List.length_nil]; omega) | (simp only [ByteArray.size_append]; omega))
        refine TQ.op (yq (y_idx (k := y2) (ev_t rfl) (ev_t rfl) (by first | omega | simp) slT_25 (ri_arg ha79) hb80)) rfl rfl rfl ?_
        refine TQ.op (yq (y_ldi (ev_t rfl) one_3 (ri_arg ha79) hb80)) rfl rfl rfl ?_
        refine TQ.op (yq (y_fa (fa_29_0 g0_0) (ev_t rfl))) rfl rfl rfl ?_
        refine TQ.op (yq (y_ldb 0 (ev_t rfl) one_22 rfl rfl)) rfl rfl rfl ?_
        refine TQ.op (yq (y_move (ev_t rfl))) rfl rfl rfl ?_
        have hb81 : y2 < m.length := (by first | omega | (simp only [List.length_set, List.length_append, List.length_cons, List.length_nil, List.length_replicate]; omega) | (rw [sortI_length]; simp only [List.length_cons, List.length_nil]; omega) | (simp only [ByteArray.size_append]; omega))
        refine TQ.op (yq (y_idx (k := y2) (ev_t rfl) (ev_t rfl) (by first | omega | simp) slT_22 (fun w hw => ((rii_arg hm) w hw).1) hb81)) rfl rfl rfl ?_
        have ha82 := hm.row (i := y2) hb81
        refine TQ.op (yq (y_ldA (ev_t rfl) one_25 (rii_arg hm) hb81)) rfl rfl rfl ?_
        refine TQ.op (yq (y_move (ev_t rfl))) rfl rfl rfl ?_
        have hb83 : z3 < (m.getD y2 []).length := (by first | omega | (simp only [List.length_set, List.length_append, List.length_cons, List.length_nil, List.length_replicate]; omega) | (rw [sortI_length]; simp only [List.length_cons, List.length_nil]; omega) | (simp only [ByteArray.size_append]; omega))
        refine TQ.op (yq (y_idx (k := z3) (ev_t rfl) (ev_t rfl) (by first | omega | simp) slT_25 (ri_arg ha82) hb83)) rfl rfl rfl ?_
        refine TQ.op (yq (y_ldi (ev_t rfl) one_3 (ri_arg ha82) hb83)) rfl rfl rfl ?_
        refine TQ.op (yq (y_add (ev_t rfl) (ev_t rfl) (by unfold In64; constructor <;> omega))) rfl rfl rfl ?_
        refine TQ.op (yq (y_gtr (ev_t rfl) (ev_t rfl))) rfl rfl rfl ?_
        refine TQ.nil ?_
        refine TN.seq ?_
        refine TC.cond (b := decide (((m.getD x1 []).getD y2 0) + ((m.getD y2 []).getD z3 0) < ((m.getD x1 []).getD z3 0))) (ev_t rfl) (fun h84 => ?_) (fun h84 => ?_)
        · rw [bif_pos h84] at hL3
          have q85 := (of_decide_eq_true h84)
          refine TC.seq ?_
          refine TC.region ?_
          refine TL.op (yq (y_move (ev_t rfl))) rfl rfl rfl ?_
          refine TL.op (yq (y_move (ev_t rfl))) rfl rfl rfl ?_
          refine TL.op (yq (y_move (ev_t rfl))) rfl rfl rfl ?_
          refine TL.buildI (zs := [.tmp 51, .tmp 52, .tmp 53]) (qs := [(x1 : Int), (y2 : Int), (z3 : Int)]) slT_25 rfl ⟨(ev_t rfl), (ev_t rfl), (ev_t rfl), trivial⟩ rfl (by decide) rfl (fun v12_3 => ?_)
          refine TL.op (yq (y_assign (ev_t rfl))) rfl rfl rfl ?_
          refine TL.nil ?_
          refine TN.seq ?_
          refine TC.ret ?_
          refine TN.blockR ?_
          refine TN.thenR ?_
          refine TN.thenR ?_
          rw [← hL3, elim_ret] at hL2
          refine TN.blockR ?_
          refine TN.blockR ?_
          refine TN.thenR ?_
          refine TN.thenR ?_
          rw [← hL2, elim_ret] at hL1
          refine TN.blockR ?_
          refine TN.blockR ?_
          refine TN.thenR ?_
          refine TN.thenR ?_
          rw [← hL1, elim_ret] at hF
          refine TN.blockR ?_
          refine TN.thenR ?_
          subst hF
          exact TN.ret1 rfl (ev_t rfl) (fun w' hw => ⟨v12_3, rfl, Hp.sublist hw (.cons_cons _ (.cons _ .slnil))⟩)
        · rw [bif_neg h84] at hL3
          have q85 := (of_decide_eq_false h84)
          refine TC.skip ?_
          refine TN.blockN ?_
          refine TN.seq ?_
          refine TC.region ?_
          refine TL.op (yq (y_move (ev_t rfl))) rfl rfl rfl ?_
          refine TL.op (yq (y_add (ev_t rfl) ev_c (by unfold In64; constructor <;> omega))) rfl rfl rfl ?_
          refine TL.op (yq (y_assign (ev_t rfl))) rfl rfl rfl ?_
          refine TL.nil ?_
          exact TN.hand (mf3, (z3 + 1)) ⟨(by first | omega | (simp [-List.getD_eq_getElem?_getD] <;> omega)), (by omega), hL3⟩ (Nat.lt_succ_self _) ⟨rfl, rfl, rfl, rfl, rfl, trivial⟩ (fun w hw => hw)
      · rw [bif_neg h73] at hL3
        have q74 := (of_decide_eq_false h73)
        refine TC.exit ?_
        refine TN.thenE ?_
        refine TN.thenE ?_
        rw [← hL3, elim_next] at hL2
        try dsimp only at hL2
        refine TN.blockH ?_
        refine TN.blockN ?_
        refine TN.seq ?_
        refine TC.region ?_
        refine TL.op (yq (y_move (ev_t rfl))) rfl rfl rfl ?_
        refine TL.op (yq (y_add (ev_t rfl) ev_c (by unfold In64; constructor <;> omega))) rfl rfl rfl ?_
        refine TL.op (yq (y_assign (ev_t rfl))) rfl rfl rfl ?_
        refine TL.nil ?_
        exact TN.hand (mf2, (y2 + 1)) ⟨(by first | omega | (simp [-List.getD_eq_getElem?_getD] <;> omega)), (by omega), hL2⟩ (Nat.lt_succ_self _) ⟨rfl, rfl, rfl, rfl, trivial⟩ (fun w hw => hw)
    · rw [bif_neg h69] at hL2
      have q70 := (of_decide_eq_false h69)
      refine TC.exit ?_
      refine TN.thenE ?_
      refine TN.thenE ?_
      rw [← hL2, elim_next] at hL1
      try dsimp only at hL1
      refine TN.blockH ?_
      refine TN.blockN ?_
      refine TN.seq ?_
      refine TC.region ?_
      refine TL.op (yq (y_move (ev_t rfl))) rfl rfl rfl ?_
      refine TL.op (yq (y_add (ev_t rfl) ev_c (by unfold In64; constructor <;> omega))) rfl rfl rfl ?_
      refine TL.op (yq (y_assign (ev_t rfl))) rfl rfl rfl ?_
      refine TL.nil ?_
      exact TN.hand (mf1, (x1 + 1)) ⟨(by first | omega | (simp [-List.getD_eq_getElem?_getD] <;> omega)), (by omega), hL1⟩ (Nat.lt_succ_self _) ⟨rfl, rfl, rfl, trivial⟩ (fun w hw => hw)
  · rw [bif_neg h65] at hL1
    have q66 := (of_decide_eq_false h65)
    refine TC.exit ?_
    refine TN.thenE ?_
    refine TN.thenE ?_
    rw [← hL1, elim_next] at hF
    try dsimp only at hF
    refine TN.blockH ?_
    refine TN.seq ?_
    refine TC.seq ?_
    refine TC.region ?_
    refine TL.buildI (zs := []) (qs := []) slT_25 rfl trivial rfl (by decide) rfl (fun v13_0 => ?_)
    refine TL.op (yq (y_assign (ev_t rfl))) rfl rfl rfl ?_
    refine TL.nil ?_
    refine TN.seq ?_
    refine TC.ret ?_
    subst hF
    exact TN.ret1 rfl (ev_t rfl) (fun w' hw => ⟨v13_0, rfl, Hp.sublist hw (.cons_cons _ (.cons _ .slnil))⟩)

set_option maxRecDepth 4000 in
set_option maxHeartbeats 1000000 in
theorem spec_l6Good_ok (w : World) (vm : Value) (um : List Value) (m : List (List Int)) (hm : RII w vm um m)  :
    Calls Try.prog 21 ([(.agg #[vm])] : List Value).toArray w (Ret (.bool (F_spec_l6Good m)) (Hp w [])) := by
  obtain ⟨rz, hF⟩ : ∃ rz, (F_spec_l6Good m) = rz := ⟨_, rfl⟩
  rw [hF]
  unfold F_spec_l6Good at hF
  have hlen_m := argT_len hm
  refine calls_tc Try.func21 rfl rfl rfl ?_
  change TC _ _ _ _ (Hp w []) [(0, (.agg #[vm]))]
  refine TC.seq ?_
  refine TC.region ?_
  refine TL.box (ev_t rfl) rfl (fun g0_0 => ?_)
  refine TL.op (yq (y_assign ev_c)) rfl rfl rfl ?_
  refine TL.nil ?_
  refine TN.seq ?_
  refine TC.seq ?_
  refine TC.region ?_
  refine TL.op (yq (y_ldagg (cs := [vm]) 0 (ev_t rfl) agg_29 rfl)) rfl rfl rfl ?_
  refine TL.op (y_call (vs := [(.agg #[vm]), (.bool false)]) (v := (.bool (F_spec_l6Table m false))) en_39 ⟨(ev_t rfl), ev_c, trivial⟩ (fun w hw => spec_l6Table_ok w vm um m ((rii_arg hm) w hw) false)) rfl rfl rfl ?_
  refine TL.op (yq (y_move (ev_t rfl))) rfl rfl rfl ?_
  refine TL.split 5 (b := (F_spec_l6Table m false)) rfl (fun h3 => ?_) (fun h3 => ?_)
  · rw [bif_pos h3] at hF
    have q4 := (l6Table_t h3)
    refine TL.opw (w_t rfl rfl rfl) (fun _ => yq (y_ldagg (cs := [vm]) 0 (ev_t rfl) agg_29 rfl)) rfl rfl ?_
    refine TL.ung (w_t rfl rfl rfl) ?_
    refine TL.callr (ι := Value) (vs := [(.agg #[vm])]) (fun i => i) (fun i => [rowI 3 i (F_spec_l6Detour m)]) en_40 ⟨(ev_t rfl), trivial⟩ rfl (fun w hw => spec_l6Detour_ok w vm um m ((rii_arg hm) w hw) (by first | assumption | omega | grind)) (fun r1_4 => ?_)
    refine TL.opw (w_t rfl rfl rfl) (fun _ => yq (y_len (ev_t rfl) Try.underlying25 (fun w hw => ((ri_row 0 rfl) w hw).ln))) rfl rfl ?_
    refine TL.opw (w_t rfl rfl rfl) (fun _ => yq (y_eql (ev_t rfl) ev_c)) rfl rfl ?_
    refine TL.op (yq (y_pickT (ev_t rfl) (ev_t rfl))) rfl rfl rfl ?_
    refine TL.op (yq (y_assign (ev_t rfl))) rfl rfl rfl ?_
    refine TL.nil ?_
    refine TN.seq ?_
    refine TC.ret ?_
    subst hF
    exact TN.ret1 rfl (ev_t rfl) (fun w' hw => ⟨rfl, Hp.sublist hw (List.nil_sublist _)⟩)
  · rw [bif_neg h3] at hF
    have q4 := h3
    refine TL.opw (v := undef) (w_t rfl rfl rfl) (fun hg => by cases hg) rfl rfl ?_
    refine TL.opw (v := undef) (w_t rfl rfl rfl) (fun hg => by cases hg) rfl rfl ?_
    refine TL.opw (v := undef) (w_t rfl rfl rfl) (fun hg => by cases hg) rfl rfl ?_
    refine TL.opw (v := undef) (w_t rfl rfl rfl) (fun hg => by cases hg) rfl rfl ?_
    refine TL.op (yq (y_pickF (ev_t rfl) ev_c)) rfl rfl rfl ?_
    refine TL.op (yq (y_assign (ev_t rfl))) rfl rfl rfl ?_
    refine TL.nil ?_
    refine TN.seq ?_
    refine TC.ret ?_
    subst hF
    exact TN.ret1 rfl (ev_t rfl) (fun w' hw => ⟨rfl, Hp.sublist hw (List.nil_sublist _)⟩)

set_option maxRecDepth 4000 in
set_option maxHeartbeats 1000000 in
theorem spec_l1Own_ok (w : World) (va : Value) (a : List Int) (ha : RI w va a) (hp0 : a.length ≤ 1000000000) :
    Calls Try.prog 35 ([va] : List Value).toArray w (fun e w' => ∃ i : Value, e = .returned i ∧ Hp w [rowI 3 i (F_spec_l1Own a)] w') := by
  obtain ⟨rz, hF⟩ : ∃ rz, (F_spec_l1Own a) = rz := ⟨_, rfl⟩
  rw [hF]
  unfold F_spec_l1Own at hF
  have hlen_a := arg_len ha
  refine calls_tc Try.func35 rfl rfl rfl ?_
  change TC _ _ _ _ (Hp w []) [(0, va)]
  refine TC.seq ?_
  refine TC.region ?_
  refine TL.op (yq (y_assign ev_c)) rfl rfl rfl ?_
  refine TL.nil ?_
  refine TN.seq ?_
  refine TC.seq ?_
  refine TC.region ?_
  refine TL.buildI (zs := []) (qs := []) slT_25 rfl trivial rfl (by decide) rfl (fun v1_0 => ?_)
  refine TL.op (yq (y_move (ev_t rfl))) rfl rfl rfl ?_
  refine TL.appendI 0 (ev_t rfl) (ev_t rfl) rfl slT_25 (ri_arg ha) (by first | omega | (simp [-List.getD_eq_getElem?_getD] <;> omega)) rfl (fun v1_2 => ?_)
  refine TL.op (yq (y_assign (ev_t rfl))) rfl rfl rfl ?_
  refine TL.nil ?_
  refine TN.seq ?_
  refine TC.ret ?_
  subst hF
  exact TN.ret1 rfl (ev_t rfl) (fun w' hw => ⟨v1_2, rfl, hw⟩)

set_option maxRecDepth 4000 in
set_option maxHeartbeats 1000000 in
theorem impl_areBelow_1_ok (w : World) (a : Int) (gn : Nat) (n : Int) (hn : CellAt w gn (.int .i64 n)) (hp0 : -1000000 ≤ n) (hp1 : n ≤ 9223372036854775807) :
    Calls Try.prog 65 ([(.int .i64 a), (.pointer (some ⟨gn, 0, none⟩))] : List Value).toArray w (Ret (.bool (F_impl_areBelow_1 a n)) (Hp w [])) := by
  obtain ⟨rz, hF⟩ : ∃ rz, (F_impl_areBelow_1 a n) = rz := ⟨_, rfl⟩
  rw [hF]
  unfold F_impl_areBelow_1 at hF
  refine calls_tc Try.func65 rfl rfl rfl ?_
  change TC _ _ _ _ (Hp w []) [(0, (.int .i64 a)), (1, (.pointer (some ⟨gn, 0, none⟩)))]
  refine TC.seq ?_
  refine TC.region ?_
  refine TL.op (yq (y_assign ev_c)) rfl rfl rfl ?_
  refine TL.nil ?_
  refine TN.seq ?_
  refine TC.seq ?_
  refine TC.region ?_
  refine TL.op (yq (y_move (ev_t rfl))) rfl rfl rfl ?_
  refine TL.op (yq (y_ldc (ev_t rfl) one_3 hn)) rfl rfl rfl ?_
  refine TL.op (yq (y_sub (ev_t rfl) ev_c (by unfold In64; constructor <;> omega))) rfl rfl rfl ?_
  refine TL.op (y_call (vs := [(.int .i64 a), (.int .i64 0), (.int .i64 (n - 1))]) (v := (.bool ((decide (0 ≤ a)) && (decide (a ≤ (n - 1)))))) en_62 ⟨(ev_t rfl), ev_c, (ev_t rfl), trivial⟩ (fun w hw => impl_within_ok w a 0 (n - 1))) rfl rfl rfl ?_
  refine TL.op (yq (y_not (ev_t rfl))) rfl rfl rfl ?_
  refine TL.op (yq (y_assign (ev_t rfl))) rfl rfl rfl ?_
  refine TL.nil ?_
  refine TN.seq ?_
  refine TC.ret ?_
  subst hF
  exact TN.ret1 rfl (ev_t rfl) (fun w' hw => ⟨rfl, hw⟩)

set_option maxRecDepth 4000 in
set_option maxHeartbeats 1000000 in
theorem impl_areBelow_ok (w : World) (n : Int) (vl : Value) (l : List Int) (hl : RI w vl l) (hp0 : -1000000 ≤ n) (hp1 : n ≤ 9223372036854775807) :
    Calls Try.prog 47 ([(.int .i64 n), vl] : List Value).toArray w (Ret (.bool (F_impl_areBelow n l)) (Hp w [])) := by
  obtain ⟨rz, hF⟩ : ∃ rz, (F_impl_areBelow n l) = rz := ⟨_, rfl⟩
  rw [hF]
  unfold F_impl_areBelow at hF
  have hlen_l := arg_len hl
  refine calls_tc Try.func47 rfl rfl rfl ?_
  change TC _ _ _ _ (Hp w []) [(0, (.int .i64 n)), (1, vl)]
  refine TC.seq ?_
  refine TC.region ?_
  refine TL.box (ev_t rfl) rfl (fun g0_0 => ?_)
  refine TL.op (yq (y_assign ev_c)) rfl rfl rfl ?_
  refine TL.nil ?_
  refine TN.seq ?_
  refine TC.seq ?_
  refine TC.region ?_
  refine TL.op (yq (y_move (ev_t rfl))) rfl rfl rfl ?_
  refine TL.op (yq (y_mkf (us := [(.pointer (some ⟨g0_0, 0, none⟩))]) ⟨(ev_t rfl), trivial⟩)) rfl rfl rfl ?_
  refine TL.op (y_call (vs := [vl, (.func (.func 65) #[] ([(.pointer (some ⟨g0_0, 0, none⟩))] : List Value).toArray)]) (v := (.bool (F_slices_ContainsFunc_Sint_int l (fun a => F_impl_areBelow_1 a n)))) en_64 ⟨(ev_t rfl), (ev_t rfl), trivial⟩ (fun w hw => slices_ContainsFunc_Sint_int_ok w vl l ((ri_arg hl) w hw) 65 [(.pointer (some ⟨g0_0, 0, none⟩))] (fun a => F_impl_areBelow_1 a n) en_65 (fun w2 hb a => impl_areBelow_1_ok w2 a g0_0 n (cell_blk 0 rfl rfl hw hb) (by first | assumption | omega | grind) (by first | assumption | omega | grind)))) rfl rfl rfl ?_
  refine TL.op (yq (y_not (ev_t rfl))) rfl rfl rfl ?_
  refine TL.op (yq (y_assign (ev_t rfl))) rfl rfl rfl ?_
  refine TL.nil ?_
  refine TN.seq ?_
  refine TC.ret ?_
  subst hF
  exact TN.ret1 rfl (ev_t rfl) (fun w' hw => ⟨rfl, Hp.sublist hw (List.nil_sublist _)⟩)

set_option maxRecDepth 4000 in
set_option maxHeartbeats 1000000 in
theorem impl_Metric_isConfig_ok (w : World) (vm : Value) (um : List Value) (m : List (List Int)) (hm : RII w vm um m) (va : Value) (a : List Int) (ha : RI w va a)  :
    Calls Try.prog 46 ([(.agg #[vm]), va] : List Value).toArray w (Ret (.bool (F_impl_Metric_isConfig m a)) (Hp w [])) := by
  obtain ⟨rz, hF⟩ : ∃ rz, (F_impl_Metric_isConfig m a) = rz := ⟨_, rfl⟩
  rw [hF]
  unfold F_impl_Metric_isConfig at hF
  have hlen_m := argT_len hm
  have hlen_a := arg_len ha
  refine calls_tc Try.func46 rfl rfl rfl ?_
  change TC _ _ _ _ (Hp w []) [(0, (.agg #[vm])), (1, va)]
  refine TC.seq ?_
  refine TC.region ?_
  refine TL.box (ev_t rfl) rfl (fun g0_0 => ?_)
  refine TL.op (yq (y_assign ev_c)) rfl rfl rfl ?_
  refine TL.nil ?_
  refine TN.seq ?_
  refine TC.seq ?_
  refine TC.region ?_
  refine TL.op (yq (y_move (ev_t rfl))) rfl rfl rfl ?_
  refine TL.op (yq (y_len (ev_t rfl) Try.underlying25 (fun w hw => ((ri_arg ha) w hw).ln))) rfl rfl rfl ?_
  refine TL.op (y_call (vs := [(.int .i64 (a.length : Int)), (.int .i64 1), (.int .i64 3)]) (v := (.bool ((decide (1 ≤ (a.length : Int))) && (decide ((a.length : Int) ≤ 3))))) en_62 ⟨(ev_t rfl), ev_c, ev_c, trivial⟩ (fun w hw => impl_within_ok w (a.length : Int) 1 3)) rfl rfl rfl ?_
  refine TL.op (yq (y_move (ev_t rfl))) rfl rfl rfl ?_
  refine TL.opw (w_t rfl rfl rfl) (fun hg => yq (y_fa (fa_29_0 g0_0) (ev_t rfl))) rfl rfl ?_
  refine TL.opw (w_t rfl rfl rfl) (fun hg => yq (y_ldb 0 (ev_g rfl hg) one_22 rfl rfl)) rfl rfl ?_
  refine TL.opw (w_t rfl rfl rfl) (fun hg => yq (y_len (ev_g rfl hg) Try.underlying22 (fun w hw => ((fun w hw => ((rii_arg hm) w hw).1) w hw).ln))) rfl rfl ?_
  refine TL.opw (w_t rfl rfl rfl) (fun hg => yq (y_move (ev_t rfl))) rfl rfl ?_
  refine TL.opw (w_t rfl rfl rfl) (fun hg => y_call (vs := [(.int .i64 (m.length : Int)), va]) (v := (.bool (F_impl_areBelow (m.length : Int) a))) en_47 ⟨(ev_g rfl hg), (ev_g rfl hg), trivial⟩ (fun w hw => impl_areBelow_ok w (m.length : Int) va a ((ri_arg ha) w hw) (by have hgf := (and_imp (and_t hg) (fun h => (of_decide_eq_true h)) (fun h => (of_decide_eq_true h))); first | assumption | omega | (have hq := hgf.n6; omega) | (have hq := hgf.1.n6; omega) | grind) (by have hgf := (and_imp (and_t hg) (fun h => (of_decide_eq_true h)) (fun h => (of_decide_eq_true h))); first | assumption | omega | (have hq := hgf.n6; omega) | (have hq := hgf.1.n6; omega) | grind))) rfl rfl ?_
  refine TL.op (yq (y_and (ev_t rfl) (fun hq => (ev_g rfl hq)))) rfl rfl rfl ?_
  refine TL.op (yq (y_move (ev_t rfl))) rfl rfl rfl ?_
  refine TL.opw (w_t rfl rfl rfl) (fun hg => yq (y_move (ev_t rfl))) rfl rfl ?_
  refine TL.opw (w_t rfl rfl rfl) (fun hg => y_call (vs := [va]) (v := (.bool (F_slices_IsSorted_Sint_int a))) en_63 ⟨(ev_g rfl hg), trivial⟩ (fun w hw => slices_IsSorted_Sint_int_ok w va a ((ri_arg ha) w hw))) rfl rfl ?_
  refine TL.op (yq (y_and (ev_t rfl) (fun hq => (ev_g rfl hq)))) rfl rfl rfl ?_
  refine TL.op (yq (y_assign (ev_t rfl))) rfl rfl rfl ?_
  refine TL.nil ?_
  refine TN.seq ?_
  refine TC.ret ?_
  subst hF
  exact TN.ret1 rfl (ev_t rfl) (fun w' hw => ⟨rfl, Hp.sublist hw (List.nil_sublist _)⟩)

set_option maxRecDepth 4000 in
set_option maxHeartbeats 1000000 in
theorem spec_l6List_ok (w : World) (n : Int) (vlist : Value) (list : List Int) (hlist : RI w vlist list) (hp0 : -1000000 ≤ n) (hp1 : n ≤ 9223372036854775807) :
    Calls Try.prog 42 ([(.int .i64 n), vlist] : List Value).toArray w (Ret (.bool (F_spec_l6List n list)) (Hp w [])) := by
  obtain ⟨rz, hF⟩ : ∃ rz, (F_spec_l6List n list) = rz := ⟨_, rfl⟩
  rw [hF]
  unfold F_spec_l6List at hF
  have hlen_list := arg_len hlist
  refine calls_tc Try.func42 rfl rfl rfl ?_
  change TC _ _ _ _ (Hp w []) [(0, (.int .i64 n)), (1, vlist)]
  refine TC.seq ?_
  refine TC.region ?_
  refine TL.op (yq (y_assign ev_c)) rfl rfl rfl ?_
  refine TL.nil ?_
  refine TN.seq ?_
  refine TC.seq ?_
  refine TC.seq ?_
  refine TC.region ?_
  refine TL.op (yq (y_assign ev_c)) rfl rfl rfl ?_
  refine TL.nil ?_
  refine TN.seq ?_
  refine TC.block ?_
  obtain ⟨c11, hc12⟩ : ∃ c, F_spec_l6List_L1 n list ((list.length - 0) + 1) 0 = c := ⟨_, rfl⟩
  rw [hc12] at hF
  refine TC.loop (ι := Nat × Nat) (fun (fu1, i1) => [(0, (.int .i64 n)), (1, vlist), (5, (.int .i64 (i1 : Int)))]) (fun (fu1, i1) => Hp w []) (fun (fu1, i1) => (i1 ≤ list.length) ∧ list.length - i1 < fu1 ∧ F_spec_l6List_L1 n list fu1 i1 = c11) (fun (fu1, i1) => fu1) ((list.length - 0) + 1, 0) ⟨(by first | omega | (simp [-List.getD_eq_getElem?_getD] <;> omega)), (by omega), hc12⟩ ⟨rfl, rfl, rfl, trivial⟩ (fun w hw => hw) ?_
  rintro ⟨fu1, i1⟩ hJ1
  obtain ⟨hi1_0, hmu1, hL1⟩ : (i1 ≤ list.length) ∧ list.length - i1 < fu1 ∧ F_spec_l6List_L1 n list fu1 i1 = c11 := hJ1
  change TC _ _ _ _ (Hp w []) [(0, (.int .i64 n)), (1, vlist), (5, (.int .i64 (i1 : Int)))]
  obtain ⟨mf1, rfl⟩ : ∃ m, fu1 = m + 1 := ⟨fu1 - 1, by omega⟩
  rw [F_spec_l6List_L1_s] at hL1
  refine TC.seq ?_
  refine TC.seq ?_
  refine TC.region ?_
  refine TL.op (yq (y_move (ev_t rfl))) rfl rfl rfl ?_
  refine TL.op (yq (y_move (ev_t rfl))) rfl rfl rfl ?_
  refine TL.op (yq (y_len (ev_t rfl) Try.underlying25 (fun w hw => ((ri_arg hlist) w hw).ln))) rfl rfl rfl ?_
  refine TL.op (yq (y_lss (ev_t rfl) (ev_t rfl))) rfl rfl rfl ?_
  refine TL.nil ?_
  refine TN.seq ?_
  refine TC.cond (b := decide ((i1 : Int) < (list.length : Int))) (ev_t rfl) (fun h13 => ?_) (fun h13 => ?_)
  · rw [bif_pos h13] at hL1
    have q14 := (of_decide_eq_true h13)
    refine TC.skip ?_
    refine TN.seq ?_
    refine TC.seq ?_
    refine TC.block ?_
    refine TC.seq ?_
    refine TC.region ?_
    refine TL.op (yq (y_move (ev_t rfl))) rfl rfl rfl ?_
    refine TL.op (yq (y_move (ev_t rfl))) rfl rfl rfl ?_
    have hb15 : i1 < list.length := (by first | omega | (simp only [List.length_set, List.length_append, List.length_cons, List.length_nil, List.length_replicate]; omega) | (rw [sortI_length]; simp only [List.length_cons, List.length_nil]; omega) | (simp only [ByteArray.size_append]; omega))
    refine TL.op (yq (y_idx (k := i1) (ev_t rfl) (ev_t rfl) (by first | omega | simp) slT_25 (ri_arg hlist) hb15)) rfl rfl rfl ?_
    refine TL.op (yq (y_ldi (ev_t rfl) one_3 (ri_arg hlist) hb15)) rfl rfl rfl ?_
    refine TL.op (yq (y_move (ev_t rfl))) rfl rfl rfl ?_
    refine TL.op (yq (y_sub (ev_t rfl) ev_c (by unfold In64; constructor <;> omega))) rfl rfl rfl ?_
    refine TL.op (y_call (vs := [(.int .i64 (list.getD i1 0)), (.int .i64 0), (.int .i64 (n - 1))]) (v := (.bool ((decide (0 ≤ (list.getD i1 0))) && (decide ((list.getD i1 0) ≤ (n - 1)))))) en_55 ⟨(ev_t rfl), ev_c, (ev_t rfl), trivial⟩ (fun w hw => spec_l1In_ok w (list.getD i1 0) 0 (n - 1))) rfl rfl rfl ?_
    refine TL.op (yq (y_not (ev_t rfl))) rfl rfl rfl ?_
    refine TL.nil ?_
    refine TN.seq ?_
    refine TC.cond (b := !((decide (0 ≤ (list.getD i1 0))) && (decide ((list.getD i1 0) ≤ (n - 1))))) (ev_t rfl) (fun h16 => ?_) (fun h16 => ?_)
    · rw [bif_pos h16] at hL1
      have q17 := ((and_f (not_t h16)).imp (fun h => (of_decide_eq_false h)) (fun h => (of_decide_eq_false h)))
      refine TC.seq ?_
      refine TC.region ?_
      refine TL.op (yq (y_assign ev_c)) rfl rfl rfl ?_
      refine TL.nil ?_
      refine TN.seq ?_
      refine TC.ret ?_
      refine TN.blockR ?_
      refine TN.thenR ?_
      refine TN.thenR ?_
      rw [← hL1, elim_ret] at hF
      refine TN.blockR ?_
      refine TN.thenR ?_
      subst hF
      exact TN.ret1 rfl (ev_t rfl) (fun w' hw => ⟨rfl, hw⟩)
    · rw [bif_neg h16] at hL1
      have q17 := (and_imp (and_t (not_f h16)) (fun h => (of_decide_eq_true h)) (fun h => (of_decide_eq_true h)))
      refine TC.skip ?_
      refine TN.blockN ?_
      refine TN.seq ?_
      refine TC.region ?_
      refine TL.op (yq (y_move (ev_t rfl))) rfl rfl rfl ?_
      refine TL.op (yq (y_add (ev_t rfl) ev_c (by unfold In64; constructor <;> omega))) rfl rfl rfl ?_
      refine TL.op (yq (y_assign (ev_t rfl))) rfl rfl rfl ?_
      refine TL.nil ?_
      exact TN.hand (mf1, (i1 + 1)) ⟨(by first | omega | (simp [-List.getD_eq_getElem?_getD] <;> omega)), (by omega), hL1⟩ (Nat.lt_succ_self _) ⟨rfl, rfl, rfl, trivial⟩ (fun w hw => hw)
  · rw [bif_neg h13] at hL1
    have q14 := (of_decide_eq_false h13)
    refine TC.exit ?_
    refine TN.thenE ?_
    refine TN.thenE ?_
    rw [← hL1, elim_next] at hF
    try dsimp only at hF
    refine TN.blockH ?_
    refine TN.seq ?_
    refine TC.seq ?_
    refine TC.region ?_
    refine TL.op (yq (y_assign ev_c)) rfl rfl rfl ?_
    refine TL.nil ?_
    refine TN.seq ?_
    refine TC.ret ?_
    subst hF
    exact TN.ret1 rfl (ev_t rfl) (fun w' hw => ⟨rfl, hw⟩)

set_option maxRecDepth 4000 in
set_option maxHeartbeats 1000000 in
theorem spec_l6Config_ok (w : World) (n : Int) (va : Value) (a : List Int) (ha : RI w va a) (hp0 : -1000000 ≤ n) (hp1 : n ≤ 9223372036854775807) :
    Calls Try.prog 41 ([(.int .i64 n), va] : List Value).toArray w (Ret (.bool (F_spec_l6Config n a)) (Hp w [])) := by
  obtain ⟨rz, hF⟩ : ∃ rz, (F_spec_l6Config n a) = rz := ⟨_, rfl⟩
  rw [hF]
  unfold F_spec_l6Config at hF
  have hlen_a := arg_len ha
  refine calls_tc Try.func41 rfl rfl rfl ?_
  change TC _ _ _ _ (Hp w []) [(0, (.int .i64 n)), (1, va)]
  refine TC.seq ?_
  refine TC.region ?_
  refine TL.op (yq (y_assign ev_c)) rfl rfl rfl ?_
  refine TL.nil ?_
  refine TN.seq ?_
  refine TC.seq ?_
  refine TC.region ?_
  refine TL.op (yq (y_move (ev_t rfl))) rfl rfl rfl ?_
  refine TL.op (yq (y_len (ev_t rfl) Try.underlying25 (fun w hw => ((ri_arg ha) w hw).ln))) rfl rfl rfl ?_
  refine TL.op (y_call (vs := [(.int .i64 (a.length : Int)), (.int .i64 1), (.int .i64 3)]) (v := (.bool ((decide (1 ≤ (a.length : Int))) && (decide ((a.length : Int) ≤ 3))))) en_55 ⟨(ev_t rfl), ev_c, ev_c, trivial⟩ (fun w hw => spec_l1In_ok w (a.length : Int) 1 3)) rfl rfl rfl ?_
  refine TL.op (yq (y_move (ev_t rfl))) rfl rfl rfl ?_
  refine TL.opw (w_t rfl rfl rfl) (fun hg => yq (y_move (ev_t rfl))) rfl rfl ?_
  refine TL.opw (w_t rfl rfl rfl) (fun hg => yq (y_move (ev_t rfl))) rfl rfl ?_
  refine TL.opw (w_t rfl rfl rfl) (fun hg => y_call (vs := [(.int .i64 n), va]) (v := (.bool (F_spec_l6List n a))) en_42 ⟨(ev_g rfl hg), (ev_g rfl hg), trivial⟩ (fun w hw => spec_l6List_ok w n va a ((ri_arg ha) w hw) (by have hgf := (and_imp (and_t hg) (fun h => (of_decide_eq_true h)) (fun h => (of_decide_eq_true h))); first | assumption | omega | (have hq := hgf.n6; omega) | (have hq := hgf.1.n6; omega) | grind) (by have hgf := (and_imp (and_t hg) (fun h => (of_decide_eq_true h)) (fun h => (of_decide_eq_true h))); first | assumption | omega | (have hq := hgf.n6; omega) | (have hq := hgf.1.n6; omega) | grind))) rfl rfl ?_
  refine TL.op (yq (y_and (ev_t rfl) (fun hq => (ev_g rfl hq)))) rfl rfl rfl ?_
  refine TL.op (yq (y_move (ev_t rfl))) rfl rfl rfl ?_
  refine TL.opw (w_t rfl rfl rfl) (fun hg => yq (y_move (ev_t rfl))) rfl rfl ?_
  refine TL.opw (w_t rfl rfl rfl) (fun hg => y_call (vs := [va]) (v := (.bool (F_spec_l6Ascending a))) en_56 ⟨(ev_g rfl hg), trivial⟩ (fun w hw => spec_l6Ascending_ok w va a ((ri_arg ha) w hw))) rfl rfl ?_
  refine TL.op (yq (y_and (ev_t rfl) (fun hq => (ev_g rfl hq)))) rfl rfl rfl ?_
  refine TL.op (yq (y_assign (ev_t rfl))) rfl rfl rfl ?_
  refine TL.nil ?_
  refine TN.seq ?_
  refine TC.ret ?_
  subst hF
  exact TN.ret1 rfl (ev_t rfl) (fun w' hw => ⟨rfl, hw⟩)

set_option maxRecDepth 4000 in
set_option maxHeartbeats 1000000 in
theorem impl_isServed_ok (w : World) (vm : Value) (um : List Value) (m : List (List Int)) (hm : RII w vm um m) (va : Value) (a : List Int) (ha : RI w va a) (vreqs : Value) (reqs : List Int) (hreqs : RI w vreqs reqs)  :
    Calls Try.prog 26 ([(.agg #[vm]), va, vreqs] : List Value).toArray w (Ret (.bool (F_impl_isServed m a reqs)) (Hp w [])) := by
  obtain ⟨rz, hF⟩ : ∃ rz, (F_impl_isServed m a reqs) = rz := ⟨_, rfl⟩
  rw [hF]
  unfold F_impl_isServed at hF
  have hlen_m := argT_len hm
  have hlen_a := arg_len ha
  have hlen_reqs := arg_len hreqs
  refine calls_tc Try.func26 rfl rfl rfl ?_
  change TC _ _ _ _ (Hp w []) [(0, (.agg #[vm])), (1, va), (2, vreqs)]
  refine TC.seq ?_
  refine TC.region ?_
  refine TL.box (ev_t rfl) rfl (fun g0_0 => ?_)
  refine TL.op (yq (y_assign ev_c)) rfl rfl rfl ?_
  refine TL.nil ?_
  refine TN.seq ?_
  refine TC.seq ?_
  refine TC.region ?_
  refine TL.op (yq (y_ldagg (cs := [vm]) 0 (ev_t rfl) agg_29 rfl)) rfl rfl rfl ?_
  refine TL.op (y_call (vs := [(.agg #[vm])]) (v := (.bool (F_impl_IsMetric m))) en_45 ⟨(ev_t rfl), trivial⟩ (fun w hw => impl_IsMetric_ok w vm um m ((rii_arg hm) w hw))) rfl rfl rfl ?_
  refine TL.op (yq (y_move (ev_t rfl))) rfl rfl rfl ?_
  refine TL.opw (w_t rfl rfl rfl) (fun hg => yq (y_ldagg (cs := [vm]) 0 (ev_t rfl) agg_29 rfl)) rfl rfl ?_
  refine TL.opw (w_t rfl rfl rfl) (fun hg => yq (y_move (ev_t rfl))) rfl rfl ?_
  refine TL.opw (w_t rfl rfl rfl) (fun hg => y_call (vs := [(.agg #[vm]), va]) (v := (.bool (F_impl_Metric_isConfig m a))) en_46 ⟨(ev_g rfl hg), (ev_g rfl hg), trivial⟩ (fun w hw => impl_Metric_isConfig_ok w vm um m ((rii_arg hm) w hw) va a ((ri_arg ha) w hw))) rfl rfl ?_
  refine TL.op (yq (y_and (ev_t rfl) (fun hq => (ev_g rfl hq)))) rfl rfl rfl ?_
  refine TL.op (yq (y_move (ev_t rfl))) rfl rfl rfl ?_
  refine TL.opw (w_t rfl rfl rfl) (fun hg => yq (y_move (ev_t rfl))) rfl rfl ?_
  refine TL.opw (w_t rfl rfl rfl) (fun hg => yq (y_len (ev_g rfl hg) Try.underlying25 (fun w hw => ((ri_arg hreqs) w hw).ln))) rfl rfl ?_
  refine TL.opw (w_t rfl rfl rfl) (fun hg => yq (y_leq (ev_g rfl hg) ev_c)) rfl rfl ?_
  refine TL.op (yq (y_and (ev_t rfl) (fun hq => (ev_g rfl hq)))) rfl rfl rfl ?_
  refine TL.op (yq (y_move (ev_t rfl))) rfl rfl rfl ?_
  refine TL.opw (w_t rfl rfl rfl) (fun hg => yq (y_fa (fa_29_0 g0_0) (ev_t rfl))) rfl rfl ?_
  refine TL.opw (w_t rfl rfl rfl) (fun hg => yq (y_ldb 0 (ev_g rfl hg) one_22 rfl rfl)) rfl rfl ?_
  refine TL.opw (w_t rfl rfl rfl) (fun hg => yq (y_len (ev_g rfl hg) Try.underlying22 (fun w hw => ((fun w hw => ((rii_arg hm) w hw).1) w hw).ln))) rfl rfl ?_
  refine TL.opw (w_t rfl rfl rfl) (fun hg => yq (y_move (ev_t rfl))) rfl rfl ?_
  refine TL.opw (w_t rfl rfl rfl) (fun hg => y_call (vs := [(.int .i64 (m.length : Int)), vreqs]) (v := (.bool (F_impl_areBelow (m.length : Int) reqs))) en_47 ⟨(ev_g rfl hg), (ev_g rfl hg), trivial⟩ (fun w hw => impl_areBelow_ok w (m.length : Int) vreqs reqs ((ri_arg hreqs) w hw) (by have hgf := (and_imp (and_t hg) (fun h => (and_imp (and_t h) (fun h => (isMetric_t h)) (fun h => (isConfig_t h)))) (fun h => (of_decide_eq_true h))); first | assumption | omega | (have hq := hgf.n6; omega) | (have hq := hgf.1.n6; omega) | grind) (by have hgf := (and_imp (and_t hg) (fun h => (and_imp (and_t h) (fun h => (isMetric_t h)) (fun h => (isConfig_t h)))) (fun h => (of_decide_eq_true h))); first | assumption | omega | (have hq := hgf.n6; omega) | (have hq := hgf.1.n6; omega) | grind))) rfl rfl ?_
  refine TL.op (yq (y_and (ev_t rfl) (fun hq => (ev_g rfl hq)))) rfl rfl rfl ?_
  refine TL.op (yq (y_assign (ev_t rfl))) rfl rfl rfl ?_
  refine TL.nil ?_
  refine TN.seq ?_
  refine TC.ret ?_
  subst hF
  exact TN.ret1 rfl (ev_t rfl) (fun w' hw => ⟨rfl, Hp.sublist hw (List.nil_sublist _)⟩)

end Go.Proofs.Ytgnikdpgndmldaa
namespace Go.Proofs.Ytgnikdpgndmldaa
set_option linter.unusedVariables false
set_option linter.unusedSimpArgs false
open Go Go.RowKit
set_option linter.unusedVariables false

set_option maxRecDepth 4000 in
set_option maxHeartbeats 1000000 in
theorem spec_l6Start_ok (w : World) (vm : Value) (um : List Value) (m : List (List Int)) (hm : RII w vm um m) (vstart : Value) (start : List Int) (hstart : RI w vstart start) (vreqs : Value) (reqs : List Int) (hreqs : RI w vreqs reqs)  :
    Calls Try.prog 22 ([(.agg #[vm]), vstart, vreqs] : List Value).toArray w (Ret (.bool (F_spec_l6Start m start reqs)) (Hp w [])) := by
  obtain ⟨rz, hF⟩ : ∃ rz, (F_spec_l6Start m start reqs) = rz := ⟨_, rfl⟩
  rw [hF]
  unfold F_spec_l6Start at hF
  have hlen_m := argT_len hm
  have hlen_start := arg_len hstart
  have hlen_reqs := arg_len hreqs
  refine calls_tc Try.func22 rfl rfl rfl ?_
  change TC _ _ _ _ (Hp w []) [(0, (.agg #[vm])), (1, vstart), (2, vreqs)]
  refine TC.seq ?_
  refine TC.region ?_
  refine TL.box (ev_t rfl) rfl (fun g0_0 => ?_)
  refine TL.op (yq (y_assign ev_c)) rfl rfl rfl ?_
  refine TL.nil ?_
  refine TN.seq ?_
  refine TC.seq ?_
  refine TC.region ?_
  refine TL.op (yq (y_ldagg (cs := [vm]) 0 (ev_t rfl) agg_29 rfl)) rfl rfl rfl ?_
  refine TL.op (y_call (vs := [(.agg #[vm])]) (v := (.bool (F_spec_l6Good m))) en_21 ⟨(ev_t rfl), trivial⟩ (fun w hw => spec_l6Good_ok w vm um m ((rii_arg hm) w hw))) rfl rfl rfl ?_
  refine TL.op (yq (y_move (ev_t rfl))) rfl rfl rfl ?_
  refine TL.opw (w_t rfl rfl rfl) (fun hg => yq (y_fa (fa_29_0 g0_0) (ev_t rfl))) rfl rfl ?_
  refine TL.opw (w_t rfl rfl rfl) (fun hg => yq (y_ldb 0 (ev_g rfl hg) one_22 rfl rfl)) rfl rfl ?_
  refine TL.opw (w_t rfl rfl rfl) (fun hg => yq (y_len (ev_g rfl hg) Try.underlying22 (fun w hw => ((fun w hw => ((rii_arg hm) w hw).1) w hw).ln))) rfl rfl ?_
  refine TL.opw (w_t rfl rfl rfl) (fun hg => yq (y_move (ev_t rfl))) rfl rfl ?_
  refine TL.opw (w_t rfl rfl rfl) (fun hg => y_call (vs := [(.int .i64 (m.length : Int)), vstart]) (v := (.bool (F_spec_l6Config (m.length : Int) start))) en_41 ⟨(ev_g rfl hg), (ev_g rfl hg), trivial⟩ (fun w hw => spec_l6Config_ok w (m.length : Int) vstart start ((ri_arg hstart) w hw) (by have hgf := (l6Good_t hg); first | assumption | omega | (have hq := hgf.n6; omega) | (have hq := hgf.1.n6; omega) | grind) (by have hgf := (l6Good_t hg); first | assumption | omega | (have hq := hgf.n6; omega) | (have hq := hgf.1.n6; omega) | grind))) rfl rfl ?_
  refine TL.op (yq (y_and (ev_t rfl) (fun hq => (ev_g rfl hq)))) rfl rfl rfl ?_
  refine TL.op (yq (y_move (ev_t rfl))) rfl rfl rfl ?_
  refine TL.opw (w_t rfl rfl rfl) (fun hg => yq (y_move (ev_t rfl))) rfl rfl ?_
  refine TL.opw (w_t rfl rfl rfl) (fun hg => yq (y_len (ev_g rfl hg) Try.underlying25 (fun w hw => ((ri_arg hreqs) w hw).ln))) rfl rfl ?_
  refine TL.opw (w_t rfl rfl rfl) (fun hg => yq (y_leq (ev_g rfl hg) ev_c)) rfl rfl ?_
  refine TL.op (yq (y_and (ev_t rfl) (fun hq => (ev_g rfl hq)))) rfl rfl rfl ?_
  refine TL.op (yq (y_move (ev_t rfl))) rfl rfl rfl ?_
  refine TL.opw (w_t rfl rfl rfl) (fun hg => yq (y_fa (fa_29_0 g0_0) (ev_t rfl))) rfl rfl ?_
  refine TL.opw (w_t rfl rfl rfl) (fun hg => yq (y_ldb 0 (ev_g rfl hg) one_22 rfl rfl)) rfl rfl ?_
  refine TL.opw (w_t rfl rfl rfl) (fun hg => yq (y_len (ev_g rfl hg) Try.underlying22 (fun w hw => ((fun w hw => ((rii_arg hm) w hw).1) w hw).ln))) rfl rfl ?_
  refine TL.opw (w_t rfl rfl rfl) (fun hg => yq (y_move (ev_t rfl))) rfl rfl ?_
  refine TL.opw (w_t rfl rfl rfl) (fun hg => y_call (vs := [(.int .i64 (m.length : Int)), vreqs]) (v := (.bool (F_spec_l6List (m.length : Int) reqs))) en_42 ⟨(ev_g rfl hg), (ev_g rfl hg), trivial⟩ (fun w hw => spec_l6List_ok w (m.length : Int) vreqs reqs ((ri_arg hreqs) w hw) (by have hgf := (and_imp (and_t hg) (fun h => (and_imp (and_t h) (fun h => (l6Good_t h)) (fun h => (l6Config_t h)))) (fun h => (of_decide_eq_true h))); first | assumption | omega | (have hq := hgf.n6; omega) | (have hq := hgf.1.n6; omega) | grind) (by have hgf := (and_imp (and_t hg) (fun h => (and_imp (and_t h) (fun h => (l6Good_t h)) (fun h => (l6Config_t h)))) (fun h => (of_decide_eq_true h))); first | assumption | omega | (have hq := hgf.n6; omega) | (have hq := hgf.1.n6; omega) | grind))) rfl rfl ?_
  refine TL.op (yq (y_and (ev_t rfl) (fun hq => (ev_g rfl hq)))) rfl rfl rfl ?_
  refine TL.op (yq (y_assign (ev_t rfl))) rfl rfl rfl ?_
  refine TL.nil ?_
  refine TN.seq ?_
  refine TC.ret ?_
  subst hF
  exact TN.ret1 rfl (ev_t rfl) (fun w' hw => ⟨rfl, Hp.sublist hw (List.nil_sublist _)⟩)

set_option maxRecDepth 4000 in
set_option maxHeartbeats 1000000 in
theorem impl_flowOf_ok (w : World) (vm : Value) (um : List Value) (m : List (List Int)) (hm : RII w vm um m) (va : Value) (a : List Int) (ha : RI w va a) (vreqs : Value) (reqs : List Int) (hreqs : RI w vreqs reqs) (hp0 : Sv m a reqs) :
    Calls Try.prog 28 ([(.agg #[vm]), va, vreqs] : List Value).toArray w (fun e w' => ∃ i : Nat × Value × List Value, e = .returned (.pointer (some ⟨i.1, 0, none⟩)) ∧ Hp w [.blk i.1 48 [.int .i64 ((F_impl_flowOf m a reqs).1), i.2.1], tabI 25 3 i.2.1 i.2.2 ((F_impl_flowOf m a reqs).2)] w') := by
  obtain ⟨rz, hF⟩ : ∃ rz, (F_impl_flowOf m a reqs) = rz := ⟨_, rfl⟩
  rw [hF]
  unfold F_impl_flowOf at hF
  have hal := concat_len a reqs
  have htt := total_two a reqs
  have hTab := hp0.tab
  have hr60 := hp0.r60
  have hn3 := hp0.cf.n3
  have hlen_m := argT_len hm
  have hlen_a := arg_len ha
  have hlen_reqs := arg_len hreqs
  refine calls_tc Try.func28 rfl rfl rfl ?_
  change TC _ _ _ _ (Hp w []) [(0, (.agg #[vm])), (1, va), (2, vreqs)]
  refine TC.seq ?_
  refine TC.region ?_
  refine TL.box (ev_t rfl) rfl (fun g0_0 => ?_)
  refine TL.op (yq (y_assign ev_c)) rfl rfl rfl ?_
  refine TL.nil ?_
  refine TN.seq ?_
  refine TC.seq ?_
  refine TC.region ?_
  refine TL.op (yq (y_move (ev_t rfl))) rfl rfl rfl ?_
  refine TL.op (yq (y_len (ev_t rfl) Try.underlying25 (fun w hw => ((ri_arg ha) w hw).ln))) rfl rfl rfl ?_
  refine TL.op (yq (y_bldF (ev_t rfl) bd_48_f)) rfl rfl rfl ?_
  refine TL.box (ev_t rfl) rfl (fun g1_3 => ?_)
  refine TL.op (yq (y_assign (ev_t rfl))) rfl rfl rfl ?_
  refine TL.nil ?_
  refine TN.seq ?_
  refine TC.seq ?_
  refine TC.region ?_
  refine TL.op (yq (y_move (ev_t rfl))) rfl rfl rfl ?_
  refine TL.op (yq (y_move (ev_t rfl))) rfl rfl rfl ?_
  refine TL.build2 slT_22 (ev_t rfl) (ev_t rfl) (fun w hw => ((ri_arg ha) w hw).ln) (fun w hw => ((ri_arg hreqs) w hw).ln) rfl (fun v2_2 => ?_)
  refine TL.callr (ι := Value) (vs := [v2_2]) (fun i => i) (fun i => [rowI 3 i (F_slices_Concat_Sint_int ([a, reqs]))]) en_48 ⟨(ev_t rfl), trivial⟩ rfl (fun w hw => slices_Concat_Sint_int_ok w v2_2 ([va, vreqs]) ([a, reqs]) ((rii_two 0 rfl (ri_arg ha) (ri_arg hreqs)) w hw) (by first | assumption | omega | grind)) (fun r2_3 => ?_)
  refine TL.op (yq (y_assign (ev_t rfl))) rfl rfl rfl ?_
  refine TL.nil ?_
  refine TN.seq ?_
  refine TC.seq ?_
  refine TC.seq ?_
  refine TC.region ?_
  refine TL.op (yq (y_move (ev_t rfl))) rfl rfl rfl ?_
  refine TL.op (yq (y_len (ev_t rfl) Try.underlying25 (fun w hw => ((ri_arg hreqs) w hw).ln))) rfl rfl rfl ?_
  refine TL.op (yq (y_move ev_c)) rfl rfl rfl ?_
  refine TL.nil ?_
  refine TN.seq ?_
  refine TC.block ?_
  refine TC.cls (fun w hw => hw.nilTab 25 3) ?_
  obtain ⟨c63, hc64⟩ : ∃ c, F_impl_flowOf_L1 m a reqs ((reqs.length - 0) + 1) (0, ([])) = c := ⟨_, rfl⟩
  rw [hc64] at hF
  refine TC.loop (ι := Nat × Nat × List (List Int) × Value × List Value) (fun (fu1, k24_1, zg1_3_1_1, vzg1_3_1_1, uzg1_3_1_1) => [(1, va), (3, (.pointer (some ⟨g0_0, 0, none⟩))), (7, (.pointer (some ⟨g1_3, 0, none⟩))), (8, r2_3), (22, vreqs), (23, (.int .i64 (reqs.length : Int))), (24, (.int .i64 (k24_1 : Int)))]) (fun (fu1, k24_1, zg1_3_1_1, vzg1_3_1_1, uzg1_3_1_1) => Hp w [tabI 25 3 vzg1_3_1_1 uzg1_3_1_1 zg1_3_1_1, rowI 3 r2_3 (F_slices_Concat_Sint_int ([a, reqs])), .blk g1_3 48 [(.int .i64 (a.length : Int)), vzg1_3_1_1], .blk g0_0 29 [vm]]) (fun (fu1, k24_1, zg1_3_1_1, vzg1_3_1_1, uzg1_3_1_1) => (k24_1 ≤ reqs.length) ∧ (zg1_3_1_1.length = k24_1) ∧ reqs.length - k24_1 < fu1 ∧ F_impl_flowOf_L1 m a reqs fu1 (k24_1, zg1_3_1_1) = c63) (fun (fu1, k24_1, zg1_3_1_1, vzg1_3_1_1, uzg1_3_1_1) => fu1) ((reqs.length - 0) + 1, 0, [], (.slice none 0 0), []) ⟨(by first | omega | (simp [-List.getD_eq_getElem?_getD] <;> omega)), (by first | omega | (simp [-List.getD_eq_getElem?_getD] <;> omega)), (by omega), hc64⟩ ⟨rfl, rfl, rfl, rfl, rfl, rfl, rfl, trivial⟩ (fun w hw => Hp.sublist hw (.cons_cons _ (.cons_cons _ (.cons _ (.cons_cons _ (.cons_cons _ .slnil)))))) ?_
  rintro ⟨fu1, k24_1, zg1_3_1_1, vzg1_3_1_1, uzg1_3_1_1⟩ hJ1
  obtain ⟨hi1_0, hi1_1, hmu1, hL1⟩ : (k24_1 ≤ reqs.length) ∧ (zg1_3_1_1.length = k24_1) ∧ reqs.length - k24_1 < fu1 ∧ F_impl_flowOf_L1 m a reqs fu1 (k24_1, zg1_3_1_1) = c63 := hJ1
  change TC _ _ _ _ (Hp w [tabI 25 3 vzg1_3_1_1 uzg1_3_1_1 zg1_3_1_1, rowI 3 r2_3 (F_slices_Concat_Sint_int ([a, reqs])), .blk g1_3 48 [(.int .i64 (a.length : Int)), vzg1_3_1_1], .blk g0_0 29 [vm]]) [(1, va), (3, (.pointer (some ⟨g0_0, 0, none⟩))), (7, (.pointer (some ⟨g1_3, 0, none⟩))), (8, r2_3), (22, vreqs), (23, (.int .i64 (reqs.length : Int))), (24, (.int .i64 (k24_1 : Int)))]
  obtain ⟨mf1, rfl⟩ : ∃ m, fu1 = m + 1 := ⟨fu1 - 1, by omega⟩
  rw [F_impl_flowOf_L1_s] at hL1
  have hre := hp0.el k24_1
  have hfl := fun h => flow_ln a reqs (i := k24_1) h
  refine TC.seq ?_
  refine TC.region ?_
  refine TL.op (yq (y_lss (ev_t rfl) (ev_t rfl))) rfl rfl rfl ?_
  refine TL.nil ?_
  refine TN.seq ?_
  refine TC.seq ?_
  refine TC.cond (b := decide ((k24_1 : Int) < (reqs.length : Int))) (ev_t rfl) (fun h65 => ?_) (fun h65 => ?_)
  · rw [bif_pos h65] at hL1
    have q66 := (of_decide_eq_true h65)
    refine TC.skip ?_
    refine TN.seq ?_
    refine TC.seq ?_
    refine TC.block ?_
    refine TC.seq ?_
    refine TC.region ?_
    refine TL.op (yq (y_move (ev_t rfl))) rfl rfl rfl ?_
    have hb67 : k24_1 < reqs.length := (by first | omega | (simp only [List.length_set, List.length_append, List.length_cons, List.length_nil, List.length_replicate]; omega) | (rw [sortI_length]; simp only [List.length_cons, List.length_nil]; omega) | (simp only [ByteArray.size_append]; omega))
    refine TL.op (yq (y_idx (k := k24_1) (ev_t rfl) (ev_t rfl) (by first | omega | simp) slT_25 (ri_arg hreqs) hb67)) rfl rfl rfl ?_
    refine TL.op (yq (y_ldi (ev_t rfl) one_3 (ri_arg hreqs) hb67)) rfl rfl rfl ?_
    refine TL.op (yq (y_assign (ev_t rfl))) rfl rfl rfl ?_
    refine TL.op (yq (y_assign (ev_t rfl))) rfl rfl rfl ?_
    refine TL.nil ?_
    refine TN.seq ?_
    refine TC.seq ?_
    refine TC.region ?_
    refine TL.buildI (zs := [.const (.int .i64 1073741824)]) (qs := [1073741824]) slT_25 rfl ⟨ev_c, trivial⟩ rfl (by decide) rfl (fun v6_0 => ?_)
    refine TL.op (yq (y_move (ev_t rfl))) rfl rfl rfl ?_
    refine TL.op (yq (y_len (ev_t rfl) Try.underlying25 (fun w hw => ((ri_row 2 rfl) w hw).ln))) rfl rfl rfl ?_
    refine TL.callr (ι := Value) (vs := [v6_0, (.int .i64 ((F_slices_Concat_Sint_int ([a, reqs])).length : Int))]) (fun i => i) (fun i => [rowI 3 i (F_slices_Repeat_Sint_int ([1073741824]) ((F_slices_Concat_Sint_int ([a, reqs])).length : Int))]) en_37 ⟨(ev_t rfl), (ev_t rfl), trivial⟩ rfl (fun w hw => slices_Repeat_Sint_int_ok w v6_0 ([1073741824]) ((ri_row 0 rfl) w hw) ((F_slices_Concat_Sint_int ([a, reqs])).length : Int) (by first | omega | rfl) (by first | omega | rfl) (by first | omega | rfl)) (fun r6_3 => ?_)
    refine TL.op (yq (y_assign (ev_t rfl))) rfl rfl rfl ?_
    refine TL.nil ?_
    refine TN.seq ?_
    refine TC.seq ?_
    refine TC.seq ?_
    refine TC.region ?_
    refine TL.op (yq (y_move (ev_t rfl))) rfl rfl rfl ?_
    refine TL.op (yq (y_move (ev_t rfl))) rfl rfl rfl ?_
    refine TL.op (yq (y_len (ev_t rfl) Try.underlying25 (fun w hw => ((ri_arg ha) w hw).ln))) rfl rfl rfl ?_
    refine TL.op (yq (y_move (ev_t rfl))) rfl rfl rfl ?_
    refine TL.op (yq (y_add (ev_t rfl) (ev_t rfl) (by unfold In64; constructor <;> omega))) rfl rfl rfl ?_
    have hs68 : 0 ≤ (a.length + k24_1) := (by first | omega | (simp only [List.length_set, List.length_append, List.length_cons, List.length_nil, List.length_replicate]; omega) | (rw [sortI_length]; simp only [List.length_cons, List.length_nil]; omega) | (simp only [ByteArray.size_append]; omega))
    have hs69 : (a.length + k24_1) ≤ (F_slices_Concat_Sint_int ([a, reqs])).length := (by first | omega | (simp only [List.length_set, List.length_append, List.length_cons, List.length_nil, List.length_replicate]; omega) | (rw [sortI_length]; simp only [List.length_cons, List.length_nil]; omega) | (simp only [ByteArray.size_append]; omega))
    refine TL.op (yq (y_slice_hi (ev_t rfl) (ev_t rfl) (hi := (a.length + k24_1)) (by omega) slT_25 (ri_row 3 rfl) hs69)) rfl rfl rfl ?_
    refine TL.op (yq (y_len (ev_t rfl) Try.underlying25 (fun w hw => ((fun w hw => ri_resl ((ri_row 3 rfl) w hw) hs68 hs69) w hw).ln))) rfl rfl rfl ?_
    refine TL.op (yq (y_move ev_c)) rfl rfl rfl ?_
    refine TL.nil ?_
    refine TN.seq ?_
    refine TC.block ?_
    obtain ⟨c70, hc71⟩ : ∃ c, F_impl_flowOf_L2 m a reqs k24_1 ((((((F_slices_Concat_Sint_int ([a, reqs])).take (a.length + k24_1)).drop 0).length) - 0) + 1) (0, (F_slices_Repeat_Sint_int ([1073741824]) ((F_slices_Concat_Sint_int ([a, reqs])).length : Int))) = c := ⟨_, rfl⟩
    rw [hc71] at hL1
    refine TC.loop (ι := Nat × Nat × List Int) (fun (fu2, k40_2, m0_2) => [(1, va), (3, (.pointer (some ⟨g0_0, 0, none⟩))), (7, (.pointer (some ⟨g1_3, 0, none⟩))), (8, r2_3), (10, (.int .i64 (reqs.getD k24_1 0))), (11, r6_3), (22, vreqs), (23, (.int .i64 (reqs.length : Int))), (24, (.int .i64 (k24_1 : Int))), (38, (resl r2_3 0 (a.length + k24_1) 1)), (39, (.int .i64 ((((F_slices_Concat_Sint_int ([a, reqs])).take (a.length + k24_1)).drop 0).length : Int))), (40, (.int .i64 (k40_2 : Int)))]) (fun (fu2, k40_2, m0_2) => Hp w [rowI 3 r6_3 m0_2, tabI 25 3 vzg1_3_1_1 uzg1_3_1_1 zg1_3_1_1, rowI 3 r2_3 (F_slices_Concat_Sint_int ([a, reqs])), .blk g1_3 48 [(.int .i64 (a.length : Int)), vzg1_3_1_1], .blk g0_0 29 [vm]]) (fun (fu2, k40_2, m0_2) => (k40_2 ≤ ((((F_slices_Concat_Sint_int ([a, reqs])).take (a.length + k24_1)).drop 0).length)) ∧ (m0_2.length = a.length + reqs.length) ∧ ((((F_slices_Concat_Sint_int ([a, reqs])).take (a.length + k24_1)).drop 0).length) - k40_2 < fu2 ∧ F_impl_flowOf_L2 m a reqs k24_1 fu2 (k40_2, m0_2) = c70) (fun (fu2, k40_2, m0_2) => fu2) ((((((F_slices_Concat_Sint_int ([a, reqs])).take (a.length + k24_1)).drop 0).length) - 0) + 1, 0, (F_slices_Repeat_Sint_int ([1073741824]) ((F_slices_Concat_Sint_int ([a, reqs])).length : Int))) ⟨(by first | omega | (simp [-List.getD_eq_getElem?_getD] <;> omega)), (by rw [repeat_eq _ _ (by omega) (by omega)]; simp; omega), (by omega), hc71⟩ ⟨rfl, rfl, rfl, rfl, rfl, rfl, rfl, rfl, rfl, rfl, rfl, rfl, trivial⟩ (fun w hw => Hp.sublist hw (.cons_cons _ (.cons _ (.cons_cons _ (.cons_cons _ (.cons_cons _ (.cons_cons _ .slnil))))))) ?_
    rintro ⟨fu2, k40_2, m0_2⟩ hJ2
    obtain ⟨hi2_0, hi2_1, hmu2, hL2⟩ : (k40_2 ≤ ((((F_slices_Concat_Sint_int ([a, reqs])).take (a.length + k24_1)).drop 0).length)) ∧ (m0_2.length = a.length + reqs.length) ∧ ((((F_slices_Concat_Sint_int ([a, reqs])).take (a.length + k24_1)).drop 0).length) - k40_2 < fu2 ∧ F_impl_flowOf_L2 m a reqs k24_1 fu2 (k40_2, m0_2) = c70 := hJ2
    change TC _ _ _ _ (Hp w [rowI 3 r6_3 m0_2, tabI 25 3 vzg1_3_1_1 uzg1_3_1_1 zg1_3_1_1, rowI 3 r2_3 (F_slices_Concat_Sint_int ([a, reqs])), .blk g1_3 48 [(.int .i64 (a.length : Int)), vzg1_3_1_1], .blk g0_0 29 [vm]]) [(1, va), (3, (.pointer (some ⟨g0_0, 0, none⟩))), (7, (.pointer (some ⟨g1_3, 0, none⟩))), (8, r2_3), (10, (.int .i64 (reqs.getD k24_1 0))), (11, r6_3), (22, vreqs), (23, (.int .i64 (reqs.length : Int))), (24, (.int .i64 (k24_1 : Int))), (38, (resl r2_3 0 (a.length + k24_1) 1)), (39, (.int .i64 ((((F_slices_Concat_Sint_int ([a, reqs])).take (a.length + k24_1)).drop 0).length : Int))), (40, (.int .i64 (k40_2 : Int)))]
    obtain ⟨mf2, rfl⟩ : ∃ m, fu2 = m + 1 := ⟨fu2 - 1, by omega⟩
    rw [F_impl_flowOf_L2_s] at hL2
    have hfa := hfl (by omega)
    have hpe := fun h => flow_pt hp0 (i := k24_1) (by omega) k40_2 h
    have hrw := hTab.rows ((((F_slices_Concat_Sint_int ([a, reqs])).take (a.length + k24_1)).drop 0).getD k40_2 0).toNat
    refine TC.seq ?_
    refine TC.region ?_
    refine TL.op (yq (y_lss (ev_t rfl) (ev_t rfl))) rfl rfl rfl ?_
    refine TL.nil ?_
    refine TN.seq ?_
    refine TC.seq ?_
    refine TC.cond (b := decide ((k40_2 : Int) < ((((F_slices_Concat_Sint_int ([a, reqs])).take (a.length + k24_1)).drop 0).length : Int))) (ev_t rfl) (fun h72 => ?_) (fun h72 => ?_)
    · rw [bif_pos h72] at hL2
      have q73 := (of_decide_eq_true h72)
      refine TC.skip ?_
      refine TN.seq ?_
      refine TC.seq ?_
      refine TC.block ?_
      refine TC.seq ?_
      refine TC.region ?_
      refine TL.op (yq (y_move (ev_t rfl))) rfl rfl rfl ?_
      have hb74 : k40_2 < (((F_slices_Concat_Sint_int ([a, reqs])).take (a.length + k24_1)).drop 0).length := (by first | omega | (simp only [List.length_set, List.length_append, List.length_cons, List.length_nil, List.length_replicate]; omega) | (rw [sortI_length]; simp only [List.length_cons, List.length_nil]; omega) | (simp only [ByteArray.size_append]; omega))
      refine TL.op (yq (y_idx (k := k40_2) (ev_t rfl) (ev_t rfl) (by first | omega | simp) slT_25 (fun w hw => ri_resl ((ri_row 2 rfl) w hw) hs68 hs69) hb74)) rfl rfl rfl ?_
      refine TL.op (yq (y_ldi (ev_t rfl) one_3 (fun w hw => ri_resl ((ri_row 2 rfl) w hw) hs68 hs69) hb74)) rfl rfl rfl ?_
      refine TL.op (yq (y_assign (ev_t rfl))) rfl rfl rfl ?_
      refine TL.op (yq (y_assign (ev_t rfl))) rfl rfl rfl ?_
      refine TL.nil ?_
      refine TN.seq ?_
      refine TC.region ?_
      refine TL.op (yq (y_move (ev_t rfl))) rfl rfl rfl ?_
      refine TL.op (yq (y_move (ev_t rfl))) rfl rfl rfl ?_
      refine TL.op (yq (y_fa (fa_29_0 g0_0) (ev_t rfl))) rfl rfl rfl ?_
      refine TL.op (yq (y_ldb 4 (ev_t rfl) one_22 rfl rfl)) rfl rfl rfl ?_
      refine TL.op (yq (y_move (ev_t rfl))) rfl rfl rfl ?_
      have hb75 : (((((F_slices_Concat_Sint_int ([a, reqs])).take (a.length + k24_1)).drop 0).getD k40_2 0)).toNat < m.length := (by first | omega | (simp only [List.length_set, List.length_append, List.length_cons, List.length_nil, List.length_replicate]; omega) | (rw [sortI_length]; simp only [List.length_cons, List.length_nil]; omega) | (simp only [ByteArray.size_append]; omega))
      refine TL.op (yq (y_idx (k := (((((F_slices_Concat_Sint_int ([a, reqs])).take (a.length + k24_1)).drop 0).getD k40_2 0)).toNat) (ev_t rfl) (ev_t rfl) (by first | omega | simp) slT_22 (fun w hw => ((rii_arg hm) w hw).1) hb75)) rfl rfl rfl ?_
      have ha76 := hm.row (i := (((((F_slices_Concat_Sint_int ([a, reqs])).take (a.length + k24_1)).drop 0).getD k40_2 0)).toNat) hb75
      refine TL.op (yq (y_ldA (ev_t rfl) one_25 (rii_arg hm) hb75)) rfl rfl rfl ?_
      refine TL.op (yq (y_move (ev_t rfl))) rfl rfl rfl ?_
      have hb77 : ((reqs.getD k24_1 0)).toNat < (m.getD ((((((F_slices_Concat_Sint_int ([a, reqs])).take (a.length + k24_1)).drop 0).getD k40_2 0)).toNat) []).length := (by first | omega | (simp only [List.length_set, List.length_append, List.length_cons, List.length_nil, List.length_replicate]; omega) | (rw [sortI_length]; simp only [List.length_cons, List.length_nil]; omega) | (simp only [ByteArray.size_append]; omega))
      refine TL.op (yq (y_idx (k := ((reqs.getD k24_1 0)).toNat) (ev_t rfl) (ev_t rfl) (by first | omega | simp) slT_25 (ri_arg ha76) hb77)) rfl rfl rfl ?_
      refine TL.op (yq (y_ldi (ev_t rfl) one_3 (ri_arg ha76) hb77)) rfl rfl rfl ?_
      have hb78 : k40_2 < m0_2.length := (by first | omega | (simp only [List.length_set, List.length_append, List.length_cons, List.length_nil, List.length_replicate]; omega) | (rw [sortI_length]; simp only [List.length_cons, List.length_nil]; omega) | (simp only [ByteArray.size_append]; omega))
      refine TL.op (yq (y_idx (k := k40_2) (ev_t rfl) (ev_t rfl) (by first | omega | simp) slT_25 (ri_row 0 rfl) hb78)) rfl rfl rfl ?_
      refine TL.storeI 0 (ev_t rfl) (ev_t rfl) one_3 rfl hb78 ?_
      refine TL.nil ?_
      refine TN.blockN ?_
      refine TN.seq ?_
      refine TC.region ?_
      refine TL.op (yq (y_add (ev_t rfl) ev_c (by unfold In64; constructor <;> omega))) rfl rfl rfl ?_
      refine TL.op (yq (y_move (ev_t rfl))) rfl rfl rfl ?_
      refine TL.nil ?_
      exact TN.hand (mf2, (k40_2 + 1), (m0_2.set k40_2 ((m.getD ((((((F_slices_Concat_Sint_int ([a, reqs])).take (a.length + k24_1)).drop 0).getD k40_2 0)).toNat) []).getD (((reqs.getD k24_1 0)).toNat) 0))) ⟨(by first | omega | (simp [-List.getD_eq_getElem?_getD] <;> omega)), (by simp only [List.length_set]; exact hi2_1), (by omega), hL2⟩ (Nat.lt_succ_self _) ⟨rfl, rfl, rfl, rfl, rfl, rfl, rfl, rfl, rfl, rfl, rfl, rfl, trivial⟩ (fun w hw => hw)
    · rw [bif_neg h72] at hL2
      have q73 := (of_decide_eq_false h72)
      refine TC.exit ?_
      refine TN.thenE ?_
      refine TN.thenE ?_
      rw [← hL2, elim_next] at hL1
      try dsimp only at hL1
      refine TN.blockH ?_
      refine TN.seq ?_
      refine TC.region ?_
      refine TL.op (yq (y_move (ev_t rfl))) rfl rfl rfl ?_
      refine TL.op (yq (y_move (ev_t rfl))) rfl rfl rfl ?_
      refine TL.op (yq (y_nilp (ev_t rfl))) rfl rfl rfl ?_
      refine TL.op (yq (y_fa (fa_48_1 g1_3) (ev_t rfl))) rfl rfl rfl ?_
      refine TL.op (yq (y_ldb 3 (ev_t rfl) one_22 rfl rfl)) rfl rfl rfl ?_
      refine TL.op (yq (y_move (ev_t rfl))) rfl rfl rfl ?_
      refine TL.buildU slT_22 (ev_t rfl) (fun w hw => ((ri_row 0 rfl) w hw).ln) rfl (fun v12_6 => ?_)
      refine TL.appendT 2 1 rfl (ev_t rfl) (ev_t rfl) rfl rfl slT_22 (rd_row 0 rfl) (by first | omega | (simp [-List.getD_eq_getElem?_getD] <;> omega)) rfl (fun v12_7 => ?_)
      refine TL.op (yq (y_nilp (ev_t rfl))) rfl rfl rfl ?_
      refine TL.op (yq (y_fa (fa_48_1 g1_3) (ev_t rfl))) rfl rfl rfl ?_
      refine TL.storeB 4 (ev_t rfl) (ev_t rfl) one_22 rfl (by first | decide | simp) (fun w hw => (ln_one ((fun w hw => ((rii_tab 2 rfl) w hw).1) w hw).ln)) ?_
      refine TL.nil ?_
      refine TN.blockN ?_
      refine TN.seq ?_
      refine TC.region ?_
      refine TL.op (yq (y_add (ev_t rfl) ev_c (by unfold In64; constructor <;> omega))) rfl rfl rfl ?_
      refine TL.op (yq (y_move (ev_t rfl))) rfl rfl rfl ?_
      refine TL.nil ?_
      exact TN.hand (mf1, (k24_1 + 1), (zg1_3_1_1 ++ [m0_2]), v12_7, (uzg1_3_1_1 ++ [r6_3])) ⟨(by first | omega | (simp [-List.getD_eq_getElem?_getD] <;> omega)), (by first | omega | (simp [-List.getD_eq_getElem?_getD] <;> omega)), (by omega), hL1⟩ (Nat.lt_succ_self _) ⟨rfl, rfl, rfl, rfl, rfl, rfl, rfl, trivial⟩ (fun w hw => Hp.sublist hw (.cons _ (.cons _ (.cons_cons _ (.cons_cons _ (.cons_cons _ (.cons_cons _ .slnil)))))))
  · rw [bif_neg h65] at hL1
    have q66 := (of_decide_eq_false h65)
    refine TC.exit ?_
    refine TN.thenE ?_
    refine TN.thenE ?_
    rw [← hL1, elim_next] at hF
    try dsimp only at hF
    refine TN.blockH ?_
    refine TN.seq ?_
    refine TC.seq ?_
    refine TC.region ?_
    refine TL.op (yq (y_move (ev_t rfl))) rfl rfl rfl ?_
    refine TL.op (yq (y_assign (ev_t rfl))) rfl rfl rfl ?_
    refine TL.nil ?_
    refine TN.seq ?_
    refine TC.ret ?_
    subst hF
    exact TN.ret1 rfl (ev_t rfl) (fun w' hw => ⟨(g1_3, vzg1_3_1_1, uzg1_3_1_1), rfl, Hp.picks [2, 0] (by decide) rfl hw⟩)

set_option maxRecDepth 4000 in
set_option maxHeartbeats 1000000 in
theorem spec_l7Point_ok (w : World) (va : Value) (a : List Int) (ha : RI w va a) (vreqs : Value) (reqs : List Int) (hreqs : RI w vreqs reqs) (l : Int) (hp0 : 0 ≤ l) (hp1 : l < a.length + reqs.length) (hp2 : a.length ≤ 3) (hp3 : reqs.length ≤ 60) :
    Calls Try.prog 57 ([va, vreqs, (.int .i64 l)] : List Value).toArray w (Ret (.int .i64 (F_spec_l7Point a reqs l)) (Hp w [])) := by
  obtain ⟨rz, hF⟩ : ∃ rz, (F_spec_l7Point a reqs l) = rz := ⟨_, rfl⟩
  rw [hF]
  unfold F_spec_l7Point at hF
  have hlen_a := arg_len ha
  have hlen_reqs := arg_len hreqs
  refine calls_tc Try.func57 rfl rfl rfl ?_
  change TC _ _ _ _ (Hp w []) [(0, va), (1, vreqs), (2, (.int .i64 l))]
  refine TC.seq ?_
  refine TC.region ?_
  refine TL.op (yq (y_assign ev_c)) rfl rfl rfl ?_
  refine TL.nil ?_
  refine TN.seq ?_
  refine TC.seq ?_
  refine TC.seq ?_
  refine TC.region ?_
  refine TL.op (yq (y_move (ev_t rfl))) rfl rfl rfl ?_
  refine TL.op (yq (y_move (ev_t rfl))) rfl rfl rfl ?_
  refine TL.op (yq (y_len (ev_t rfl) Try.underlying25 (fun w hw => ((ri_arg ha) w hw).ln))) rfl rfl rfl ?_
  refine TL.op (yq (y_lss (ev_t rfl) (ev_t rfl))) rfl rfl rfl ?_
  refine TL.nil ?_
  refine TN.seq ?_
  refine TC.cond (b := decide (l < (a.length : Int))) (ev_t rfl) (fun h5 => ?_) (fun h5 => ?_)
  · rw [bif_pos h5] at hF
    have q6 := (of_decide_eq_true h5)
    refine TC.seq ?_
    refine TC.region ?_
    refine TL.op (yq (y_move (ev_t rfl))) rfl rfl rfl ?_
    refine TL.op (yq (y_move (ev_t rfl))) rfl rfl rfl ?_
    have hb7 : (l).toNat < a.length := (by first | omega | (simp only [List.length_set, List.length_append, List.length_cons, List.length_nil, List.length_replicate]; omega) | (rw [sortI_length]; simp only [List.length_cons, List.length_nil]; omega) | (simp only [ByteArray.size_append]; omega))
    refine TL.op (yq (y_idx (k := (l).toNat) (ev_t rfl) (ev_t rfl) (by first | omega | simp) slT_25 (ri_arg ha) hb7)) rfl rfl rfl ?_
    refine TL.op (yq (y_ldi (ev_t rfl) one_3 (ri_arg ha) hb7)) rfl rfl rfl ?_
    refine TL.op (yq (y_assign (ev_t rfl))) rfl rfl rfl ?_
    refine TL.nil ?_
    refine TN.seq ?_
    refine TC.ret ?_
    refine TN.thenR ?_
    subst hF
    exact TN.ret1 rfl (ev_t rfl) (fun w' hw => ⟨rfl, hw⟩)
  · rw [bif_neg h5] at hF
    have q6 := (of_decide_eq_false h5)
    refine TC.skip ?_
    refine TN.seq ?_
    refine TC.seq ?_
    refine TC.region ?_
    refine TL.op (yq (y_move (ev_t rfl))) rfl rfl rfl ?_
    refine TL.op (yq (y_move (ev_t rfl))) rfl rfl rfl ?_
    refine TL.op (yq (y_move (ev_t rfl))) rfl rfl rfl ?_
    refine TL.op (yq (y_len (ev_t rfl) Try.underlying25 (fun w hw => ((ri_arg ha) w hw).ln))) rfl rfl rfl ?_
    refine TL.op (yq (y_sub (ev_t rfl) (ev_t rfl) (by unfold In64; constructor <;> omega))) rfl rfl rfl ?_
    have hb8 : (l - (a.length : Int)).toNat < reqs.length := (by first | omega | (simp only [List.length_set, List.length_append, List.length_cons, List.length_nil, List.length_replicate]; omega) | (rw [sortI_length]; simp only [List.length_cons, List.length_nil]; omega) | (simp only [ByteArray.size_append]; omega))
    refine TL.op (yq (y_idx (k := (l - (a.length : Int)).toNat) (ev_t rfl) (ev_t rfl) (by first | omega | simp) slT_25 (ri_arg hreqs) hb8)) rfl rfl rfl ?_
    refine TL.op (yq (y_ldi (ev_t rfl) one_3 (ri_arg hreqs) hb8)) rfl rfl rfl ?_
    refine TL.op (yq (y_assign (ev_t rfl))) rfl rfl rfl ?_
    refine TL.nil ?_
    refine TN.seq ?_
    refine TC.ret ?_
    subst hF
    exact TN.ret1 rfl (ev_t rfl) (fun w' hw => ⟨rfl, hw⟩)

set_option maxRecDepth 4000 in
set_option maxHeartbeats 1000000 in
theorem spec_l7Gap_ok (w : World) (vm : Value) (um : List Value) (m : List (List Int)) (hm : RII w vm um m) (va : Value) (a : List Int) (ha : RI w va a) (vreqs : Value) (reqs : List Int) (hreqs : RI w vreqs reqs) (l : Int) (i : Int) (hp0 : Sv m a reqs) (hp1 : 0 ≤ l) (hp2 : l < a.length + reqs.length) (hp3 : 0 ≤ i) (hp4 : i < reqs.length) :
    Calls Try.prog 43 ([(.agg #[vm]), va, vreqs, (.int .i64 l), (.int .i64 i)] : List Value).toArray w (Ret (.int .i64 (F_spec_l7Gap m a reqs l i)) (Hp w [])) := by
  obtain ⟨rz, hF⟩ : ∃ rz, (F_spec_l7Gap m a reqs l i) = rz := ⟨_, rfl⟩
  rw [hF]
  unfold F_spec_l7Gap at hF
  have hTab := hp0.tab
  have hn3 := hp0.cf.n3
  have hr60 := hp0.r60
  have hpt : F_spec_l7Point a reqs l = (a ++ reqs).getD l.toNat 0 := by have := point_app a reqs l.toNat; rwa [Int.toNat_of_nonneg hp1] at this
  have hpe := app_el hp0.cf.el hp0.el l.toNat (by omega)
  have hre := hp0.el i.toNat (by omega)
  have hrw := hTab.rows (F_spec_l7Point a reqs l).toNat
  have hlen_m := argT_len hm
  have hlen_a := arg_len ha
  have hlen_reqs := arg_len hreqs
  refine calls_tc Try.func43 rfl rfl rfl ?_
  change TC _ _ _ _ (Hp w []) [(0, (.agg #[vm])), (1, va), (2, vreqs), (3, (.int .i64 l)), (4, (.int .i64 i))]
  refine TC.seq ?_
  refine TC.region ?_
  refine TL.box (ev_t rfl) rfl (fun g0_0 => ?_)
  refine TL.op (yq (y_assign ev_c)) rfl rfl rfl ?_
  refine TL.nil ?_
  refine TN.seq ?_
  refine TC.seq ?_
  refine TC.regionQ (by kernel_rfl) (by kernel_rfl) dr_hp ?_
  refine TQ.op (yq (y_fa (fa_29_0 g0_0) (ev_t rfl))) rfl rfl rfl ?_
  refine TQ.op (yq (y_ldb 0 (ev_t rfl) one_22 rfl rfl)) rfl rfl rfl ?_
  refine TQ.op (yq (y_move (ev_t rfl))) rfl rfl rfl ?_
  refine TQ.op (yq (y_move (ev_t rfl))) rfl rfl rfl ?_
  refine TQ.op (yq (y_move (ev_t rfl))) rfl rfl rfl ?_
  refine TQ.op (y_call (vs := [va, vreqs, (.int .i64 l)]) (v := (.int .i64 (F_spec_l7Point a reqs l))) en_57 ⟨(ev_t rfl), (ev_t rfl), (ev_t rfl), trivial⟩ (fun w hw => spec_l7Point_ok w va a ((ri_arg ha) w hw) vreqs reqs ((ri_arg hreqs) w hw) l (by first | assumption | omega | grind) (by first | assumption | omega | grind) (by first | assumption | omega | grind) (by first | assumption | omega | grind))) rfl rfl rfl ?_
  have hb5 : ((F_spec_l7Point a reqs l)).toNat < m.length := (by first | omega | (simp only [List.length_set, List.length_append, List.length_cons, List.length_nil, List.length_replicate]; omega) | (rw [sortI_length]; simp only [List.length_cons, List.length_nil]; omega) | (simp only [ByteArray.size_append]; omega))
  refine TQ.op (yq (y_idx (k := ((F_spec_l7Point a reqs l)).toNat) (ev_t rfl) (ev_t rfl) (by first | omega | simp) slT_22 (fun w hw => ((rii_arg hm) w hw).1) hb5)) rfl rfl rfl ?_
  have ha6 := hm.row (i := ((F_spec_l7Point a reqs l)).toNat) hb5
  refine TQ.op (yq (y_ldA (ev_t rfl) one_25 (rii_arg hm) hb5)) rfl rfl rfl ?_
  refine TQ.op (yq (y_move (ev_t rfl))) rfl rfl rfl ?_
  refine TQ.op (yq (y_move (ev_t rfl))) rfl rfl rfl ?_
  have hb7 : (i).toNat < reqs.length := (by first | omega | (simp only [List.length_set, List.length_append, List.length_cons, List.length_nil, List.length_replicate]; omega) | (rw [sortI_length]; simp only [List.length_cons, List.length_nil]; omega) | (simp only [ByteArray.size_append]; omega))
  refine TQ.op (yq (y_idx (k := (i).toNat) (ev_t rfl) (ev_t rfl) (by first | omega | simp) slT_25 (ri_arg hreqs) hb7)) rfl rfl rfl ?_
  refine TQ.op (yq (y_ldi (ev_t rfl) one_3 (ri_arg hreqs) hb7)) rfl rfl rfl ?_
  have hb8 : ((reqs.getD ((i).toNat) 0)).toNat < (m.getD (((F_spec_l7Point a reqs l)).toNat) []).length := (by first | omega | (simp only [List.length_set, List.length_append, List.length_cons, List.length_nil, List.length_replicate]; omega) | (rw [sortI_length]; simp only [List.length_cons, List.length_nil]; omega) | (simp only [ByteArray.size_append]; omega))
  refine TQ.op (yq (y_idx (k := ((reqs.getD ((i).toNat) 0)).toNat) (ev_t rfl) (ev_t rfl) (by first | omega | simp) slT_25 (ri_arg ha6) hb8)) rfl rfl rfl ?_
  refine TQ.op (yq (y_ldi (ev_t rfl) one_3 (ri_arg ha6) hb8)) rfl rfl rfl ?_
  refine TQ.op (yq (y_assign (ev_t rfl))) rfl rfl rfl ?_
  refine TQ.nil ?_
  refine TN.seq ?_
  refine TC.ret ?_
  subst hF
  exact TN.ret1 rfl (ev_t rfl) (fun w' hw => ⟨rfl, Hp.sublist hw (List.nil_sublist _)⟩)

set_option maxRecDepth 4000 in
set_option maxHeartbeats 1000000 in
theorem spec_l7Holders_ok (w : World) (many : Int) (vbefore : Value) (before : List Int) (hbefore : RI w vbefore before) (hp0 : 0 ≤ many) (hp1 : many ≤ 1000000) (hp2 : ∀ i, i < before.length → 0 ≤ before.getD i 0 ∧ before.getD i 0 < many) (hp3 : before.length ≤ 1000) :
    Calls Try.prog 58 ([(.int .i64 many), vbefore] : List Value).toArray w (fun e w' => ∃ i : Value, e = .returned i ∧ Hp w [rowI 3 i (F_spec_l7Holders many before)] w') := by
  obtain ⟨rz, hF⟩ : ∃ rz, (F_spec_l7Holders many before) = rz := ⟨_, rfl⟩
  rw [hF]
  unfold F_spec_l7Holders at hF
  have hlen_before := arg_len hbefore
  refine calls_tc Try.func58 rfl rfl rfl ?_
  change TC _ _ _ _ (Hp w []) [(0, (.int .i64 many)), (1, vbefore)]
  refine TC.seq ?_
  refine TC.region ?_
  refine TL.op (yq (y_assign ev_c)) rfl rfl rfl ?_
  refine TL.nil ?_
  refine TN.seq ?_
  refine TC.seq ?_
  refine TC.region ?_
  refine TL.op (yq (y_move (ev_t rfl))) rfl rfl rfl ?_
  refine TL.makeSlice (n := (many).toNat) (ev_t rfl) (ev_t rfl) (by omega) slT_25 rfl (by omega) (by unfold maxLen; omega) rfl (fun v1_1 => ?_)
  refine TL.cls (fun w hw => hw.zeros) ?_
  refine TL.op (yq (y_assign (ev_t rfl))) rfl rfl rfl ?_
  refine TL.nil ?_
  refine TN.seq ?_
  refine TC.seq ?_
  refine TC.seq ?_
  refine TC.region ?_
  refine TL.op (yq (y_assign ev_c)) rfl rfl rfl ?_
  refine TL.nil ?_
  refine TN.seq ?_
  refine TC.block ?_
  obtain ⟨c22, hc23⟩ : ∃ c, F_spec_l7Holders_L1 many ((((many).toNat) - 0) + 1) (0, (List.replicate ((many).toNat) (0 : Int))) = c := ⟨_, rfl⟩
  rw [hc23] at hF
  refine TC.loop (ι := Nat × Nat × List Int) (fun (fu1, l1, out1) => [(0, (.int .i64 many)), (1, vbefore), (5, v1_1), (6, (.int .i64 (l1 : Int)))]) (fun (fu1, l1, out1) => Hp w [rowI 3 v1_1 out1]) (fun (fu1, l1, out1) => (l1 ≤ ((many).toNat)) ∧ (out1.length = many.toNat) ∧ ((many).toNat) - l1 < fu1 ∧ F_spec_l7Holders_L1 many fu1 (l1, out1) = c22) (fun (fu1, l1, out1) => fu1) ((((many).toNat) - 0) + 1, 0, (List.replicate ((many).toNat) (0 : Int))) ⟨(by first | omega | (simp [-List.getD_eq_getElem?_getD] <;> omega)), (by first | omega | (simp [-List.getD_eq_getElem?_getD] <;> omega)), (by omega), hc23⟩ ⟨rfl, rfl, rfl, rfl, trivial⟩ (fun w hw => hw) ?_
  rintro ⟨fu1, l1, out1⟩ hJ1
  obtain ⟨hi1_0, hi1_1, hmu1, hL1⟩ : (l1 ≤ ((many).toNat)) ∧ (out1.length = many.toNat) ∧ ((many).toNat) - l1 < fu1 ∧ F_spec_l7Holders_L1 many fu1 (l1, out1) = c22 := hJ1
  change TC _ _ _ _ (Hp w [rowI 3 v1_1 out1]) [(0, (.int .i64 many)), (1, vbefore), (5, v1_1), (6, (.int .i64 (l1 : Int)))]
  obtain ⟨mf1, rfl⟩ : ∃ m, fu1 = m + 1 := ⟨fu1 - 1, by omega⟩
  rw [F_spec_l7Holders_L1_s] at hL1
  refine TC.seq ?_
  refine TC.seq ?_
  refine TC.region ?_
  refine TL.op (yq (y_move (ev_t rfl))) rfl rfl rfl ?_
  refine TL.op (yq (y_move (ev_t rfl))) rfl rfl rfl ?_
  refine TL.op (yq (y_lss (ev_t rfl) (ev_t rfl))) rfl rfl rfl ?_
  refine TL.nil ?_
  refine TN.seq ?_
  refine TC.cond (b := decide ((l1 : Int) < many)) (ev_t rfl) (fun h24 => ?_) (fun h24 => ?_)
  · rw [bif_pos h24] at hL1
    have q25 := (of_decide_eq_true h24)
    refine TC.skip ?_
    refine TN.seq ?_
    refine TC.seq ?_
    refine TC.block ?_
    refine TC.region ?_
    refine TL.op (yq (y_move (ev_t rfl))) rfl rfl rfl ?_
    refine TL.op (yq (y_move (ev_t rfl))) rfl rfl rfl ?_
    have hb26 : l1 < out1.length := (by first | omega | (simp only [List.length_set, List.length_append, List.length_cons, List.length_nil, List.length_replicate]; omega) | (rw [sortI_length]; simp only [List.length_cons, List.length_nil]; omega) | (simp only [ByteArray.size_append]; omega))
    refine TL.op (yq (y_idx (k := l1) (ev_t rfl) (ev_t rfl) (by first | omega | simp) slT_25 (ri_row 0 rfl) hb26)) rfl rfl rfl ?_
    refine TL.storeI 0 (ev_t rfl) ev_c one_3 rfl hb26 ?_
    refine TL.nil ?_
    refine TN.blockN ?_
    refine TN.seq ?_
    refine TC.region ?_
    refine TL.op (yq (y_move (ev_t rfl))) rfl rfl rfl ?_
    refine TL.op (yq (y_add (ev_t rfl) ev_c (by unfold In64; constructor <;> omega))) rfl rfl rfl ?_
    refine TL.op (yq (y_assign (ev_t rfl))) rfl rfl rfl ?_
    refine TL.nil ?_
    exact TN.hand (mf1, (l1 + 1), (out1.set l1 (-1))) ⟨(by first | omega | (simp [-List.getD_eq_getElem?_getD] <;> omega)), (by first | omega | (simp [-List.getD_eq_getElem?_getD] <;> omega)), (by omega), hL1⟩ (Nat.lt_succ_self _) ⟨rfl, rfl, rfl, rfl, trivial⟩ (fun w hw => hw)
  · rw [bif_neg h24] at hL1
    have q25 := (of_decide_eq_false h24)
    refine TC.exit ?_
    refine TN.thenE ?_
    refine TN.thenE ?_
    rw [← hL1, elim_next] at hF
    try dsimp only at hF
    refine TN.blockH ?_
    refine TN.seq ?_
    refine TC.seq ?_
    refine TC.seq ?_
    refine TC.region ?_
    refine TL.op (yq (y_assign ev_c)) rfl rfl rfl ?_
    refine TL.nil ?_
    refine TN.seq ?_
    refine TC.block ?_
    obtain ⟨c27, hc28⟩ : ∃ c, F_spec_l7Holders_L2 before ((before.length - 0) + 1) (0, out1) = c := ⟨_, rfl⟩
    rw [hc28] at hF
    refine TC.loop (ι := Nat × Nat × List Int) (fun (fu2, i2, out2) => [(1, vbefore), (5, v1_1), (7, (.int .i64 (i2 : Int)))]) (fun (fu2, i2, out2) => Hp w [rowI 3 v1_1 out2]) (fun (fu2, i2, out2) => (i2 ≤ before.length) ∧ (out2.length = many.toNat) ∧ before.length - i2 < fu2 ∧ F_spec_l7Holders_L2 before fu2 (i2, out2) = c27) (fun (fu2, i2, out2) => fu2) ((before.length - 0) + 1, 0, out1) ⟨(by first | omega | (simp [-List.getD_eq_getElem?_getD] <;> omega)), (by first | omega | (simp [-List.getD_eq_getElem?_getD] <;> omega)), (by omega), hc28⟩ ⟨rfl, rfl, rfl, trivial⟩ (fun w hw => hw) ?_
    rintro ⟨fu2, i2, out2⟩ hJ2
    obtain ⟨hi2_0, hi2_1, hmu2, hL2⟩ : (i2 ≤ before.length) ∧ (out2.length = many.toNat) ∧ before.length - i2 < fu2 ∧ F_spec_l7Holders_L2 before fu2 (i2, out2) = c27 := hJ2
    change TC _ _ _ _ (Hp w [rowI 3 v1_1 out2]) [(1, vbefore), (5, v1_1), (7, (.int .i64 (i2 : Int)))]
    obtain ⟨mf2, rfl⟩ : ∃ m, fu2 = m + 1 := ⟨fu2 - 1, by omega⟩
    rw [F_spec_l7Holders_L2_s] at hL2
    have hbe := hp2 i2
    refine TC.seq ?_
    refine TC.seq ?_
    refine TC.region ?_
    refine TL.op (yq (y_move (ev_t rfl))) rfl rfl rfl ?_
    refine TL.op (yq (y_move (ev_t rfl))) rfl rfl rfl ?_
    refine TL.op (yq (y_len (ev_t rfl) Try.underlying25 (fun w hw => ((ri_arg hbefore) w hw).ln))) rfl rfl rfl ?_
    refine TL.op (yq (y_lss (ev_t rfl) (ev_t rfl))) rfl rfl rfl ?_
    refine TL.nil ?_
    refine TN.seq ?_
    refine TC.cond (b := decide ((i2 : Int) < (before.length : Int))) (ev_t rfl) (fun h29 => ?_) (fun h29 => ?_)
    · rw [bif_pos h29] at hL2
      have q30 := (of_decide_eq_true h29)
      refine TC.skip ?_
      refine TN.seq ?_
      refine TC.seq ?_
      refine TC.block ?_
      refine TC.region ?_
      refine TL.op (yq (y_move (ev_t rfl))) rfl rfl rfl ?_
      refine TL.op (yq (y_move (ev_t rfl))) rfl rfl rfl ?_
      refine TL.op (yq (y_move (ev_t rfl))) rfl rfl rfl ?_
      have hb31 : i2 < before.length := (by first | omega | (simp only [List.length_set, List.length_append, List.length_cons, List.length_nil, List.length_replicate]; omega) | (rw [sortI_length]; simp only [List.length_cons, List.length_nil]; omega) | (simp only [ByteArray.size_append]; omega))
      refine TL.op (yq (y_idx (k := i2) (ev_t rfl) (ev_t rfl) (by first | omega | simp) slT_25 (ri_arg hbefore) hb31)) rfl rfl rfl ?_
      refine TL.op (yq (y_ldi (ev_t rfl) one_3 (ri_arg hbefore) hb31)) rfl rfl rfl ?_
      refine TL.op (yq (y_move (ev_t rfl))) rfl rfl rfl ?_
      have hb32 : ((before.getD i2 0)).toNat < out2.length := (by first | omega | (simp only [List.length_set, List.length_append, List.length_cons, List.length_nil, List.length_replicate]; omega) | (rw [sortI_length]; simp only [List.length_cons, List.length_nil]; omega) | (simp only [ByteArray.size_append]; omega))
      refine TL.op (yq (y_idx (k := ((before.getD i2 0)).toNat) (ev_t rfl) (ev_t rfl) (by first | omega | simp) slT_25 (ri_row 0 rfl) hb32)) rfl rfl rfl ?_
      refine TL.storeI 0 (ev_t rfl) (ev_t rfl) one_3 rfl hb32 ?_
      refine TL.nil ?_
      refine TN.blockN ?_
      refine TN.seq ?_
      refine TC.region ?_
      refine TL.op (yq (y_move (ev_t rfl))) rfl rfl rfl ?_
      refine TL.op (yq (y_add (ev_t rfl) ev_c (by unfold In64; constructor <;> omega))) rfl rfl rfl ?_
      refine TL.op (yq (y_assign (ev_t rfl))) rfl rfl rfl ?_
      refine TL.nil ?_
      exact TN.hand (mf2, (i2 + 1), (out2.set (((before.getD i2 0)).toNat) (i2 : Int))) ⟨(by first | omega | (simp [-List.getD_eq_getElem?_getD] <;> omega)), (by first | omega | (simp [-List.getD_eq_getElem?_getD] <;> omega)), (by omega), hL2⟩ (Nat.lt_succ_self _) ⟨rfl, rfl, rfl, trivial⟩ (fun w hw => hw)
    · rw [bif_neg h29] at hL2
      have q30 := (of_decide_eq_false h29)
      refine TC.exit ?_
      refine TN.thenE ?_
      refine TN.thenE ?_
      rw [← hL2, elim_next] at hF
      try dsimp only at hF
      refine TN.blockH ?_
      refine TN.seq ?_
      refine TC.seq ?_
      refine TC.region ?_
      refine TL.op (yq (y_move (ev_t rfl))) rfl rfl rfl ?_
      refine TL.op (yq (y_assign (ev_t rfl))) rfl rfl rfl ?_
      refine TL.nil ?_
      refine TN.seq ?_
      refine TC.ret ?_
      subst hF
      exact TN.ret1 rfl (ev_t rfl) (fun w' hw => ⟨v1_1, rfl, hw⟩)

end Go.Proofs.Ytgnikdpgndmldaa
namespace Go.Proofs.Ytgnikdpgndmldaa
set_option linter.unusedVariables false
set_option linter.unusedSimpArgs false
open Go Go.RowKit
set_option linter.unusedVariables false

set_option maxRecDepth 4000 in
set_option maxHeartbeats 1000000 in
theorem spec_l7Reach_ok (w : World) (vm : Value) (um : List Value) (m : List (List Int)) (hm : RII w vm um m) (va : Value) (a : List Int) (ha : RI w va a) (vreqs : Value) (reqs : List Int) (hreqs : RI w vreqs reqs) (vbefore : Value) (before : List Int) (hbefore : RI w vbefore before) (vholders : Value) (holders : List Int) (hholders : RI w vholders holders) (hp0 : ∃ p r, Rq m a reqs before holders p r) :
    Calls Try.prog 59 ([(.agg #[vm]), va, vreqs, vbefore, vholders] : List Value).toArray w (fun e w' => ∃ i : Value × Value, e = .returned (.tuple #[i.1, i.2]) ∧ Hp w [rowI 3 i.1 ((F_spec_l7Reach m a reqs before holders).1), rowI 3 i.2 ((F_spec_l7Reach m a reqs before holders).2)] w') := by
  obtain ⟨rz, hF⟩ : ∃ rz, (F_spec_l7Reach m a reqs before holders) = rz := ⟨_, rfl⟩
  rw [hF]
  unfold F_spec_l7Reach at hF
  obtain ⟨p, r, hq⟩ := hp0
  have hS := hq.sv
  have hn3 := hS.cf.n3
  have hr60 := hS.r60
  have hir := hq.ir
  have hlh := hq.pre.lh
  have hga := fun l i : Int => gap_any hS l i
  have hgi := fun k : Nat => hq.hold k
  have hlen_m := argT_len hm
  have hlen_a := arg_len ha
  have hlen_reqs := arg_len hreqs
  have hlen_before := arg_len hbefore
  have hlen_holders := arg_len hholders
  refine calls_tc Try.func59 rfl rfl rfl ?_
  change TC _ _ _ _ (Hp w []) [(0, (.agg #[vm])), (1, va), (2, vreqs), (3, vbefore), (4, vholders)]
  refine TC.seq ?_
  refine TC.region ?_
  refine TL.box (ev_t rfl) rfl (fun g0_0 => ?_)
  refine TL.op (yq (y_assign ev_c)) rfl rfl rfl ?_
  refine TL.op (yq (y_assign ev_c)) rfl rfl rfl ?_
  refine TL.nil ?_
  refine TN.seq ?_
  refine TC.seq ?_
  refine TC.region ?_
  refine TL.op (yq (y_move (ev_t rfl))) rfl rfl rfl ?_
  refine TL.op (yq (y_len (ev_t rfl) Try.underlying25 (fun w hw => ((ri_arg hbefore) w hw).ln))) rfl rfl rfl ?_
  refine TL.op (yq (y_assign (ev_t rfl))) rfl rfl rfl ?_
  refine TL.nil ?_
  refine TN.seq ?_
  refine TC.seq ?_
  refine TC.region ?_
  refine TL.op (yq (y_move (ev_t rfl))) rfl rfl rfl ?_
  refine TL.op (yq (y_add (ev_t rfl) ev_c (by unfold In64; constructor <;> omega))) rfl rfl rfl ?_
  refine TL.makeSlice (n := (before.length + 1)) (ev_t rfl) (ev_t rfl) (by omega) slT_25 rfl (by omega) (by unfold maxLen; omega) rfl (fun v2_2 => ?_)
  refine TL.cls (fun w hw => hw.zeros) ?_
  refine TL.op (yq (y_assign (ev_t rfl))) rfl rfl rfl ?_
  refine TL.nil ?_
  refine TN.seq ?_
  refine TC.seq ?_
  refine TC.region ?_
  refine TL.op (yq (y_move (ev_t rfl))) rfl rfl rfl ?_
  refine TL.op (yq (y_add (ev_t rfl) ev_c (by unfold In64; constructor <;> omega))) rfl rfl rfl ?_
  refine TL.makeSlice (n := (before.length + 1)) (ev_t rfl) (ev_t rfl) (by omega) slT_25 rfl (by omega) (by unfold maxLen; omega) rfl (fun v3_2 => ?_)
  refine TL.cls (fun w hw => hw.zeros) ?_
  refine TL.op (yq (y_assign (ev_t rfl))) rfl rfl rfl ?_
  refine TL.nil ?_
  refine TN.seq ?_
  refine TC.seq ?_
  refine TC.seq ?_
  refine TC.region ?_
  refine TL.op (yq (y_assign ev_c)) rfl rfl rfl ?_
  refine TL.nil ?_
  refine TN.seq ?_
  refine TC.block ?_
  obtain ⟨c82, hc83⟩ : ∃ c, F_spec_l7Reach_L1 before ((before.length - 0) + 1) (0, (List.replicate (before.length + 1) (0 : Int))) = c := ⟨_, rfl⟩
  rw [hc83] at hF
  refine TC.loop (ι := Nat × Nat × List Int) (fun (fu1, k15_1, m0_1) => [(1, va), (2, vreqs), (4, vholders), (5, (.pointer (some ⟨g0_0, 0, none⟩))), (12, (.int .i64 (before.length : Int))), (13, v2_2), (14, v3_2), (15, (.int .i64 (k15_1 : Int)))]) (fun (fu1, k15_1, m0_1) => Hp w [rowI 3 v3_2 (List.replicate (before.length + 1) (0 : Int)), rowI 3 v2_2 m0_1, .blk g0_0 29 [vm]]) (fun (fu1, k15_1, m0_1) => (k15_1 ≤ before.length) ∧ (m0_1.length = before.length + 1) ∧ (∀ x, x ≤ before.length → m0_1.getD x 0 = if x < k15_1 then 1099511627776 else 0) ∧ before.length - k15_1 < fu1 ∧ F_spec_l7Reach_L1 before fu1 (k15_1, m0_1) = c82) (fun (fu1, k15_1, m0_1) => fu1) ((before.length - 0) + 1, 0, (List.replicate (before.length + 1) (0 : Int))) ⟨(by first | omega | (simp [-List.getD_eq_getElem?_getD] <;> omega)), (by first | omega | (simp [-List.getD_eq_getElem?_getD] <;> omega)), (fun x hx => by rw [getD_rep _ _ _ _ (by omega)]; rfl), (by omega), hc83⟩ ⟨rfl, rfl, rfl, rfl, rfl, rfl, rfl, rfl, trivial⟩ (fun w hw => hw) ?_
  rintro ⟨fu1, k15_1, m0_1⟩ hJ1
  obtain ⟨hi1_0, hi1_1, hi1_2, hmu1, hL1⟩ : (k15_1 ≤ before.length) ∧ (m0_1.length = before.length + 1) ∧ (∀ x, x ≤ before.length → m0_1.getD x 0 = if x < k15_1 then 1099511627776 else 0) ∧ before.length - k15_1 < fu1 ∧ F_spec_l7Reach_L1 before fu1 (k15_1, m0_1) = c82 := hJ1
  change TC _ _ _ _ (Hp w [rowI 3 v3_2 (List.replicate (before.length + 1) (0 : Int)), rowI 3 v2_2 m0_1, .blk g0_0 29 [vm]]) [(1, va), (2, vreqs), (4, vholders), (5, (.pointer (some ⟨g0_0, 0, none⟩))), (12, (.int .i64 (before.length : Int))), (13, v2_2), (14, v3_2), (15, (.int .i64 (k15_1 : Int)))]
  obtain ⟨mf1, rfl⟩ : ∃ m, fu1 = m + 1 := ⟨fu1 - 1, by omega⟩
  rw [F_spec_l7Reach_L1_s] at hL1
  refine TC.seq ?_
  refine TC.seq ?_
  refine TC.region ?_
  refine TL.op (yq (y_move (ev_t rfl))) rfl rfl rfl ?_
  refine TL.op (yq (y_move (ev_t rfl))) rfl rfl rfl ?_
  refine TL.op (yq (y_lss (ev_t rfl) (ev_t rfl))) rfl rfl rfl ?_
  refine TL.nil ?_
  refine TN.seq ?_
  refine TC.cond (b := decide ((k15_1 : Int) < (before.length : Int))) (ev_t rfl) (fun h84 => ?_) (fun h84 => ?_)
  · rw [bif_pos h84] at hL1
    have q85 := (of_decide_eq_true h84)
    refine TC.skip ?_
    refine TN.seq ?_
    refine TC.seq ?_
    refine TC.block ?_
    refine TC.region ?_
    refine TL.op (yq (y_move (ev_t rfl))) rfl rfl rfl ?_
    refine TL.op (yq (y_move (ev_t rfl))) rfl rfl rfl ?_
    have hb86 : k15_1 < m0_1.length := (by first | omega | (simp only [List.length_set, List.length_append, List.length_cons, List.length_nil, List.length_replicate]; omega) | (rw [sortI_length]; simp only [List.length_cons, List.length_nil]; omega) | (simp only [ByteArray.size_append]; omega))
    refine TL.op (yq (y_idx (k := k15_1) (ev_t rfl) (ev_t rfl) (by first | omega | simp) slT_25 (ri_row 1 rfl) hb86)) rfl rfl rfl ?_
    refine TL.storeI 1 (ev_t rfl) ev_c one_3 rfl hb86 ?_
    refine TL.nil ?_
    refine TN.blockN ?_
    refine TN.seq ?_
    refine TC.region ?_
    refine TL.op (yq (y_move (ev_t rfl))) rfl rfl rfl ?_
    refine TL.op (yq (y_add (ev_t rfl) ev_c (by unfold In64; constructor <;> omega))) rfl rfl rfl ?_
    refine TL.op (yq (y_assign (ev_t rfl))) rfl rfl rfl ?_
    refine TL.nil ?_
    exact TN.hand (mf1, (k15_1 + 1), (m0_1.set k15_1 1099511627776)) ⟨(by first | omega | (simp [-List.getD_eq_getElem?_getD] <;> omega)), (by first | omega | (simp [-List.getD_eq_getElem?_getD] <;> omega)), (reach_fill hi1_1 hi1_2), (by omega), hL1⟩ (Nat.lt_succ_self _) ⟨rfl, rfl, rfl, rfl, rfl, rfl, rfl, rfl, trivial⟩ (fun w hw => hw)
  · rw [bif_neg h84] at hL1
    have q85 := (of_decide_eq_false h84)
    refine TC.exit ?_
    refine TN.thenE ?_
    refine TN.thenE ?_
    rw [← hL1, elim_next] at hF
    try dsimp only at hF
    have hk15 : k15_1 = before.length := by omega
    have hbi := hq.init hi1_1 (by rw [hk15] at hi1_2; exact hi1_2)
    refine TN.blockH ?_
    refine TN.seq ?_
    refine TC.seq ?_
    refine TC.seq ?_
    refine TC.region ?_
    refine TL.op (yq (y_assign ev_c)) rfl rfl rfl ?_
    refine TL.nil ?_
    refine TN.seq ?_
    refine TC.block ?_
    obtain ⟨c87, hc88⟩ : ∃ c, F_spec_l7Reach_L2 m a reqs before holders ((2 * (Th.lsum m0_1 + 1000000).toNat + (bif true then 1 else 0)) + 1) (true, (List.replicate (before.length + 1) (0 : Int)), m0_1) = c := ⟨_, rfl⟩
    rw [hc88] at hF
    refine TC.loop (ι := Nat × Bool × List Int × List Int) (fun (fu2, k16_2, m0_2, m1_2) => [(1, va), (2, vreqs), (4, vholders), (5, (.pointer (some ⟨g0_0, 0, none⟩))), (12, (.int .i64 (before.length : Int))), (13, v2_2), (14, v3_2), (16, (.bool k16_2))]) (fun (fu2, k16_2, m0_2, m1_2) => Hp w [rowI 3 v3_2 m0_2, rowI 3 v2_2 m1_2, .blk g0_0 29 [vm]]) (fun (fu2, k16_2, m0_2, m1_2) => (Th.Bf before.length a.length (fun l x => gap m a reqs l x) holders p m1_2 m0_2) ∧ 2 * (Th.lsum m1_2 + 1000000).toNat + (bif k16_2 then 1 else 0) < fu2 ∧ F_spec_l7Reach_L2 m a reqs before holders fu2 (k16_2, m0_2, m1_2) = c87) (fun (fu2, k16_2, m0_2, m1_2) => fu2) ((2 * (Th.lsum m0_1 + 1000000).toNat + (bif true then 1 else 0)) + 1, true, (List.replicate (before.length + 1) (0 : Int)), m0_1) ⟨hbi, (by omega), hc88⟩ ⟨rfl, rfl, rfl, rfl, rfl, rfl, rfl, rfl, trivial⟩ (fun w hw => hw) ?_
    rintro ⟨fu2, k16_2, m0_2, m1_2⟩ hJ2
    obtain ⟨hi2_0, hmu2, hL2⟩ : (Th.Bf before.length a.length (fun l x => gap m a reqs l x) holders p m1_2 m0_2) ∧ 2 * (Th.lsum m1_2 + 1000000).toNat + (bif k16_2 then 1 else 0) < fu2 ∧ F_spec_l7Reach_L2 m a reqs before holders fu2 (k16_2, m0_2, m1_2) = c87 := hJ2
    change TC _ _ _ _ (Hp w [rowI 3 v3_2 m0_2, rowI 3 v2_2 m1_2, .blk g0_0 29 [vm]]) [(1, va), (2, vreqs), (4, vholders), (5, (.pointer (some ⟨g0_0, 0, none⟩))), (12, (.int .i64 (before.length : Int))), (13, v2_2), (14, v3_2), (16, (.bool k16_2))]
    obtain ⟨mf2, rfl⟩ : ∃ m, fu2 = m + 1 := ⟨fu2 - 1, by omega⟩
    rw [F_spec_l7Reach_L2_s] at hL2
    refine TC.seq ?_
    refine TC.seq ?_
    refine TC.region ?_
    refine TL.op (yq (y_move (ev_t rfl))) rfl rfl rfl ?_
    refine TL.nil ?_
    refine TN.seq ?_
    refine TC.cond (b := k16_2) (ev_t rfl) (fun h89 => ?_) (fun h89 => ?_)
    · rw [bif_pos h89] at hL2
      have q90 := h89
      have hb1 : (bif k16_2 then 1 else 0 : Nat) = 1 := by rw [q90]; rfl
      refine TC.skip ?_
      refine TN.seq ?_
      refine TC.block ?_
      refine TC.seq ?_
      refine TC.region ?_
      refine TL.op (yq (y_assign ev_c)) rfl rfl rfl ?_
      refine TL.nil ?_
      refine TN.seq ?_
      refine TC.seq ?_
      refine TC.region ?_
      refine TL.op (yq (y_assign ev_c)) rfl rfl rfl ?_
      refine TL.nil ?_
      refine TN.seq ?_
      refine TC.block ?_
      obtain ⟨c91, hc92⟩ : ∃ c, F_spec_l7Reach_L3 m a reqs before holders ((before.length + 1 - 0) + 1) (false, 0, m0_2, m1_2) = c := ⟨_, rfl⟩
      rw [hc92] at hL2
      refine TC.loop (ι := Nat × Bool × Nat × List Int × List Int) (fun (fu3, k16_3, k17_3, m0_3, m1_3) => [(1, va), (2, vreqs), (4, vholders), (5, (.pointer (some ⟨g0_0, 0, none⟩))), (12, (.int .i64 (before.length : Int))), (13, v2_2), (14, v3_2), (16, (.bool k16_3)), (17, (.int .i64 (k17_3 : Int)))]) (fun (fu3, k16_3, k17_3, m0_3, m1_3) => Hp w [rowI 3 v3_2 m0_3, rowI 3 v2_2 m1_3, .blk g0_0 29 [vm]]) (fun (fu3, k16_3, k17_3, m0_3, m1_3) => (Th.Bf before.length a.length (fun l x => gap m a reqs l x) holders p m1_3 m0_3) ∧ (Th.Rnd k16_3 m1_3 m1_2) ∧ (k17_3 ≤ before.length + 1) ∧ before.length + 1 - k17_3 < fu3 ∧ F_spec_l7Reach_L3 m a reqs before holders fu3 (k16_3, k17_3, m0_3, m1_3) = c91) (fun (fu3, k16_3, k17_3, m0_3, m1_3) => fu3) ((before.length + 1 - 0) + 1, false, 0, m0_2, m1_2) ⟨hi2_0, (Th.Rnd.init _), (by first | omega | (simp [-List.getD_eq_getElem?_getD] <;> omega)), (by omega), hc92⟩ ⟨rfl, rfl, rfl, rfl, rfl, rfl, rfl, rfl, rfl, trivial⟩ (fun w hw => hw) ?_
      rintro ⟨fu3, k16_3, k17_3, m0_3, m1_3⟩ hJ3
      obtain ⟨hi3_0, hi3_1, hi3_2, hmu3, hL3⟩ : (Th.Bf before.length a.length (fun l x => gap m a reqs l x) holders p m1_3 m0_3) ∧ (Th.Rnd k16_3 m1_3 m1_2) ∧ (k17_3 ≤ before.length + 1) ∧ before.length + 1 - k17_3 < fu3 ∧ F_spec_l7Reach_L3 m a reqs before holders fu3 (k16_3, k17_3, m0_3, m1_3) = c91 := hJ3
      change TC _ _ _ _ (Hp w [rowI 3 v3_2 m0_3, rowI 3 v2_2 m1_3, .blk g0_0 29 [vm]]) [(1, va), (2, vreqs), (4, vholders), (5, (.pointer (some ⟨g0_0, 0, none⟩))), (12, (.int .i64 (before.length : Int))), (13, v2_2), (14, v3_2), (16, (.bool k16_3)), (17, (.int .i64 (k17_3 : Int)))]
      obtain ⟨mf3, rfl⟩ : ∃ m, fu3 = m + 1 := ⟨fu3 - 1, by omega⟩
      rw [F_spec_l7Reach_L3_s] at hL3
      refine TC.seq ?_
      refine TC.seq ?_
      refine TC.region ?_
      refine TL.op (yq (y_move (ev_t rfl))) rfl rfl rfl ?_
      refine TL.op (yq (y_move (ev_t rfl))) rfl rfl rfl ?_
      refine TL.op (yq (y_leq (ev_t rfl) (ev_t rfl))) rfl rfl rfl ?_
      refine TL.nil ?_
      refine TN.seq ?_
      refine TC.cond (b := decide ((k17_3 : Int) ≤ (before.length : Int))) (ev_t rfl) (fun h93 => ?_) (fun h93 => ?_)
      · rw [bif_pos h93] at hL3
        have q94 := (of_decide_eq_true h93)
        refine TC.skip ?_
        refine TN.seq ?_
        refine TC.seq ?_
        refine TC.block ?_
        refine TC.seq ?_
        refine TC.region ?_
        refine TL.op (yq (y_assign ev_c)) rfl rfl rfl ?_
        refine TL.nil ?_
        refine TN.seq ?_
        refine TC.block ?_
        obtain ⟨c95, hc96⟩ : ∃ c, F_spec_l7Reach_L4 m a reqs holders k17_3 ((a.length + k17_3 - 0) + 1) (k16_3, 0, m0_3, m1_3) = c := ⟨_, rfl⟩
        rw [hc96] at hL3
        refine TC.loop (ι := Nat × Bool × Nat × List Int × List Int) (fun (fu4, k16_4, k18_4, m0_4, m1_4) => [(1, va), (2, vreqs), (4, vholders), (5, (.pointer (some ⟨g0_0, 0, none⟩))), (12, (.int .i64 (before.length : Int))), (13, v2_2), (14, v3_2), (16, (.bool k16_4)), (17, (.int .i64 (k17_3 : Int))), (18, (.int .i64 (k18_4 : Int)))]) (fun (fu4, k16_4, k18_4, m0_4, m1_4) => Hp w [rowI 3 v3_2 m0_4, rowI 3 v2_2 m1_4, .blk g0_0 29 [vm]]) (fun (fu4, k16_4, k18_4, m0_4, m1_4) => (Th.Bf before.length a.length (fun l x => gap m a reqs l x) holders p m1_4 m0_4) ∧ (Th.Rnd k16_4 m1_4 m1_2) ∧ (k18_4 ≤ a.length + k17_3) ∧ a.length + k17_3 - k18_4 < fu4 ∧ F_spec_l7Reach_L4 m a reqs holders k17_3 fu4 (k16_4, k18_4, m0_4, m1_4) = c95) (fun (fu4, k16_4, k18_4, m0_4, m1_4) => fu4) ((a.length + k17_3 - 0) + 1, k16_3, 0, m0_3, m1_3) ⟨hi3_0, hi3_1, (by first | omega | (simp [-List.getD_eq_getElem?_getD] <;> omega)), (by omega), hc96⟩ ⟨rfl, rfl, rfl, rfl, rfl, rfl, rfl, rfl, rfl, rfl, trivial⟩ (fun w hw => hw) ?_
        rintro ⟨fu4, k16_4, k18_4, m0_4, m1_4⟩ hJ4
        obtain ⟨hi4_0, hi4_1, hi4_2, hmu4, hL4⟩ : (Th.Bf before.length a.length (fun l x => gap m a reqs l x) holders p m1_4 m0_4) ∧ (Th.Rnd k16_4 m1_4 m1_2) ∧ (k18_4 ≤ a.length + k17_3) ∧ a.length + k17_3 - k18_4 < fu4 ∧ F_spec_l7Reach_L4 m a reqs holders k17_3 fu4 (k16_4, k18_4, m0_4, m1_4) = c95 := hJ4
        change TC _ _ _ _ (Hp w [rowI 3 v3_2 m0_4, rowI 3 v2_2 m1_4, .blk g0_0 29 [vm]]) [(1, va), (2, vreqs), (4, vholders), (5, (.pointer (some ⟨g0_0, 0, none⟩))), (12, (.int .i64 (before.length : Int))), (13, v2_2), (14, v3_2), (16, (.bool k16_4)), (17, (.int .i64 (k17_3 : Int))), (18, (.int .i64 (k18_4 : Int)))]
        obtain ⟨mf4, rfl⟩ : ∃ m, fu4 = m + 1 := ⟨fu4 - 1, by omega⟩
        rw [F_spec_l7Reach_L4_s] at hL4
        have hl4 := hi4_0.lf
        have hm4 := hi4_0.lm
        have hgk := hgi k18_4
        have hg1 := hga (k18_4 : Int) (k17_3 : Int)
        have hg2 := hga (k18_4 : Int) (holders.getD k18_4 0)
        have hb4 := (hi4_0.low hq.pre).1 k17_3 (by omega)
        refine TC.seq ?_
        refine TC.seq ?_
        refine TC.region ?_
        refine TL.op (yq (y_move (ev_t rfl))) rfl rfl rfl ?_
        refine TL.op (yq (y_move (ev_t rfl))) rfl rfl rfl ?_
        refine TL.op (yq (y_len (ev_t rfl) Try.underlying25 (fun w hw => ((ri_arg ha) w hw).ln))) rfl rfl rfl ?_
        refine TL.op (yq (y_move (ev_t rfl))) rfl rfl rfl ?_
        refine TL.op (yq (y_add (ev_t rfl) (ev_t rfl) (by unfold In64; constructor <;> omega))) rfl rfl rfl ?_
        refine TL.op (yq (y_lss (ev_t rfl) (ev_t rfl))) rfl rfl rfl ?_
        refine TL.op (yq (y_move (ev_t rfl))) rfl rfl rfl ?_
        refine TL.opw (w_t rfl rfl rfl) (fun hg => yq (y_move (ev_t rfl))) rfl rfl ?_
        refine TL.opw (w_t rfl rfl rfl) (fun hg => yq (y_move (ev_t rfl))) rfl rfl ?_
        refine TL.opw (w_t rfl rfl rfl) (fun hg => yq (y_idx (k := k17_3) (ev_g rfl hg) (ev_g rfl hg) (by have hgf := (of_decide_eq_true hg); first | omega | simp) slT_25 (ri_row 1 rfl) (show k17_3 < m1_4.length by have hgf := (of_decide_eq_true hg); omega))) rfl rfl ?_
        refine TL.opw (w_t rfl rfl rfl) (fun hg => yq (y_ldi (ev_g rfl hg) one_3 (ri_row 1 rfl) (show k17_3 < m1_4.length by have hgf := (of_decide_eq_true hg); omega))) rfl rfl ?_
        refine TL.opw (w_t rfl rfl rfl) (fun hg => yq (y_lss (ev_g rfl hg) ev_c)) rfl rfl ?_
        refine TL.op (yq (y_and (ev_t rfl) (fun hq => (ev_g rfl hq)))) rfl rfl rfl ?_
        refine TL.nil ?_
        refine TN.seq ?_
        refine TC.cond (b := ((decide ((k18_4 : Int) < (a.length : Int) + (k17_3 : Int))) && (decide ((m1_4.getD k17_3 0) < 1099511627776)))) (ev_t rfl) (fun h97 => ?_) (fun h97 => ?_)
        · rw [bif_pos h97] at hL4
          have q98 := (and_imp (and_t h97) (fun h => (of_decide_eq_true h)) (fun h => (of_decide_eq_true h)))
          refine TC.skip ?_
          refine TN.seq ?_
          refine TC.seq ?_
          refine TC.block ?_
          refine TC.seq ?_
          refine TC.region ?_
          refine TL.op (yq (y_move (ev_t rfl))) rfl rfl rfl ?_
          refine TL.op (yq (y_move (ev_t rfl))) rfl rfl rfl ?_
          have hb99 : k18_4 < holders.length := (by first | omega | (simp only [List.length_set, List.length_append, List.length_cons, List.length_nil, List.length_replicate]; omega) | (rw [sortI_length]; simp only [List.length_cons, List.length_nil]; omega) | (simp only [ByteArray.size_append]; omega))
          refine TL.op (yq (y_idx (k := k18_4) (ev_t rfl) (ev_t rfl) (by first | omega | simp) slT_25 (ri_arg hholders) hb99)) rfl rfl rfl ?_
          refine TL.op (yq (y_ldi (ev_t rfl) one_3 (ri_arg hholders) hb99)) rfl rfl rfl ?_
          refine TL.op (yq (y_assign (ev_t rfl))) rfl rfl rfl ?_
          refine TL.nil ?_
          refine TN.seq ?_
          refine TC.seq ?_
          refine TC.regionQ (by kernel_rfl) (by kernel_rfl) dr_hp ?_
          refine TQ.op (yq (y_move (ev_t rfl))) rfl rfl rfl ?_
          refine TQ.op (yq (y_geq (ev_t rfl) ev_c)) rfl rfl rfl ?_
          refine TQ.op (yq (y_move (ev_t rfl))) rfl rfl rfl ?_
          refine TQ.opw (w_t rfl rfl rfl) (fun hg => yq (y_move (ev_t rfl))) rfl rfl ?_
          refine TQ.opw (w_t rfl rfl rfl) (fun hg => yq (y_move (ev_t rfl))) rfl rfl ?_
          refine TQ.opw (w_t rfl rfl rfl) (fun hg => yq (y_idx (k := k17_3) (ev_g rfl hg) (ev_g rfl hg) (by have hgf := (of_decide_eq_true hg); first | omega | simp) slT_25 (ri_row 1 rfl) (show k17_3 < m1_4.length by have hgf := (of_decide_eq_true hg); omega))) rfl rfl ?_
          refine TQ.opw (w_t rfl rfl rfl) (fun hg => yq (y_ldi (ev_g rfl hg) one_3 (ri_row 1 rfl) (show k17_3 < m1_4.length by have hgf := (of_decide_eq_true hg); omega))) rfl rfl ?_
          refine TQ.opw (w_t rfl rfl rfl) (fun hg => yq (y_ldagg (cs := [vm]) 2 (ev_t rfl) agg_29 rfl)) rfl rfl ?_
          refine TQ.opw (w_t rfl rfl rfl) (fun hg => yq (y_move (ev_t rfl))) rfl rfl ?_
          refine TQ.opw (w_t rfl rfl rfl) (fun hg => yq (y_move (ev_t rfl))) rfl rfl ?_
          refine TQ.opw (w_t rfl rfl rfl) (fun hg => yq (y_move (ev_t rfl))) rfl rfl ?_
          refine TQ.opw (w_t rfl rfl rfl) (fun hg => yq (y_move (ev_t rfl))) rfl rfl ?_
          refine TQ.opw (w_t rfl rfl rfl) (fun hg => y_call (vs := [(.agg #[vm]), va, vreqs, (.int .i64 (k18_4 : Int)), (.int .i64 (k17_3 : Int))]) (v := (.int .i64 (F_spec_l7Gap m a reqs (k18_4 : Int) (k17_3 : Int)))) en_43 ⟨(ev_g rfl hg), (ev_g rfl hg), (ev_g rfl hg), (ev_g rfl hg), (ev_g rfl hg), trivial⟩ (fun w hw => spec_l7Gap_ok w vm um m ((rii_arg hm) w hw) va a ((ri_arg ha) w hw) vreqs reqs ((ri_arg hreqs) w hw) (k18_4 : Int) (k17_3 : Int) (by have hgf := (of_decide_eq_true hg); first | assumption | omega | (have hq := hgf.n6; omega) | (have hq := hgf.1.n6; omega) | grind) (by have hgf := (of_decide_eq_true hg); first | assumption | omega | (have hq := hgf.n6; omega) | (have hq := hgf.1.n6; omega) | grind) (by have hgf := (of_decide_eq_true hg); first | assumption | omega | (have hq := hgf.n6; omega) | (have hq := hgf.1.n6; omega) | grind) (by have hgf := (of_decide_eq_true hg); first | assumption | omega | (have hq := hgf.n6; omega) | (have hq := hgf.1.n6; omega) | grind) (by have hgf := (of_decide_eq_true hg); first | assumption | omega | (have hq := hgf.n6; omega) | (have hq := hgf.1.n6; omega) | grind))) rfl rfl ?_
          refine TQ.opw (w_t rfl rfl rfl) (fun hg => yq (y_add (ev_g rfl hg) (ev_g rfl hg) (by unfold In64; constructor <;> omega))) rfl rfl ?_
          refine TQ.opw (w_t rfl rfl rfl) (fun hg => yq (y_ldagg (cs := [vm]) 2 (ev_t rfl) agg_29 rfl)) rfl rfl ?_
          refine TQ.opw (w_t rfl rfl rfl) (fun hg => yq (y_move (ev_t rfl))) rfl rfl ?_
          refine TQ.opw (w_t rfl rfl rfl) (fun hg => yq (y_move (ev_t rfl))) rfl rfl ?_
          refine TQ.opw (w_t rfl rfl rfl) (fun hg => yq (y_move (ev_t rfl))) rfl rfl ?_
          refine TQ.opw (w_t rfl rfl rfl) (fun hg => yq (y_move (ev_t rfl))) rfl rfl ?_
          refine TQ.opw (w_t rfl rfl rfl) (fun hg => y_call (vs := [(.agg #[vm]), va, vreqs, (.int .i64 (k18_4 : Int)), (.int .i64 (holders.getD k18_4 0))]) (v := (.int .i64 (F_spec_l7Gap m a reqs (k18_4 : Int) (holders.getD k18_4 0)))) en_43 ⟨(ev_g rfl hg), (ev_g rfl hg), (ev_g rfl hg), (ev_g rfl hg), (ev_g rfl hg), trivial⟩ (fun w hw => spec_l7Gap_ok w vm um m ((rii_arg hm) w hw) va a ((ri_arg ha) w hw) vreqs reqs ((ri_arg hreqs) w hw) (k18_4 : Int) (holders.getD k18_4 0) (by have hgf := (of_decide_eq_true hg); first | assumption | omega | (have hq := hgf.n6; omega) | (have hq := hgf.1.n6; omega) | grind) (by have hgf := (of_decide_eq_true hg); first | assumption | omega | (have hq := hgf.n6; omega) | (have hq := hgf.1.n6; omega) | grind) (by have hgf := (of_decide_eq_true hg); first | assumption | omega | (have hq := hgf.n6; omega) | (have hq := hgf.1.n6; omega) | grind) (by have hgf := (of_decide_eq_true hg); first | assumption | omega | (have hq := hgf.n6; omega) | (have hq := hgf.1.n6; omega) | grind) (by have hgf := (of_decide_eq_true hg); first | assumption | omega | (have hq := hgf.n6; omega) | (have hq := hgf.1.n6; omega) | grind))) rfl rfl ?_
          refine TQ.opw (w_t rfl rfl rfl) (fun hg => yq (y_sub (ev_g rfl hg) (ev_g rfl hg) (by unfold In64; constructor <;> omega))) rfl rfl ?_
          refine TQ.opw (w_t rfl rfl rfl) (fun hg => yq (y_move (ev_t rfl))) rfl rfl ?_
          refine TQ.opw (w_t rfl rfl rfl) (fun hg => yq (y_move (ev_t rfl))) rfl rfl ?_
          refine TQ.opw (w_t rfl rfl rfl) (fun hg => yq (y_idx (k := ((holders.getD k18_4 0)).toNat) (ev_g rfl hg) (ev_g rfl hg) (by have hgf := (of_decide_eq_true hg); first | omega | simp) slT_25 (ri_row 1 rfl) (show ((holders.getD k18_4 0)).toNat < m1_4.length by have hgf := (of_decide_eq_true hg); omega))) rfl rfl ?_
          refine TQ.opw (w_t rfl rfl rfl) (fun hg => yq (y_ldi (ev_g rfl hg) one_3 (ri_row 1 rfl) (show ((holders.getD k18_4 0)).toNat < m1_4.length by have hgf := (of_decide_eq_true hg); omega))) rfl rfl ?_
          refine TQ.opw (w_t rfl rfl rfl) (fun hg => yq (y_lss (ev_g rfl hg) (ev_g rfl hg))) rfl rfl ?_
          refine TQ.op (yq (y_and (ev_t rfl) (fun hq => (ev_g rfl hq)))) rfl rfl rfl ?_
          refine TQ.nil ?_
          refine TN.seq ?_
          refine TC.cond (b := ((decide (0 ≤ (holders.getD k18_4 0))) && (decide (((m1_4.getD k17_3 0) + (F_spec_l7Gap m a reqs (k18_4 : Int) (k17_3 : Int))) - (F_spec_l7Gap m a reqs (k18_4 : Int) (holders.getD k18_4 0)) < (m1_4.getD (((holders.getD k18_4 0)).toNat) 0))))) (ev_t rfl) (fun h100 => ?_) (fun h100 => ?_)
          · rw [bif_pos h100] at hL4
            have q101 := (and_imp (and_t h100) (fun h => (of_decide_eq_true h)) (fun h => (of_decide_eq_true h)))
            have hst := hq.step hi4_0 (x := k17_3) (l := k18_4) (by omega) (by omega) (by omega) q101.1 q101.2
            refine TC.seq ?_
            refine TC.regionT 21 (by kernel_rfl) (by kernel_rfl) dr_hp ?_
            refine TQ.op (yq (y_move (ev_t rfl))) rfl rfl rfl ?_
            refine TQ.op (yq (y_move (ev_t rfl))) rfl rfl rfl ?_
            refine TQ.op (yq (y_move (ev_t rfl))) rfl rfl rfl ?_
            refine TQ.op (yq (y_move (ev_t rfl))) rfl rfl rfl ?_
            have hb102 : k17_3 < m1_4.length := (by first | omega | (simp only [List.length_set, List.length_append, List.length_cons, List.length_nil, List.length_replicate]; omega) | (rw [sortI_length]; simp only [List.length_cons, List.length_nil]; omega) | (simp only [ByteArray.size_append]; omega))
            refine TQ.op (yq (y_idx (k := k17_3) (ev_t rfl) (ev_t rfl) (by first | omega | simp) slT_25 (ri_row 1 rfl) hb102)) rfl rfl rfl ?_
            refine TQ.op (yq (y_ldi (ev_t rfl) one_3 (ri_row 1 rfl) hb102)) rfl rfl rfl ?_
            refine TQ.op (yq (y_ldagg (cs := [vm]) 2 (ev_t rfl) agg_29 rfl)) rfl rfl rfl ?_
            refine TQ.op (yq (y_move (ev_t rfl))) rfl rfl rfl ?_
            refine TQ.op (yq (y_move (ev_t rfl))) rfl rfl rfl ?_
            refine TQ.op (yq (y_move (ev_t rfl))) rfl rfl rfl ?_
            refine TQ.op (yq (y_move (ev_t rfl))) rfl rfl rfl ?_
            refine TQ.op (y_call (vs := [(.agg #[vm]), va, vreqs, (.int .i64 (k18_4 : Int)), (.int .i64 (k17_3 : Int))]) (v := (.int .i64 (F_spec_l7Gap m a reqs (k18_4 : Int) (k17_3 : Int)))) en_43 ⟨(ev_t rfl), (ev_t rfl), (ev_t rfl), (ev_t rfl), (ev_t rfl), trivial⟩ (fun w hw => spec_l7Gap_ok w vm um m ((rii_arg hm) w hw) va a ((ri_arg ha) w hw) vreqs reqs ((ri_arg hreqs) w hw) (k18_4 : Int) (k17_3 : Int) (by first | assumption | omega | grind) (by first | assumption | omega | grind) (by first | assumption | omega | grind) (by first | assumption | omega | grind) (by first | assumption | omega | grind))) rfl rfl rfl ?_
            refine TQ.op (yq (y_add (ev_t rfl) (ev_t rfl) (by unfold In64; constructor <;> omega))) rfl rfl rfl ?_
            refine TQ.op (yq (y_ldagg (cs := [vm]) 2 (ev_t rfl) agg_29 rfl)) rfl rfl rfl ?_
            refine TQ.op (yq (y_move (ev_t rfl))) rfl rfl rfl ?_
            refine TQ.op (yq (y_move (ev_t rfl))) rfl rfl rfl ?_
            refine TQ.op (yq (y_move (ev_t rfl))) rfl rfl rfl ?_
            refine TQ.op (yq (y_move (ev_t rfl))) rfl rfl rfl ?_
            refine TQ.op (y_call (vs := [(.agg #[vm]), va, vreqs, (.int .i64 (k18_4 : Int)), (.int .i64 (holders.getD k18_4 0))]) (v := (.int .i64 (F_spec_l7Gap m a reqs (k18_4 : Int) (holders.getD k18_4 0)))) en_43 ⟨(ev_t rfl), (ev_t rfl), (ev_t rfl), (ev_t rfl), (ev_t rfl), trivial⟩ (fun w hw => spec_l7Gap_ok w vm um m ((rii_arg hm) w hw) va a ((ri_arg ha) w hw) vreqs reqs ((ri_arg hreqs) w hw) (k18_4 : Int) (holders.getD k18_4 0) (by first | assumption | omega | grind) (by first | assumption | omega | grind) (by first | assumption | omega | grind) (by first | assumption | omega | grind) (by first | assumption | omega | grind))) rfl rfl rfl ?_
            refine TQ.op (yq (y_sub (ev_t rfl) (ev_t rfl) (by unfold In64; constructor <;> omega))) rfl rfl rfl ?_
            have hb103 : ((holders.getD k18_4 0)).toNat < m1_4.length := (by first | omega | (simp only [List.length_set, List.length_append, List.length_cons, List.length_nil, List.length_replicate]; omega) | (rw [sortI_length]; simp only [List.length_cons, List.length_nil]; omega) | (simp only [ByteArray.size_append]; omega))
            refine TQ.op (yq (y_idx (k := ((holders.getD k18_4 0)).toNat) (ev_t rfl) (ev_t rfl) (by first | omega | simp) slT_25 (ri_row 1 rfl) hb103)) rfl rfl rfl ?_
            refine TQ.tail ?_
            refine TL.storeI 1 (ev_t rfl) (ev_t rfl) one_3 rfl hb103 ?_
            refine TL.nil ?_
            refine TN.seq ?_
            refine TC.seq ?_
            refine TC.region ?_
            refine TL.op (yq (y_move (ev_t rfl))) rfl rfl rfl ?_
            refine TL.op (yq (y_move (ev_t rfl))) rfl rfl rfl ?_
            refine TL.op (yq (y_move (ev_t rfl))) rfl rfl rfl ?_
            have hb104 : ((holders.getD k18_4 0)).toNat < m0_4.length := (by first | omega | (simp only [List.length_set, List.length_append, List.length_cons, List.length_nil, List.length_replicate]; omega) | (rw [sortI_length]; simp only [List.length_cons, List.length_nil]; omega) | (simp only [ByteArray.size_append]; omega))
            refine TL.op (yq (y_idx (k := ((holders.getD k18_4 0)).toNat) (ev_t rfl) (ev_t rfl) (by first | omega | simp) slT_25 (ri_row 0 rfl) hb104)) rfl rfl rfl ?_
            refine TL.storeI 0 (ev_t rfl) (ev_t rfl) one_3 rfl hb104 ?_
            refine TL.nil ?_
            refine TN.seq ?_
            refine TC.region ?_
            refine TL.op (yq (y_assign ev_c)) rfl rfl rfl ?_
            refine TL.nil ?_
            refine TN.blockN ?_
            refine TN.seq ?_
            refine TC.region ?_
            refine TL.op (yq (y_move (ev_t rfl))) rfl rfl rfl ?_
            refine TL.op (yq (y_add (ev_t rfl) ev_c (by unfold In64; constructor <;> omega))) rfl rfl rfl ?_
            refine TL.op (yq (y_assign (ev_t rfl))) rfl rfl rfl ?_
            refine TL.nil ?_
            exact TN.hand (mf4, true, (k18_4 + 1), (m0_4.set (((holders.getD k18_4 0)).toNat) (k17_3 : Int)), (m1_4.set (((holders.getD k18_4 0)).toNat) (((m1_4.getD k17_3 0) + (F_spec_l7Gap m a reqs (k18_4 : Int) (k17_3 : Int))) - (F_spec_l7Gap m a reqs (k18_4 : Int) (holders.getD k18_4 0))))) ⟨(by first | exact hst.1 | exact hi4_0), (by first | exact hi4_1.up hst.2 | exact hi4_1), (by first | omega | (simp [-List.getD_eq_getElem?_getD] <;> omega)), (by omega), hL4⟩ (Nat.lt_succ_self _) ⟨rfl, rfl, rfl, rfl, rfl, rfl, rfl, rfl, rfl, rfl, trivial⟩ (fun w hw => hw)
          · rw [bif_neg h100] at hL4
            have q101 := ((and_f h100).imp (fun h => (of_decide_eq_false h)) (fun h => (of_decide_eq_false h)))
            refine TC.skip ?_
            refine TN.blockN ?_
            refine TN.seq ?_
            refine TC.region ?_
            refine TL.op (yq (y_move (ev_t rfl))) rfl rfl rfl ?_
            refine TL.op (yq (y_add (ev_t rfl) ev_c (by unfold In64; constructor <;> omega))) rfl rfl rfl ?_
            refine TL.op (yq (y_assign (ev_t rfl))) rfl rfl rfl ?_
            refine TL.nil ?_
            exact TN.hand (mf4, k16_4, (k18_4 + 1), m0_4, m1_4) ⟨(by first | exact hst.1 | exact hi4_0), (by first | exact hi4_1.up hst.2 | exact hi4_1), (by first | omega | (simp [-List.getD_eq_getElem?_getD] <;> omega)), (by omega), hL4⟩ (Nat.lt_succ_self _) ⟨rfl, rfl, rfl, rfl, rfl, rfl, rfl, rfl, rfl, rfl, trivial⟩ (fun w hw => hw)
        · rw [bif_neg h97] at hL4
          have q98 := ((and_f h97).imp (fun h => (of_decide_eq_false h)) (fun h => (of_decide_eq_false h)))
          refine TC.exit ?_
          refine TN.thenE ?_
          refine TN.thenE ?_
          rw [← hL4, elim_next] at hL3
          try dsimp only at hL3
          refine TN.blockH ?_
          refine TN.blockN ?_
          refine TN.seq ?_
          refine TC.region ?_
          refine TL.op (yq (y_move (ev_t rfl))) rfl rfl rfl ?_
          refine TL.op (yq (y_add (ev_t rfl) ev_c (by unfold In64; constructor <;> omega))) rfl rfl rfl ?_
          refine TL.op (yq (y_assign (ev_t rfl))) rfl rfl rfl ?_
          refine TL.nil ?_
          exact TN.hand (mf3, k16_4, (k17_3 + 1), m0_4, m1_4) ⟨hi4_0, hi4_1, (by first | omega | (simp [-List.getD_eq_getElem?_getD] <;> omega)), (by omega), hL3⟩ (Nat.lt_succ_self _) ⟨rfl, rfl, rfl, rfl, rfl, rfl, rfl, rfl, rfl, trivial⟩ (fun w hw => hw)
      · rw [bif_neg h93] at hL3
        have q94 := (of_decide_eq_false h93)
        refine TC.exit ?_
        refine TN.thenE ?_
        refine TN.thenE ?_
        rw [← hL3, elim_next] at hL2
        try dsimp only at hL2
        refine TN.blockH ?_
        refine TN.blockN ?_
        have hmu2 := hi3_1.mu (hi3_0.low hq.pre).2
        exact TN.hand (mf2, k16_3, m0_3, m1_3) ⟨hi3_0, (by omega), hL2⟩ (Nat.lt_succ_self _) ⟨rfl, rfl, rfl, rfl, rfl, rfl, rfl, rfl, trivial⟩ (fun w hw => hw)
    · rw [bif_neg h89] at hL2
      have q90 := h89
      refine TC.exit ?_
      refine TN.thenE ?_
      refine TN.thenE ?_
      rw [← hL2, elim_next] at hF
      try dsimp only at hF
      refine TN.blockH ?_
      refine TN.seq ?_
      refine TC.seq ?_
      refine TC.region ?_
      refine TL.op (yq (y_move (ev_t rfl))) rfl rfl rfl ?_
      refine TL.op (yq (y_move (ev_t rfl))) rfl rfl rfl ?_
      refine TL.op (yq (y_assign (ev_t rfl))) rfl rfl rfl ?_
      refine TL.op (yq (y_assign (ev_t rfl))) rfl rfl rfl ?_
      refine TL.nil ?_
      refine TN.seq ?_
      refine TC.ret ?_
      subst hF
      exact TN.ret2 rfl (ev_t rfl) (ev_t rfl) (fun w' hw => ⟨(v2_2, v3_2), rfl, Hp.picks [1, 0] (by decide) rfl hw⟩)

end Go.Proofs.Ytgnikdpgndmldaa
