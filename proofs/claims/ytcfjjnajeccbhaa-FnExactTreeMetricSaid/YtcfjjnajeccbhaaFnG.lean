/-
  Walks of functions of the program: each computes its plain function. No condition but the bounds that are typed.
-/
import Derived.Test.YtcfjjnajeccbhaaFnF
import Derived.Test.YtcfjjnajeccbhaaDefG
import Derived.Test.YtcfjjnajeccbhaaLawMatch
namespace Go.Proofs.Ytcfjjnajeccbhaa
open Go Go.RowKit

set_option maxRecDepth 4000 in
set_option maxHeartbeats 1000000 in
theorem slices_Index_Sint_int_ok (w : World) (vs : Value) (s : List Int) (hs : RI w vs s) (v : Int)  :
    Calls Try.prog 111 ([vs, (.int .i64 v)] : List Value).toArray w (Ret (.int .i64 (F_slices_Index_Sint_int s v)) (Hp w [])) := by
  obtain ⟨rz, hF⟩ : ∃ rz, (F_slices_Index_Sint_int s v) = rz := ⟨_, rfl⟩
  rw [hF]
  unfold F_slices_Index_Sint_int at hF
  have hlen_s := arg_len hs
  refine calls_tc Try.func111 rfl rfl rfl ?_
  change TC _ _ _ _ (Hp w []) [(0, vs), (1, (.int .i64 v))]
  refine TC.seq ?_
  refine TC.region ?_
  refine TL.op (yq (y_assign ev_c)) rfl rfl rfl ?_
  refine TL.nil ?_
  refine TN.seq ?_
  refine TC.seq ?_
  refine TC.seq ?_
  refine TC.region ?_
  refine TL.op (yq (y_move (ev_t rfl))) rfl rfl rfl ?_
  refine TL.op (yq (y_len (ev_t rfl) Try.underlying25 (fun w hw => ((ri_arg hs) w hw).ln))) rfl rfl rfl ?_
  refine TL.op (yq (y_move ev_c)) rfl rfl rfl ?_
  refine TL.nil ?_
  refine TN.seq ?_
  refine TC.block ?_
  obtain ⟨c11, hc12⟩ : ∃ c, F_slices_Index_Sint_int_L1 s v ((s.length - 0) + 1) 0 = c := ⟨_, rfl⟩
  rw [hc12] at hF
  refine TC.loop (ι := Nat × Nat) (fun (fu1, k8_1) => [(0, vs), (1, (.int .i64 v)), (7, (.int .i64 (s.length : Int))), (8, (.int .i64 (k8_1 : Int)))]) (fun (fu1, k8_1) => Hp w []) (fun (fu1, k8_1) => (k8_1 ≤ s.length) ∧ s.length - k8_1 < fu1 ∧ F_slices_Index_Sint_int_L1 s v fu1 k8_1 = c11) (fun (fu1, k8_1) => fu1) ((s.length - 0) + 1, 0) ⟨(by first | omega | (simp [-List.getD_eq_getElem?_getD] <;> omega)), (by omega), hc12⟩ ⟨rfl, rfl, rfl, rfl, trivial⟩ (fun w hw => hw) ?_
  rintro ⟨fu1, k8_1⟩ hJ1
  obtain ⟨hi1_0, hmu1, hL1⟩ : (k8_1 ≤ s.length) ∧ s.length - k8_1 < fu1 ∧ F_slices_Index_Sint_int_L1 s v fu1 k8_1 = c11 := hJ1
  change TC _ _ _ _ (Hp w []) [(0, vs), (1, (.int .i64 v)), (7, (.int .i64 (s.length : Int))), (8, (.int .i64 (k8_1 : Int)))]
  obtain ⟨mf1, rfl⟩ : ∃ m, fu1 = m + 1 := ⟨fu1 - 1, by omega⟩
  rw [F_slices_Index_Sint_int_L1_s] at hL1
  refine TC.seq ?_
  refine TC.region ?_
  refine TL.op (yq (y_lss (ev_t rfl) (ev_t rfl))) rfl rfl rfl ?_
  refine TL.nil ?_
  refine TN.seq ?_
  refine TC.seq ?_
  refine TC.cond (b := decide ((k8_1 : Int) < (s.length : Int))) (ev_t rfl) (fun h13 => ?_) (fun h13 => ?_)
  · rw [bif_pos h13] at hL1
    have q14 := (of_decide_eq_true h13)
    refine TC.skip ?_
    refine TN.seq ?_
    refine TC.seq ?_
    refine TC.block ?_
    refine TC.seq ?_
    refine TC.region ?_
    refine TL.op (yq (y_move (ev_t rfl))) rfl rfl rfl ?_
    refine TL.op (yq (y_assign (ev_t rfl))) rfl rfl rfl ?_
    refine TL.nil ?_
    refine TN.seq ?_
    refine TC.seq ?_
    refine TC.region ?_
    refine TL.op (yq (y_move (ev_t rfl))) rfl rfl rfl ?_
    refine TL.op (yq (y_move (ev_t rfl))) rfl rfl rfl ?_
    refine TL.op (yq (y_move (ev_t rfl))) rfl rfl rfl ?_
    have hb15 : k8_1 < s.length := (by first | omega | (simp only [List.length_set, List.length_append, List.length_cons, List.length_nil, List.length_replicate]; omega))
    refine TL.op (yq (y_idx (k := k8_1) (ev_t rfl) (ev_t rfl) (by omega) slT_25 (ri_arg hs) hb15)) rfl rfl rfl ?_
    refine TL.op (yq (y_ldi (ev_t rfl) one_3 (ri_arg hs) hb15)) rfl rfl rfl ?_
    refine TL.op (yq (y_eql (ev_t rfl) (ev_t rfl))) rfl rfl rfl ?_
    refine TL.nil ?_
    refine TN.seq ?_
    refine TC.cond (b := decide (v = (s.getD k8_1 0))) (ev_t rfl) (fun h16 => ?_) (fun h16 => ?_)
    · rw [bif_pos h16] at hL1
      have q17 := (of_decide_eq_true h16)
      refine TC.seq ?_
      refine TC.region ?_
      refine TL.op (yq (y_move (ev_t rfl))) rfl rfl rfl ?_
      refine TL.op (yq (y_assign (ev_t rfl))) rfl rfl rfl ?_
      refine TL.nil ?_
      refine TN.seq ?_
      refine TC.ret ?_
      refine TN.blockR ?_
      refine TN.thenR ?_
      refine TN.thenR ?_
      rw [← hL1, elim_ret] at hF
      refine TN.blockR ?_
      refine TN.thenR ?_
      subst hF
      exact TN.ret1 rfl (ev_t rfl) (fun w' hw => ⟨rfl, hw⟩)
    · rw [bif_neg h16] at hL1
      have q17 := (of_decide_eq_false h16)
      refine TC.skip ?_
      refine TN.blockN ?_
      refine TN.seq ?_
      refine TC.region ?_
      refine TL.op (yq (y_add (ev_t rfl) ev_c (by unfold In64; omega))) rfl rfl rfl ?_
      refine TL.op (yq (y_move (ev_t rfl))) rfl rfl rfl ?_
      refine TL.nil ?_
      exact TN.hand (mf1, (k8_1 + 1)) ⟨(by first | omega | (simp [-List.getD_eq_getElem?_getD] <;> omega)), (by omega), hL1⟩ (Nat.lt_succ_self _) ⟨rfl, rfl, rfl, rfl, trivial⟩ (fun w hw => hw)
  · rw [bif_neg h13] at hL1
    have q14 := (of_decide_eq_false h13)
    refine TC.exit ?_
    refine TN.thenE ?_
    refine TN.thenE ?_
    rw [← hL1, elim_next] at hF
    try dsimp only at hF
    refine TN.blockH ?_
    refine TN.seq ?_
    refine TC.seq ?_
    refine TC.region ?_
    refine TL.op (yq (y_assign ev_c)) rfl rfl rfl ?_
    refine TL.nil ?_
    refine TN.seq ?_
    refine TC.ret ?_
    subst hF
    exact TN.ret1 rfl (ev_t rfl) (fun w' hw => ⟨rfl, hw⟩)

set_option maxRecDepth 4000 in
set_option maxHeartbeats 1000000 in
theorem slices_Contains_Sint_int_ok (w : World) (vs : Value) (s : List Int) (hs : RI w vs s) (v : Int)  :
    Calls Try.prog 89 ([vs, (.int .i64 v)] : List Value).toArray w (Ret (.bool (F_slices_Contains_Sint_int s v)) (Hp w [])) := by
  obtain ⟨rz, hF⟩ : ∃ rz, (F_slices_Contains_Sint_int s v) = rz := ⟨_, rfl⟩
  rw [hF]
  unfold F_slices_Contains_Sint_int at hF
  have hlen_s := arg_len hs
  refine calls_tc Try.func89 rfl rfl rfl ?_
  change TC _ _ _ _ (Hp w []) [(0, vs), (1, (.int .i64 v))]
  refine TC.seq ?_
  refine TC.region ?_
  refine TL.op (yq (y_assign ev_c)) rfl rfl rfl ?_
  refine TL.nil ?_
  refine TN.seq ?_
  refine TC.seq ?_
  refine TC.region ?_
  refine TL.op (yq (y_move (ev_t rfl))) rfl rfl rfl ?_
  refine TL.op (yq (y_move (ev_t rfl))) rfl rfl rfl ?_
  refine TL.op (y_call (vs := [vs, (.int .i64 v)]) (v := (.int .i64 (F_slices_Index_Sint_int s v))) en_111 ⟨(ev_t rfl), (ev_t rfl), trivial⟩ (fun w hw => slices_Index_Sint_int_ok w vs s ((ri_arg hs) w hw) v)) rfl rfl rfl ?_
  refine TL.op (yq (y_geq (ev_t rfl) ev_c)) rfl rfl rfl ?_
  refine TL.op (yq (y_assign (ev_t rfl))) rfl rfl rfl ?_
  refine TL.nil ?_
  refine TN.seq ?_
  refine TC.ret ?_
  subst hF
  exact TN.ret1 rfl (ev_t rfl) (fun w' hw => ⟨rfl, hw⟩)

set_option maxRecDepth 4000 in
set_option maxHeartbeats 1000000 in
theorem impl_orders_ok (w : World) (k : Int) (hp0 : k ≤ 3) :
    Calls Try.prog 113 ([(.int .i64 k)] : List Value).toArray w (fun e w' => ∃ i : Value × List Value, e = .returned i.1 ∧ Hp w [tabI 25 3 i.1 i.2 (F_impl_orders k)] w') := by
  obtain ⟨rz, hF⟩ : ∃ rz, (F_impl_orders k) = rz := ⟨_, rfl⟩
  rw [hF]
  unfold F_impl_orders at hF
  refine calls_tc Try.func113 rfl rfl rfl ?_
  change TC _ _ _ _ (Hp w []) [(0, (.int .i64 k))]
  refine TC.seq ?_
  refine TC.region ?_
  refine TL.op (yq (y_assign ev_c)) rfl rfl rfl ?_
  refine TL.nil ?_
  refine TN.seq ?_
  refine TC.seq ?_
  refine TC.region ?_
  refine TL.buildI (zs := []) (qs := []) slT_25 rfl trivial rfl (by decide) rfl (fun v1_0 => ?_)
  refine TL.buildU slT_22 (ev_t rfl) (fun w hw => ((ri_row 0 rfl) w hw).ln) rfl (fun v1_1 => ?_)
  refine TL.cls (fun w hw => hw.uniTab 0 1 rfl rfl rfl) ?_
  refine TL.op (yq (y_assign (ev_t rfl))) rfl rfl rfl ?_
  refine TL.nil ?_
  refine TN.seq ?_
  refine TC.seq ?_
  refine TC.seq ?_
  refine TC.region ?_
  refine TL.op (yq (y_move (ev_t rfl))) rfl rfl rfl ?_
  refine TL.op (yq (y_move ev_c)) rfl rfl rfl ?_
  refine TL.nil ?_
  refine TN.seq ?_
  refine TC.block ?_
  obtain ⟨c30, hc31⟩ : ∃ c, F_impl_orders_L1 k ((((k).toNat) - 0) + 1) (([([] : List Int)]), 0) = c := ⟨_, rfl⟩
  rw [hc31] at hF
  refine TC.loop (ι := Nat × List (List Int) × Nat × Value × List Value) (fun (fu1, out1, k11_1, vout1, uout1) => [(0, (.int .i64 k)), (3, vout1), (10, (.int .i64 k)), (11, (.int .i64 (k11_1 : Int)))]) (fun (fu1, out1, k11_1, vout1, uout1) => Hp w [tabI 25 3 vout1 uout1 out1]) (fun (fu1, out1, k11_1, vout1, uout1) => (k11_1 ≤ ((k).toNat)) ∧ (out1.length ≤ 3 ^ k11_1) ∧ (∀ j, (out1.getD j []).length ≤ k11_1) ∧ ((k).toNat) - k11_1 < fu1 ∧ F_impl_orders_L1 k fu1 (out1, k11_1) = c30) (fun (fu1, out1, k11_1, vout1, uout1) => fu1) ((((k).toNat) - 0) + 1, [([] : List Int)], 0, v1_1, [v1_0]) ⟨(by first | omega | (simp [-List.getD_eq_getElem?_getD] <;> omega)), (by simp), (fun j => by cases j <;> simp), (by omega), hc31⟩ ⟨rfl, rfl, rfl, rfl, trivial⟩ (fun w hw => Hp.sublist hw (.cons_cons _ (.cons _ .slnil))) ?_
  rintro ⟨fu1, out1, k11_1, vout1, uout1⟩ hJ1
  obtain ⟨hi1_0, hi1_1, hi1_2, hmu1, hL1⟩ : (k11_1 ≤ ((k).toNat)) ∧ (out1.length ≤ 3 ^ k11_1) ∧ (∀ j, (out1.getD j []).length ≤ k11_1) ∧ ((k).toNat) - k11_1 < fu1 ∧ F_impl_orders_L1 k fu1 (out1, k11_1) = c30 := hJ1
  change TC _ _ _ _ (Hp w [tabI 25 3 vout1 uout1 out1]) [(0, (.int .i64 k)), (3, vout1), (10, (.int .i64 k)), (11, (.int .i64 (k11_1 : Int)))]
  obtain ⟨mf1, rfl⟩ : ∃ m, fu1 = m + 1 := ⟨fu1 - 1, by omega⟩
  rw [F_impl_orders_L1_s] at hL1
  have hpw : 3 ^ k11_1 ≤ 3 ^ 3 := Nat.pow_le_pow_right (by decide) (by omega)
  refine TC.seq ?_
  refine TC.region ?_
  refine TL.op (yq (y_lss (ev_t rfl) (ev_t rfl))) rfl rfl rfl ?_
  refine TL.nil ?_
  refine TN.seq ?_
  refine TC.seq ?_
  refine TC.cond (b := decide ((k11_1 : Int) < k)) (ev_t rfl) (fun h32 => ?_) (fun h32 => ?_)
  · rw [bif_pos h32] at hL1
    have q33 := (of_decide_eq_true h32)
    refine TC.skip ?_
    refine TN.seq ?_
    refine TC.seq ?_
    refine TC.block ?_
    refine TC.seq ?_
    refine TC.region ?_
    refine TL.buildSlice (zs := []) (vs := []) slT_22 rfl trivial (by simp) rfl (by decide) rfl (fun v4_0 => ?_)
    refine TL.cls (fun w hw => hw.emptyTab 3) ?_
    refine TL.op (yq (y_assign (ev_t rfl))) rfl rfl rfl ?_
    refine TL.nil ?_
    refine TN.seq ?_
    refine TC.seq ?_
    refine TC.seq ?_
    refine TC.region ?_
    refine TL.op (yq (y_move (ev_t rfl))) rfl rfl rfl ?_
    refine TL.op (yq (y_len (ev_t rfl) Try.underlying22 (fun w hw => ((fun w hw => ((rii_tab 1 rfl) w hw).1) w hw).ln))) rfl rfl rfl ?_
    refine TL.op (yq (y_move ev_c)) rfl rfl rfl ?_
    refine TL.nil ?_
    refine TN.seq ?_
    refine TC.block ?_
    obtain ⟨c34, hc35⟩ : ∃ c, F_impl_orders_L2 k out1 ((out1.length - 0) + 1) (([]), 0) = c := ⟨_, rfl⟩
    rw [hc35] at hL1
    refine TC.loop (ι := Nat × List (List Int) × Nat × Value × List Value) (fun (fu2, next2, k16_2, vnext2, unext2) => [(0, (.int .i64 k)), (4, vnext2), (10, (.int .i64 k)), (11, (.int .i64 (k11_1 : Int))), (14, vout1), (15, (.int .i64 (out1.length : Int))), (16, (.int .i64 (k16_2 : Int)))]) (fun (fu2, next2, k16_2, vnext2, unext2) => Hp w [tabI 25 3 vnext2 unext2 next2, tabI 25 3 vout1 uout1 out1]) (fun (fu2, next2, k16_2, vnext2, unext2) => (k16_2 ≤ out1.length) ∧ (next2.length ≤ 3 * k16_2) ∧ (∀ j, (next2.getD j []).length ≤ k11_1 + 1) ∧ out1.length - k16_2 < fu2 ∧ F_impl_orders_L2 k out1 fu2 (next2, k16_2) = c34) (fun (fu2, next2, k16_2, vnext2, unext2) => fu2) ((out1.length - 0) + 1, [], 0, v4_0, []) ⟨(by first | omega | (simp [-List.getD_eq_getElem?_getD] <;> omega)), (by first | omega | (simp [-List.getD_eq_getElem?_getD] <;> omega)), (fun j => by simp), (by omega), hc35⟩ ⟨rfl, rfl, rfl, rfl, rfl, rfl, rfl, trivial⟩ (fun w hw => hw) ?_
    rintro ⟨fu2, next2, k16_2, vnext2, unext2⟩ hJ2
    obtain ⟨hi2_0, hi2_1, hi2_2, hmu2, hL2⟩ : (k16_2 ≤ out1.length) ∧ (next2.length ≤ 3 * k16_2) ∧ (∀ j, (next2.getD j []).length ≤ k11_1 + 1) ∧ out1.length - k16_2 < fu2 ∧ F_impl_orders_L2 k out1 fu2 (next2, k16_2) = c34 := hJ2
    change TC _ _ _ _ (Hp w [tabI 25 3 vnext2 unext2 next2, tabI 25 3 vout1 uout1 out1]) [(0, (.int .i64 k)), (4, vnext2), (10, (.int .i64 k)), (11, (.int .i64 (k11_1 : Int))), (14, vout1), (15, (.int .i64 (out1.length : Int))), (16, (.int .i64 (k16_2 : Int)))]
    obtain ⟨mf2, rfl⟩ : ∃ m, fu2 = m + 1 := ⟨fu2 - 1, by omega⟩
    rw [F_impl_orders_L2_s] at hL2
    have hol := hi1_2 k16_2
    refine TC.seq ?_
    refine TC.region ?_
    refine TL.op (yq (y_lss (ev_t rfl) (ev_t rfl))) rfl rfl rfl ?_
    refine TL.nil ?_
    refine TN.seq ?_
    refine TC.seq ?_
    refine TC.cond (b := decide ((k16_2 : Int) < (out1.length : Int))) (ev_t rfl) (fun h36 => ?_) (fun h36 => ?_)
    · rw [bif_pos h36] at hL2
      have q37 := (of_decide_eq_true h36)
      refine TC.skip ?_
      refine TN.seq ?_
      refine TC.seq ?_
      refine TC.block ?_
      refine TC.seq ?_
      refine TC.region ?_
      have hb38 : k16_2 < out1.length := (by first | omega | (simp only [List.length_set, List.length_append, List.length_cons, List.length_nil, List.length_replicate]; omega))
      refine TL.op (yq (y_idx (k := k16_2) (ev_t rfl) (ev_t rfl) (by omega) slT_22 (fun w hw => ((rii_tab 1 rfl) w hw).1) hb38)) rfl rfl rfl ?_
      refine TL.op (yq (y_ldT 1 (ev_t rfl) one_25 rfl hb38)) rfl rfl rfl ?_
      refine TL.op (yq (y_assign (ev_t rfl))) rfl rfl rfl ?_
      refine TL.nil ?_
      refine TN.seq ?_
      refine TC.seq ?_
      refine TC.region ?_
      refine TL.op (yq (y_move (ev_t rfl))) rfl rfl rfl ?_
      refine TL.op (yq (y_move ev_c)) rfl rfl rfl ?_
      refine TL.nil ?_
      refine TN.seq ?_
      refine TC.block ?_
      obtain ⟨c39, hc40⟩ : ∃ c, F_impl_orders_L3 k out1 k16_2 ((((k).toNat) - 0) + 1) (next2, 0) = c := ⟨_, rfl⟩
      rw [hc40] at hL2
      refine TC.loop (ι := Nat × List (List Int) × Nat × Value × List Value) (fun (fu3, next3, k21_3, vnext3, unext3) => [(0, (.int .i64 k)), (4, vnext3), (6, (uout1.getD k16_2 undef)), (10, (.int .i64 k)), (11, (.int .i64 (k11_1 : Int))), (14, vout1), (15, (.int .i64 (out1.length : Int))), (16, (.int .i64 (k16_2 : Int))), (20, (.int .i64 k)), (21, (.int .i64 (k21_3 : Int)))]) (fun (fu3, next3, k21_3, vnext3, unext3) => Hp w [tabI 25 3 vnext3 unext3 next3, tabI 25 3 vout1 uout1 out1]) (fun (fu3, next3, k21_3, vnext3, unext3) => (k21_3 ≤ ((k).toNat)) ∧ (next3.length ≤ next2.length + k21_3) ∧ (∀ j, (next3.getD j []).length ≤ k11_1 + 1) ∧ ((k).toNat) - k21_3 < fu3 ∧ F_impl_orders_L3 k out1 k16_2 fu3 (next3, k21_3) = c39) (fun (fu3, next3, k21_3, vnext3, unext3) => fu3) ((((k).toNat) - 0) + 1, next2, 0, vnext2, unext2) ⟨(by first | omega | (simp [-List.getD_eq_getElem?_getD] <;> omega)), (by first | omega | (simp [-List.getD_eq_getElem?_getD] <;> omega)), hi2_2, (by omega), hc40⟩ ⟨rfl, rfl, rfl, rfl, rfl, rfl, rfl, rfl, rfl, rfl, trivial⟩ (fun w hw => hw) ?_
      rintro ⟨fu3, next3, k21_3, vnext3, unext3⟩ hJ3
      obtain ⟨hi3_0, hi3_1, hi3_2, hmu3, hL3⟩ : (k21_3 ≤ ((k).toNat)) ∧ (next3.length ≤ next2.length + k21_3) ∧ (∀ j, (next3.getD j []).length ≤ k11_1 + 1) ∧ ((k).toNat) - k21_3 < fu3 ∧ F_impl_orders_L3 k out1 k16_2 fu3 (next3, k21_3) = c39 := hJ3
      change TC _ _ _ _ (Hp w [tabI 25 3 vnext3 unext3 next3, tabI 25 3 vout1 uout1 out1]) [(0, (.int .i64 k)), (4, vnext3), (6, (uout1.getD k16_2 undef)), (10, (.int .i64 k)), (11, (.int .i64 (k11_1 : Int))), (14, vout1), (15, (.int .i64 (out1.length : Int))), (16, (.int .i64 (k16_2 : Int))), (20, (.int .i64 k)), (21, (.int .i64 (k21_3 : Int)))]
      obtain ⟨mf3, rfl⟩ : ∃ m, fu3 = m + 1 := ⟨fu3 - 1, by omega⟩
      rw [F_impl_orders_L3_s] at hL3
      refine TC.seq ?_
      refine TC.region ?_
      refine TL.op (yq (y_lss (ev_t rfl) (ev_t rfl))) rfl rfl rfl ?_
      refine TL.nil ?_
      refine TN.seq ?_
      refine TC.seq ?_
      refine TC.cond (b := decide ((k21_3 : Int) < k)) (ev_t rfl) (fun h41 => ?_) (fun h41 => ?_)
      · rw [bif_pos h41] at hL3
        have q42 := (of_decide_eq_true h41)
        refine TC.skip ?_
        refine TN.seq ?_
        refine TC.seq ?_
        refine TC.block ?_
        refine TC.seq ?_
        refine TC.region ?_
        refine TL.op (yq (y_move (ev_t rfl))) rfl rfl rfl ?_
        refine TL.op (yq (y_assign (ev_t rfl))) rfl rfl rfl ?_
        refine TL.nil ?_
        refine TN.seq ?_
        refine TC.seq ?_
        refine TC.region ?_
        refine TL.op (yq (y_move (ev_t rfl))) rfl rfl rfl ?_
        refine TL.op (yq (y_move (ev_t rfl))) rfl rfl rfl ?_
        refine TL.op (y_call (vs := [(uout1.getD k16_2 undef), (.int .i64 (k21_3 : Int))]) (v := (.bool (F_slices_Contains_Sint_int (out1.getD k16_2 []) (k21_3 : Int)))) en_89 ⟨(ev_t rfl), (ev_t rfl), trivial⟩ (fun w hw => slices_Contains_Sint_int_ok w (uout1.getD k16_2 undef) (out1.getD k16_2 []) ((ri_tab 1 k16_2 rfl hb38) w hw) (k21_3 : Int))) rfl rfl rfl ?_
        refine TL.op (yq (y_not (ev_t rfl))) rfl rfl rfl ?_
        refine TL.nil ?_
        refine TN.seq ?_
        refine TC.cond (b := !(F_slices_Contains_Sint_int (out1.getD k16_2 []) (k21_3 : Int))) (ev_t rfl) (fun h43 => ?_) (fun h43 => ?_)
        · rw [bif_pos h43] at hL3
          have q44 := (not_t h43)
          refine TC.region ?_
          refine TL.op (yq (y_move (ev_t rfl))) rfl rfl rfl ?_
          refine TL.op (yq (y_move (ev_t rfl))) rfl rfl rfl ?_
          refine TL.callr (ι := Value) (vs := [(uout1.getD k16_2 undef)]) (fun i => i) (fun i => [rowI 3 i (out1.getD k16_2 [])]) en_74 ⟨(ev_t rfl), trivial⟩ rfl (fun w hw => slices_Clone_Sint_int_ok w (uout1.getD k16_2 undef) (out1.getD k16_2 []) ((ri_tab 1 k16_2 rfl hb38) w hw) (by first | assumption | omega | grind)) (fun r12_2 => ?_)
          refine TL.op (yq (y_move (ev_t rfl))) rfl rfl rfl ?_
          refine TL.buildI (zs := [.tmp 31]) (qs := [(k21_3 : Int)]) slT_25 rfl ⟨(ev_t rfl), trivial⟩ rfl (by decide) rfl (fun v12_4 => ?_)
          refine TL.appendI 1 (ev_t rfl) (ev_t rfl) rfl slT_25 (ri_row 0 rfl) (by first | omega | (simp [-List.getD_eq_getElem?_getD] <;> omega)) rfl (fun v12_5 => ?_)
          refine TL.buildU slT_22 (ev_t rfl) (fun w hw => ((ri_row 1 rfl) w hw).ln) rfl (fun v12_6 => ?_)
          refine TL.appendT 3 2 rfl (ev_t rfl) (ev_t rfl) rfl rfl slT_22 (rd_row 0 rfl) (by first | omega | (simp [-List.getD_eq_getElem?_getD] <;> omega)) rfl (fun v12_7 => ?_)
          refine TL.op (yq (y_assign (ev_t rfl))) rfl rfl rfl ?_
          refine TL.nil ?_
          refine TN.blockN ?_
          refine TN.seq ?_
          refine TC.region ?_
          refine TL.op (yq (y_add (ev_t rfl) ev_c (by unfold In64; omega))) rfl rfl rfl ?_
          refine TL.op (yq (y_move (ev_t rfl))) rfl rfl rfl ?_
          refine TL.nil ?_
          exact TN.hand (mf3, (next3 ++ [((out1.getD k16_2 []) ++ ([(k21_3 : Int)]))]), (k21_3 + 1), v12_7, (unext3 ++ [v12_5])) ⟨(by first | omega | (simp [-List.getD_eq_getElem?_getD] <;> omega)), (by first | omega | (simp [-List.getD_eq_getElem?_getD] <;> omega)), (by first | exact hi3_2 | exact push_len hi3_2 (by simp only [List.length_append, List.length_cons, List.length_nil]; omega)), (by omega), hL3⟩ (Nat.lt_succ_self _) ⟨rfl, rfl, rfl, rfl, rfl, rfl, rfl, rfl, rfl, rfl, trivial⟩ (fun w hw => Hp.sublist hw (.cons _ (.cons _ (.cons _ (.cons_cons _ (.cons_cons _ .slnil))))))
        · rw [bif_neg h43] at hL3
          have q44 := (not_f h43)
          refine TC.skip ?_
          refine TN.blockN ?_
          refine TN.seq ?_
          refine TC.region ?_
          refine TL.op (yq (y_add (ev_t rfl) ev_c (by unfold In64; omega))) rfl rfl rfl ?_
          refine TL.op (yq (y_move (ev_t rfl))) rfl rfl rfl ?_
          refine TL.nil ?_
          exact TN.hand (mf3, next3, (k21_3 + 1), vnext3, unext3) ⟨(by first | omega | (simp [-List.getD_eq_getElem?_getD] <;> omega)), (by first | omega | (simp [-List.getD_eq_getElem?_getD] <;> omega)), (by first | exact hi3_2 | exact push_len hi3_2 (by simp only [List.length_append, List.length_cons, List.length_nil]; omega)), (by omega), hL3⟩ (Nat.lt_succ_self _) ⟨rfl, rfl, rfl, rfl, rfl, rfl, rfl, rfl, rfl, rfl, trivial⟩ (fun w hw => hw)
      · rw [bif_neg h41] at hL3
        have q42 := (of_decide_eq_false h41)
        refine TC.exit ?_
        refine TN.thenE ?_
        refine TN.thenE ?_
        rw [← hL3, elim_next] at hL2
        try dsimp only at hL2
        refine TN.blockH ?_
        refine TN.blockN ?_
        refine TN.seq ?_
        refine TC.region ?_
        refine TL.op (yq (y_add (ev_t rfl) ev_c (by unfold In64; omega))) rfl rfl rfl ?_
        refine TL.op (yq (y_move (ev_t rfl))) rfl rfl rfl ?_
        refine TL.nil ?_
        exact TN.hand (mf2, next3, (k16_2 + 1), vnext3, unext3) ⟨(by first | omega | (simp [-List.getD_eq_getElem?_getD] <;> omega)), (by first | omega | (simp [-List.getD_eq_getElem?_getD] <;> omega)), hi3_2, (by omega), hL2⟩ (Nat.lt_succ_self _) ⟨rfl, rfl, rfl, rfl, rfl, rfl, rfl, trivial⟩ (fun w hw => hw)
    · rw [bif_neg h36] at hL2
      have q37 := (of_decide_eq_false h36)
      refine TC.exit ?_
      refine TN.thenE ?_
      refine TN.thenE ?_
      rw [← hL2, elim_next] at hL1
      try dsimp only at hL1
      refine TN.blockH ?_
      refine TN.seq ?_
      refine TC.region ?_
      refine TL.op (yq (y_move (ev_t rfl))) rfl rfl rfl ?_
      refine TL.op (yq (y_assign (ev_t rfl))) rfl rfl rfl ?_
      refine TL.nil ?_
      refine TN.blockN ?_
      refine TN.seq ?_
      refine TC.region ?_
      refine TL.op (yq (y_add (ev_t rfl) ev_c (by unfold In64; omega))) rfl rfl rfl ?_
      refine TL.op (yq (y_move (ev_t rfl))) rfl rfl rfl ?_
      refine TL.nil ?_
      exact TN.hand (mf1, next2, (k11_1 + 1), vnext2, unext2) ⟨(by first | omega | (simp [-List.getD_eq_getElem?_getD] <;> omega)), (by rw [Nat.pow_succ]; omega), hi2_2, (by omega), hL1⟩ (Nat.lt_succ_self _) ⟨rfl, rfl, rfl, rfl, trivial⟩ (fun w hw => Hp.sublist hw (.cons_cons _ (.cons _ .slnil)))
  · rw [bif_neg h32] at hL1
    have q33 := (of_decide_eq_false h32)
    refine TC.exit ?_
    refine TN.thenE ?_
    refine TN.thenE ?_
    rw [← hL1, elim_next] at hF
    try dsimp only at hF
    refine TN.blockH ?_
    refine TN.seq ?_
    refine TC.seq ?_
    refine TC.region ?_
    refine TL.op (yq (y_move (ev_t rfl))) rfl rfl rfl ?_
    refine TL.op (yq (y_assign (ev_t rfl))) rfl rfl rfl ?_
    refine TL.nil ?_
    refine TN.seq ?_
    refine TC.ret ?_
    subst hF
    exact TN.ret1 rfl (ev_t rfl) (fun w' hw => ⟨(vout1, uout1), rfl, hw⟩)

set_option maxRecDepth 4000 in
set_option maxHeartbeats 1000000 in
theorem spec_l6Perms_ok (w : World) (k : Int) (hp0 : k ≤ 3) :
    Calls Try.prog 112 ([(.int .i64 k)] : List Value).toArray w (fun e w' => ∃ i : Value × List Value, e = .returned i.1 ∧ Hp w [tabI 25 3 i.1 i.2 (F_spec_l6Perms k)] w') := by
  obtain ⟨rz, hF⟩ : ∃ rz, (F_spec_l6Perms k) = rz := ⟨_, rfl⟩
  rw [hF]
  unfold F_spec_l6Perms at hF
  refine calls_tc Try.func112 rfl rfl rfl ?_
  change TC _ _ _ _ (Hp w []) [(0, (.int .i64 k))]
  refine TC.seq ?_
  refine TC.region ?_
  refine TL.op (yq (y_assign ev_c)) rfl rfl rfl ?_
  refine TL.nil ?_
  refine TN.seq ?_
  refine TC.seq ?_
  refine TC.region ?_
  refine TL.buildI (zs := []) (qs := []) slT_25 rfl trivial rfl (by decide) rfl (fun v1_0 => ?_)
  refine TL.buildU slT_22 (ev_t rfl) (fun w hw => ((ri_row 0 rfl) w hw).ln) rfl (fun v1_1 => ?_)
  refine TL.cls (fun w hw => hw.uniTab 0 1 rfl rfl rfl) ?_
  refine TL.op (yq (y_assign (ev_t rfl))) rfl rfl rfl ?_
  refine TL.nil ?_
  refine TN.seq ?_
  refine TC.seq ?_
  refine TC.seq ?_
  refine TC.region ?_
  refine TL.op (yq (y_assign ev_c)) rfl rfl rfl ?_
  refine TL.nil ?_
  refine TN.seq ?_
  refine TC.block ?_
  obtain ⟨c35, hc36⟩ : ∃ c, F_spec_l6Perms_L1 k ((((k).toNat) - 0) + 1) (([([] : List Int)]), 0) = c := ⟨_, rfl⟩
  rw [hc36] at hF
  refine TC.loop (ι := Nat × List (List Int) × Nat × Value × List Value) (fun (fu1, now1, i1, vnow1, unow1) => [(0, (.int .i64 k)), (3, vnow1), (4, (.int .i64 (i1 : Int)))]) (fun (fu1, now1, i1, vnow1, unow1) => Hp w [tabI 25 3 vnow1 unow1 now1]) (fun (fu1, now1, i1, vnow1, unow1) => (i1 ≤ ((k).toNat)) ∧ (now1.length ≤ 3 ^ i1) ∧ (∀ j, (now1.getD j []).length ≤ i1) ∧ ((k).toNat) - i1 < fu1 ∧ F_spec_l6Perms_L1 k fu1 (now1, i1) = c35) (fun (fu1, now1, i1, vnow1, unow1) => fu1) ((((k).toNat) - 0) + 1, [([] : List Int)], 0, v1_1, [v1_0]) ⟨(by first | omega | (simp [-List.getD_eq_getElem?_getD] <;> omega)), (by simp), (fun j => by cases j <;> simp), (by omega), hc36⟩ ⟨rfl, rfl, rfl, trivial⟩ (fun w hw => Hp.sublist hw (.cons_cons _ (.cons _ .slnil))) ?_
  rintro ⟨fu1, now1, i1, vnow1, unow1⟩ hJ1
  obtain ⟨hi1_0, hi1_1, hi1_2, hmu1, hL1⟩ : (i1 ≤ ((k).toNat)) ∧ (now1.length ≤ 3 ^ i1) ∧ (∀ j, (now1.getD j []).length ≤ i1) ∧ ((k).toNat) - i1 < fu1 ∧ F_spec_l6Perms_L1 k fu1 (now1, i1) = c35 := hJ1
  change TC _ _ _ _ (Hp w [tabI 25 3 vnow1 unow1 now1]) [(0, (.int .i64 k)), (3, vnow1), (4, (.int .i64 (i1 : Int)))]
  obtain ⟨mf1, rfl⟩ : ∃ m, fu1 = m + 1 := ⟨fu1 - 1, by omega⟩
  rw [F_spec_l6Perms_L1_s] at hL1
  have hpw : 3 ^ i1 ≤ 3 ^ 3 := Nat.pow_le_pow_right (by decide) (by omega)
  refine TC.seq ?_
  refine TC.seq ?_
  refine TC.region ?_
  refine TL.op (yq (y_move (ev_t rfl))) rfl rfl rfl ?_
  refine TL.op (yq (y_move (ev_t rfl))) rfl rfl rfl ?_
  refine TL.op (yq (y_lss (ev_t rfl) (ev_t rfl))) rfl rfl rfl ?_
  refine TL.nil ?_
  refine TN.seq ?_
  refine TC.cond (b := decide ((i1 : Int) < k)) (ev_t rfl) (fun h37 => ?_) (fun h37 => ?_)
  · rw [bif_pos h37] at hL1
    have q38 := (of_decide_eq_true h37)
    refine TC.skip ?_
    refine TN.seq ?_
    refine TC.seq ?_
    refine TC.block ?_
    refine TC.seq ?_
    refine TC.region ?_
    refine TL.buildSlice (zs := []) (vs := []) slT_22 rfl trivial (by simp) rfl (by decide) rfl (fun v5_0 => ?_)
    refine TL.cls (fun w hw => hw.emptyTab 3) ?_
    refine TL.op (yq (y_assign (ev_t rfl))) rfl rfl rfl ?_
    refine TL.nil ?_
    refine TN.seq ?_
    refine TC.seq ?_
    refine TC.seq ?_
    refine TC.region ?_
    refine TL.op (yq (y_assign ev_c)) rfl rfl rfl ?_
    refine TL.nil ?_
    refine TN.seq ?_
    refine TC.block ?_
    obtain ⟨c39, hc40⟩ : ∃ c, F_spec_l6Perms_L2 k now1 ((now1.length - 0) + 1) (([]), 0) = c := ⟨_, rfl⟩
    rw [hc40] at hL1
    refine TC.loop (ι := Nat × List (List Int) × Nat × Value × List Value) (fun (fu2, next2, j2, vnext2, unext2) => [(0, (.int .i64 k)), (3, vnow1), (4, (.int .i64 (i1 : Int))), (5, vnext2), (6, (.int .i64 (j2 : Int)))]) (fun (fu2, next2, j2, vnext2, unext2) => Hp w [tabI 25 3 vnext2 unext2 next2, tabI 25 3 vnow1 unow1 now1]) (fun (fu2, next2, j2, vnext2, unext2) => (j2 ≤ now1.length) ∧ (next2.length ≤ 3 * j2) ∧ (∀ j, (next2.getD j []).length ≤ i1 + 1) ∧ now1.length - j2 < fu2 ∧ F_spec_l6Perms_L2 k now1 fu2 (next2, j2) = c39) (fun (fu2, next2, j2, vnext2, unext2) => fu2) ((now1.length - 0) + 1, [], 0, v5_0, []) ⟨(by first | omega | (simp [-List.getD_eq_getElem?_getD] <;> omega)), (by first | omega | (simp [-List.getD_eq_getElem?_getD] <;> omega)), (fun j => by simp), (by omega), hc40⟩ ⟨rfl, rfl, rfl, rfl, rfl, trivial⟩ (fun w hw => hw) ?_
    rintro ⟨fu2, next2, j2, vnext2, unext2⟩ hJ2
    obtain ⟨hi2_0, hi2_1, hi2_2, hmu2, hL2⟩ : (j2 ≤ now1.length) ∧ (next2.length ≤ 3 * j2) ∧ (∀ j, (next2.getD j []).length ≤ i1 + 1) ∧ now1.length - j2 < fu2 ∧ F_spec_l6Perms_L2 k now1 fu2 (next2, j2) = c39 := hJ2
    change TC _ _ _ _ (Hp w [tabI 25 3 vnext2 unext2 next2, tabI 25 3 vnow1 unow1 now1]) [(0, (.int .i64 k)), (3, vnow1), (4, (.int .i64 (i1 : Int))), (5, vnext2), (6, (.int .i64 (j2 : Int)))]
    obtain ⟨mf2, rfl⟩ : ∃ m, fu2 = m + 1 := ⟨fu2 - 1, by omega⟩
    rw [F_spec_l6Perms_L2_s] at hL2
    have hol := hi1_2 j2
    refine TC.seq ?_
    refine TC.seq ?_
    refine TC.region ?_
    refine TL.op (yq (y_move (ev_t rfl))) rfl rfl rfl ?_
    refine TL.op (yq (y_move (ev_t rfl))) rfl rfl rfl ?_
    refine TL.op (yq (y_len (ev_t rfl) Try.underlying22 (fun w hw => ((fun w hw => ((rii_tab 1 rfl) w hw).1) w hw).ln))) rfl rfl rfl ?_
    refine TL.op (yq (y_lss (ev_t rfl) (ev_t rfl))) rfl rfl rfl ?_
    refine TL.nil ?_
    refine TN.seq ?_
    refine TC.cond (b := decide ((j2 : Int) < (now1.length : Int))) (ev_t rfl) (fun h41 => ?_) (fun h41 => ?_)
    · rw [bif_pos h41] at hL2
      have q42 := (of_decide_eq_true h41)
      refine TC.skip ?_
      refine TN.seq ?_
      refine TC.seq ?_
      refine TC.block ?_
      refine TC.seq ?_
      refine TC.region ?_
      refine TL.op (yq (y_assign ev_c)) rfl rfl rfl ?_
      refine TL.nil ?_
      refine TN.seq ?_
      refine TC.block ?_
      obtain ⟨c43, hc44⟩ : ∃ c, F_spec_l6Perms_L3 k now1 j2 ((((k).toNat) - 0) + 1) (next2, 0) = c := ⟨_, rfl⟩
      rw [hc44] at hL2
      refine TC.loop (ι := Nat × List (List Int) × Nat × Value × List Value) (fun (fu3, next3, x3, vnext3, unext3) => [(0, (.int .i64 k)), (3, vnow1), (4, (.int .i64 (i1 : Int))), (5, vnext3), (6, (.int .i64 (j2 : Int))), (7, (.int .i64 (x3 : Int)))]) (fun (fu3, next3, x3, vnext3, unext3) => Hp w [tabI 25 3 vnext3 unext3 next3, tabI 25 3 vnow1 unow1 now1]) (fun (fu3, next3, x3, vnext3, unext3) => (x3 ≤ ((k).toNat)) ∧ (next3.length ≤ next2.length + x3) ∧ (∀ j, (next3.getD j []).length ≤ i1 + 1) ∧ ((k).toNat) - x3 < fu3 ∧ F_spec_l6Perms_L3 k now1 j2 fu3 (next3, x3) = c43) (fun (fu3, next3, x3, vnext3, unext3) => fu3) ((((k).toNat) - 0) + 1, next2, 0, vnext2, unext2) ⟨(by first | omega | (simp [-List.getD_eq_getElem?_getD] <;> omega)), (by first | omega | (simp [-List.getD_eq_getElem?_getD] <;> omega)), hi2_2, (by omega), hc44⟩ ⟨rfl, rfl, rfl, rfl, rfl, rfl, trivial⟩ (fun w hw => hw) ?_
      rintro ⟨fu3, next3, x3, vnext3, unext3⟩ hJ3
      obtain ⟨hi3_0, hi3_1, hi3_2, hmu3, hL3⟩ : (x3 ≤ ((k).toNat)) ∧ (next3.length ≤ next2.length + x3) ∧ (∀ j, (next3.getD j []).length ≤ i1 + 1) ∧ ((k).toNat) - x3 < fu3 ∧ F_spec_l6Perms_L3 k now1 j2 fu3 (next3, x3) = c43 := hJ3
      change TC _ _ _ _ (Hp w [tabI 25 3 vnext3 unext3 next3, tabI 25 3 vnow1 unow1 now1]) [(0, (.int .i64 k)), (3, vnow1), (4, (.int .i64 (i1 : Int))), (5, vnext3), (6, (.int .i64 (j2 : Int))), (7, (.int .i64 (x3 : Int)))]
      obtain ⟨mf3, rfl⟩ : ∃ m, fu3 = m + 1 := ⟨fu3 - 1, by omega⟩
      rw [F_spec_l6Perms_L3_s] at hL3
      refine TC.seq ?_
      refine TC.seq ?_
      refine TC.region ?_
      refine TL.op (yq (y_move (ev_t rfl))) rfl rfl rfl ?_
      refine TL.op (yq (y_move (ev_t rfl))) rfl rfl rfl ?_
      refine TL.op (yq (y_lss (ev_t rfl) (ev_t rfl))) rfl rfl rfl ?_
      refine TL.nil ?_
      refine TN.seq ?_
      refine TC.cond (b := decide ((x3 : Int) < k)) (ev_t rfl) (fun h45 => ?_) (fun h45 => ?_)
      · rw [bif_pos h45] at hL3
        have q46 := (of_decide_eq_true h45)
        refine TC.skip ?_
        refine TN.seq ?_
        refine TC.seq ?_
        refine TC.block ?_
        refine TC.seq ?_
        refine TC.region ?_
        refine TL.op (yq (y_move (ev_t rfl))) rfl rfl rfl ?_
        refine TL.op (yq (y_move (ev_t rfl))) rfl rfl rfl ?_
        have hb47 : j2 < now1.length := (by first | omega | (simp only [List.length_set, List.length_append, List.length_cons, List.length_nil, List.length_replicate]; omega))
        refine TL.op (yq (y_idx (k := j2) (ev_t rfl) (ev_t rfl) (by omega) slT_22 (fun w hw => ((rii_tab 1 rfl) w hw).1) hb47)) rfl rfl rfl ?_
        refine TL.op (yq (y_ldT 1 (ev_t rfl) one_25 rfl hb47)) rfl rfl rfl ?_
        refine TL.op (yq (y_move (ev_t rfl))) rfl rfl rfl ?_
        refine TL.op (y_call (vs := [(unow1.getD j2 undef), (.int .i64 (x3 : Int))]) (v := (.bool (F_spec_l1Has (now1.getD j2 []) (x3 : Int)))) en_87 ⟨(ev_t rfl), (ev_t rfl), trivial⟩ (fun w hw => spec_l1Has_ok w (unow1.getD j2 undef) (now1.getD j2 []) ((ri_tab 1 j2 rfl hb47) w hw) (x3 : Int))) rfl rfl rfl ?_
        refine TL.op (yq (y_not (ev_t rfl))) rfl rfl rfl ?_
        refine TL.nil ?_
        refine TN.seq ?_
        refine TC.cond (b := !(F_spec_l1Has (now1.getD j2 []) (x3 : Int))) (ev_t rfl) (fun h48 => ?_) (fun h48 => ?_)
        · rw [bif_pos h48] at hL3
          have q49 := (l1Has_f (not_t h48))
          refine TC.region ?_
          refine TL.op (yq (y_move (ev_t rfl))) rfl rfl rfl ?_
          refine TL.buildI (zs := []) (qs := []) slT_25 rfl trivial rfl (by decide) rfl (fun v13_1 => ?_)
          refine TL.op (yq (y_move (ev_t rfl))) rfl rfl rfl ?_
          refine TL.op (yq (y_move (ev_t rfl))) rfl rfl rfl ?_
          have hb50 : j2 < now1.length := (by first | omega | (simp only [List.length_set, List.length_append, List.length_cons, List.length_nil, List.length_replicate]; omega))
          refine TL.op (yq (y_idx (k := j2) (ev_t rfl) (ev_t rfl) (by omega) slT_22 (fun w hw => ((rii_tab 2 rfl) w hw).1) hb50)) rfl rfl rfl ?_
          refine TL.op (yq (y_ldT 2 (ev_t rfl) one_25 rfl hb50)) rfl rfl rfl ?_
          refine TL.appendI 0 (ev_t rfl) (ev_t rfl) rfl slT_25 (ri_tab 2 j2 rfl hb50) (by first | omega | (simp [-List.getD_eq_getElem?_getD] <;> omega)) rfl (fun v13_6 => ?_)
          refine TL.op (yq (y_move (ev_t rfl))) rfl rfl rfl ?_
          refine TL.buildI (zs := [.tmp 41]) (qs := [(x3 : Int)]) slT_25 rfl ⟨(ev_t rfl), trivial⟩ rfl (by decide) rfl (fun v13_8 => ?_)
          refine TL.appendI 1 (ev_t rfl) (ev_t rfl) rfl slT_25 (ri_row 0 rfl) (by first | omega | (simp [-List.getD_eq_getElem?_getD] <;> omega)) rfl (fun v13_9 => ?_)
          refine TL.buildU slT_22 (ev_t rfl) (fun w hw => ((ri_row 1 rfl) w hw).ln) rfl (fun v13_10 => ?_)
          refine TL.appendT 3 2 rfl (ev_t rfl) (ev_t rfl) rfl rfl slT_22 (rd_row 0 rfl) (by first | omega | (simp [-List.getD_eq_getElem?_getD] <;> omega)) rfl (fun v13_11 => ?_)
          refine TL.op (yq (y_assign (ev_t rfl))) rfl rfl rfl ?_
          refine TL.nil ?_
          refine TN.blockN ?_
          refine TN.seq ?_
          refine TC.region ?_
          refine TL.op (yq (y_move (ev_t rfl))) rfl rfl rfl ?_
          refine TL.op (yq (y_add (ev_t rfl) ev_c (by unfold In64; omega))) rfl rfl rfl ?_
          refine TL.op (yq (y_assign (ev_t rfl))) rfl rfl rfl ?_
          refine TL.nil ?_
          exact TN.hand (mf3, (next3 ++ [((([] : List Int) ++ (now1.getD j2 [])) ++ ([(x3 : Int)]))]), (x3 + 1), v13_11, (unext3 ++ [v13_9])) ⟨(by first | omega | (simp [-List.getD_eq_getElem?_getD] <;> omega)), (by first | omega | (simp [-List.getD_eq_getElem?_getD] <;> omega)), (by first | exact hi3_2 | exact push_len hi3_2 (by simp only [List.length_append, List.length_cons, List.length_nil]; omega)), (by omega), hL3⟩ (Nat.lt_succ_self _) ⟨rfl, rfl, rfl, rfl, rfl, rfl, trivial⟩ (fun w hw => Hp.sublist hw (.cons _ (.cons _ (.cons _ (.cons_cons _ (.cons_cons _ .slnil))))))
        · rw [bif_neg h48] at hL3
          have q49 := (not_f h48)
          refine TC.skip ?_
          refine TN.blockN ?_
          refine TN.seq ?_
          refine TC.region ?_
          refine TL.op (yq (y_move (ev_t rfl))) rfl rfl rfl ?_
          refine TL.op (yq (y_add (ev_t rfl) ev_c (by unfold In64; omega))) rfl rfl rfl ?_
          refine TL.op (yq (y_assign (ev_t rfl))) rfl rfl rfl ?_
          refine TL.nil ?_
          exact TN.hand (mf3, next3, (x3 + 1), vnext3, unext3) ⟨(by first | omega | (simp [-List.getD_eq_getElem?_getD] <;> omega)), (by first | omega | (simp [-List.getD_eq_getElem?_getD] <;> omega)), (by first | exact hi3_2 | exact push_len hi3_2 (by simp only [List.length_append, List.length_cons, List.length_nil]; omega)), (by omega), hL3⟩ (Nat.lt_succ_self _) ⟨rfl, rfl, rfl, rfl, rfl, rfl, trivial⟩ (fun w hw => hw)
      · rw [bif_neg h45] at hL3
        have q46 := (of_decide_eq_false h45)
        refine TC.exit ?_
        refine TN.thenE ?_
        refine TN.thenE ?_
        rw [← hL3, elim_next] at hL2
        try dsimp only at hL2
        refine TN.blockH ?_
        refine TN.blockN ?_
        refine TN.seq ?_
        refine TC.region ?_
        refine TL.op (yq (y_move (ev_t rfl))) rfl rfl rfl ?_
        refine TL.op (yq (y_add (ev_t rfl) ev_c (by unfold In64; omega))) rfl rfl rfl ?_
        refine TL.op (yq (y_assign (ev_t rfl))) rfl rfl rfl ?_
        refine TL.nil ?_
        exact TN.hand (mf2, next3, (j2 + 1), vnext3, unext3) ⟨(by first | omega | (simp [-List.getD_eq_getElem?_getD] <;> omega)), (by first | omega | (simp [-List.getD_eq_getElem?_getD] <;> omega)), hi3_2, (by omega), hL2⟩ (Nat.lt_succ_self _) ⟨rfl, rfl, rfl, rfl, rfl, trivial⟩ (fun w hw => hw)
    · rw [bif_neg h41] at hL2
      have q42 := (of_decide_eq_false h41)
      refine TC.exit ?_
      refine TN.thenE ?_
      refine TN.thenE ?_
      rw [← hL2, elim_next] at hL1
      try dsimp only at hL1
      refine TN.blockH ?_
      refine TN.seq ?_
      refine TC.region ?_
      refine TL.op (yq (y_move (ev_t rfl))) rfl rfl rfl ?_
      refine TL.op (yq (y_assign (ev_t rfl))) rfl rfl rfl ?_
      refine TL.nil ?_
      refine TN.blockN ?_
      refine TN.seq ?_
      refine TC.region ?_
      refine TL.op (yq (y_move (ev_t rfl))) rfl rfl rfl ?_
      refine TL.op (yq (y_add (ev_t rfl) ev_c (by unfold In64; omega))) rfl rfl rfl ?_
      refine TL.op (yq (y_assign (ev_t rfl))) rfl rfl rfl ?_
      refine TL.nil ?_
      exact TN.hand (mf1, next2, (i1 + 1), vnext2, unext2) ⟨(by first | omega | (simp [-List.getD_eq_getElem?_getD] <;> omega)), (by rw [Nat.pow_succ]; omega), hi2_2, (by omega), hL1⟩ (Nat.lt_succ_self _) ⟨rfl, rfl, rfl, trivial⟩ (fun w hw => Hp.sublist hw (.cons_cons _ (.cons _ .slnil)))
  · rw [bif_neg h37] at hL1
    have q38 := (of_decide_eq_false h37)
    refine TC.exit ?_
    refine TN.thenE ?_
    refine TN.thenE ?_
    rw [← hL1, elim_next] at hF
    try dsimp only at hF
    refine TN.blockH ?_
    refine TN.seq ?_
    refine TC.seq ?_
    refine TC.region ?_
    refine TL.op (yq (y_move (ev_t rfl))) rfl rfl rfl ?_
    refine TL.op (yq (y_assign (ev_t rfl))) rfl rfl rfl ?_
    refine TL.nil ?_
    refine TN.seq ?_
    refine TC.ret ?_
    subst hF
    exact TN.ret1 rfl (ev_t rfl) (fun w' hw => ⟨(vnow1, unow1), rfl, hw⟩)

set_option maxRecDepth 4000 in
set_option maxHeartbeats 1000000 in
theorem impl_Metric_matched_ok (w : World) (vm : Value) (um : List Value) (m : List (List Int)) (hm : RII w vm um m) (va : Value) (a : List Int) (ha : RI w va a) (vb : Value) (b : List Int) (hb : RI w vb b) (hp0 : Tab m) (hp1 : Cf m.length a) (hp2 : Cf m.length b) (hp3 : a.length = b.length) :
    Calls Try.prog 91 ([(.agg #[vm]), va, vb] : List Value).toArray w (fun e w' => ∃ i : Value, e = .returned (.tuple #[i, (.int .i64 ((F_impl_Metric_matched m a b).2))]) ∧ Hp w [rowI 3 i ((F_impl_Metric_matched m a b).1)] w') := by
  obtain ⟨rz, hF⟩ : ∃ rz, (F_impl_Metric_matched m a b) = rz := ⟨_, rfl⟩
  rw [hF]
  unfold F_impl_Metric_matched at hF
  have hn3 := hp1.n3
  have hor := orders_row a.length hp1.n1 hp1.n3
  have hlen_m := argT_len hm
  have hlen_a := arg_len ha
  have hlen_b := arg_len hb
  refine calls_tc Try.func91 rfl rfl rfl ?_
  change TC _ _ _ _ (Hp w []) [(0, (.agg #[vm])), (1, va), (2, vb)]
  refine TC.seq ?_
  refine TC.region ?_
  refine TL.box (ev_t rfl) rfl (fun g0_0 => ?_)
  refine TL.op (yq (y_assign ev_c)) rfl rfl rfl ?_
  refine TL.op (yq (y_assign ev_c)) rfl rfl rfl ?_
  refine TL.nil ?_
  refine TN.seq ?_
  refine TC.seq ?_
  refine TC.region ?_
  refine TL.op (yq (y_assign ev_c)) rfl rfl rfl ?_
  refine TL.nil ?_
  refine TN.seq ?_
  refine TC.seq ?_
  refine TC.region ?_
  refine TL.op (yq (y_assign ev_c)) rfl rfl rfl ?_
  refine TL.nil ?_
  refine TN.seq ?_
  refine TC.seq ?_
  refine TC.seq ?_
  refine TC.region ?_
  refine TL.op (yq (y_move (ev_t rfl))) rfl rfl rfl ?_
  refine TL.op (yq (y_len (ev_t rfl) Try.underlying25 (fun w hw => ((ri_arg ha) w hw).ln))) rfl rfl rfl ?_
  refine TL.callr (ι := Value × List Value) (vs := [(.int .i64 (a.length : Int))]) (fun i => i.1) (fun i => [tabI 25 3 i.1 i.2 (F_impl_orders (a.length : Int))]) en_113 ⟨(ev_t rfl), trivial⟩ rfl (fun w hw => impl_orders_ok w (a.length : Int) (by first | assumption | omega | grind)) (fun r3_2 => ?_)
  refine TL.op (yq (y_len (ev_t rfl) Try.underlying22 (fun w hw => ((fun w hw => ((rii_tab 0 rfl) w hw).1) w hw).ln))) rfl rfl rfl ?_
  refine TL.op (yq (y_move ev_c)) rfl rfl rfl ?_
  refine TL.nil ?_
  refine TN.seq ?_
  refine TC.block ?_
  obtain ⟨c56, hc57⟩ : ∃ c, F_impl_Metric_matched_L1 m a b ((((F_impl_orders (a.length : Int)).length) - 0) + 1) (([]), 1073741824, 0) = c := ⟨_, rfl⟩
  rw [hc57] at hF
  refine TC.loop (ι := Nat × List Int × Int × Nat × Value) (fun (fu1, best1, least1, k19_1, vbest1) => [(1, va), (2, vb), (3, (.pointer (some ⟨g0_0, 0, none⟩))), (8, vbest1), (9, (.int .i64 least1)), (17, r3_2.1), (18, (.int .i64 ((F_impl_orders (a.length : Int)).length : Int))), (19, (.int .i64 (k19_1 : Int)))]) (fun (fu1, best1, least1, k19_1, vbest1) => Hp w [tabI 25 3 r3_2.1 r3_2.2 (F_impl_orders (a.length : Int)), .blk g0_0 29 [vm]]) (fun (fu1, best1, least1, k19_1, vbest1) => (k19_1 ≤ ((F_impl_orders (a.length : Int)).length)) ∧ (∀ w', Hp w [tabI 25 3 r3_2.1 r3_2.2 (F_impl_orders (a.length : Int))] w' → Hp w [rowI 3 vbest1 best1] w') ∧ ((F_impl_orders (a.length : Int)).length) - k19_1 < fu1 ∧ F_impl_Metric_matched_L1 m a b fu1 (best1, least1, k19_1) = c56) (fun (fu1, best1, least1, k19_1, vbest1) => fu1) ((((F_impl_orders (a.length : Int)).length) - 0) + 1, [], 1073741824, 0, (.slice none 0 0)) ⟨(by first | omega | (simp [-List.getD_eq_getElem?_getD] <;> omega)), (fun w hw => (Hp.sublist hw (List.nil_sublist _)).nil _ _), (by omega), hc57⟩ ⟨rfl, rfl, rfl, rfl, rfl, rfl, rfl, rfl, trivial⟩ (fun w hw => hw) ?_
  rintro ⟨fu1, best1, least1, k19_1, vbest1⟩ hJ1
  obtain ⟨hi1_0, hrbest1, hmu1, hL1⟩ : (k19_1 ≤ ((F_impl_orders (a.length : Int)).length)) ∧ (∀ w', Hp w [tabI 25 3 r3_2.1 r3_2.2 (F_impl_orders (a.length : Int))] w' → Hp w [rowI 3 vbest1 best1] w') ∧ ((F_impl_orders (a.length : Int)).length) - k19_1 < fu1 ∧ F_impl_Metric_matched_L1 m a b fu1 (best1, least1, k19_1) = c56 := hJ1
  change TC _ _ _ _ (Hp w [tabI 25 3 r3_2.1 r3_2.2 (F_impl_orders (a.length : Int)), .blk g0_0 29 [vm]]) [(1, va), (2, vb), (3, (.pointer (some ⟨g0_0, 0, none⟩))), (8, vbest1), (9, (.int .i64 least1)), (17, r3_2.1), (18, (.int .i64 ((F_impl_orders (a.length : Int)).length : Int))), (19, (.int .i64 (k19_1 : Int)))]
  obtain ⟨mf1, rfl⟩ : ∃ m, fu1 = m + 1 := ⟨fu1 - 1, by omega⟩
  rw [F_impl_Metric_matched_L1_s] at hL1
  have hoj := hor.2.2 k19_1
  refine TC.seq ?_
  refine TC.region ?_
  refine TL.op (yq (y_lss (ev_t rfl) (ev_t rfl))) rfl rfl rfl ?_
  refine TL.nil ?_
  refine TN.seq ?_
  refine TC.seq ?_
  refine TC.cond (b := decide ((k19_1 : Int) < ((F_impl_orders (a.length : Int)).length : Int))) (ev_t rfl) (fun h58 => ?_) (fun h58 => ?_)
  · rw [bif_pos h58] at hL1
    have q59 := (of_decide_eq_true h58)
    refine TC.skip ?_
    refine TN.seq ?_
    refine TC.seq ?_
    refine TC.block ?_
    refine TC.seq ?_
    refine TC.region ?_
    have hb60 : k19_1 < (F_impl_orders (a.length : Int)).length := (by first | omega | (simp only [List.length_set, List.length_append, List.length_cons, List.length_nil, List.length_replicate]; omega))
    refine TL.op (yq (y_idx (k := k19_1) (ev_t rfl) (ev_t rfl) (by omega) slT_22 (fun w hw => ((rii_tab 0 rfl) w hw).1) hb60)) rfl rfl rfl ?_
    refine TL.op (yq (y_ldT 0 (ev_t rfl) one_25 rfl hb60)) rfl rfl rfl ?_
    refine TL.op (yq (y_assign (ev_t rfl))) rfl rfl rfl ?_
    refine TL.nil ?_
    refine TN.seq ?_
    refine TC.seq ?_
    refine TC.region ?_
    refine TL.op (yq (y_assign ev_c)) rfl rfl rfl ?_
    refine TL.nil ?_
    refine TN.seq ?_
    refine TC.seq ?_
    refine TC.seq ?_
    refine TC.region ?_
    refine TL.op (yq (y_move (ev_t rfl))) rfl rfl rfl ?_
    refine TL.op (yq (y_len (ev_t rfl) Try.underlying25 (fun w hw => ((ri_tab 0 k19_1 rfl hb60) w hw).ln))) rfl rfl rfl ?_
    refine TL.op (yq (y_move ev_c)) rfl rfl rfl ?_
    refine TL.nil ?_
    refine TN.seq ?_
    refine TC.block ?_
    obtain ⟨c61, hc62⟩ : ∃ c, F_impl_Metric_matched_L2 m a b k19_1 (((((F_impl_orders (a.length : Int)).getD k19_1 []).length) - 0) + 1) (0, 0) = c := ⟨_, rfl⟩
    rw [hc62] at hL1
    refine TC.loop (ι := Nat × Int × Nat) (fun (fu2, cost2, k25_2) => [(1, va), (2, vb), (3, (.pointer (some ⟨g0_0, 0, none⟩))), (8, vbest1), (9, (.int .i64 least1)), (11, (r3_2.2.getD k19_1 undef)), (12, (.int .i64 cost2)), (17, r3_2.1), (18, (.int .i64 ((F_impl_orders (a.length : Int)).length : Int))), (19, (.int .i64 (k19_1 : Int))), (23, (r3_2.2.getD k19_1 undef)), (24, (.int .i64 (((F_impl_orders (a.length : Int)).getD k19_1 []).length : Int))), (25, (.int .i64 (k25_2 : Int)))]) (fun (fu2, cost2, k25_2) => Hp w [tabI 25 3 r3_2.1 r3_2.2 (F_impl_orders (a.length : Int)), .blk g0_0 29 [vm]]) (fun (fu2, cost2, k25_2) => (k25_2 ≤ (((F_impl_orders (a.length : Int)).getD k19_1 []).length)) ∧ (-99 * (k25_2 : Int) ≤ cost2) ∧ (cost2 ≤ 99 * (k25_2 : Int)) ∧ (((F_impl_orders (a.length : Int)).getD k19_1 []).length) - k25_2 < fu2 ∧ F_impl_Metric_matched_L2 m a b k19_1 fu2 (cost2, k25_2) = c61) (fun (fu2, cost2, k25_2) => fu2) (((((F_impl_orders (a.length : Int)).getD k19_1 []).length) - 0) + 1, 0, 0) ⟨(by first | omega | (simp [-List.getD_eq_getElem?_getD] <;> omega)), (by first | omega | (simp [-List.getD_eq_getElem?_getD] <;> omega)), (by first | omega | (simp [-List.getD_eq_getElem?_getD] <;> omega)), (by omega), hc62⟩ ⟨rfl, rfl, rfl, rfl, rfl, rfl, rfl, rfl, rfl, rfl, rfl, rfl, rfl, trivial⟩ (fun w hw => hw) ?_
    rintro ⟨fu2, cost2, k25_2⟩ hJ2
    obtain ⟨hi2_0, hi2_1, hi2_2, hmu2, hL2⟩ : (k25_2 ≤ (((F_impl_orders (a.length : Int)).getD k19_1 []).length)) ∧ (-99 * (k25_2 : Int) ≤ cost2) ∧ (cost2 ≤ 99 * (k25_2 : Int)) ∧ (((F_impl_orders (a.length : Int)).getD k19_1 []).length) - k25_2 < fu2 ∧ F_impl_Metric_matched_L2 m a b k19_1 fu2 (cost2, k25_2) = c61 := hJ2
    change TC _ _ _ _ (Hp w [tabI 25 3 r3_2.1 r3_2.2 (F_impl_orders (a.length : Int)), .blk g0_0 29 [vm]]) [(1, va), (2, vb), (3, (.pointer (some ⟨g0_0, 0, none⟩))), (8, vbest1), (9, (.int .i64 least1)), (11, (r3_2.2.getD k19_1 undef)), (12, (.int .i64 cost2)), (17, r3_2.1), (18, (.int .i64 ((F_impl_orders (a.length : Int)).length : Int))), (19, (.int .i64 (k19_1 : Int))), (23, (r3_2.2.getD k19_1 undef)), (24, (.int .i64 (((F_impl_orders (a.length : Int)).getD k19_1 []).length : Int))), (25, (.int .i64 (k25_2 : Int)))]
    obtain ⟨mf2, rfl⟩ : ∃ m, fu2 = m + 1 := ⟨fu2 - 1, by omega⟩
    rw [F_impl_Metric_matched_L2_s] at hL2
    have hoe := hoj (by omega)
    have hoe2 := hoe.2 k25_2
    have ha1 := hp1.el k25_2
    have hb1 := hp2.el ((((F_impl_orders (a.length : Int)).getD k19_1 []).getD k25_2 0).toNat)
    have hrw := hp0.rows ((a.getD k25_2 0).toNat)
    have hme := hp0.el ((a.getD k25_2 0).toNat) ((b.getD ((((F_impl_orders (a.length : Int)).getD k19_1 []).getD k25_2 0).toNat) 0).toNat)
    refine TC.seq ?_
    refine TC.region ?_
    refine TL.op (yq (y_lss (ev_t rfl) (ev_t rfl))) rfl rfl rfl ?_
    refine TL.nil ?_
    refine TN.seq ?_
    refine TC.seq ?_
    refine TC.cond (b := decide ((k25_2 : Int) < (((F_impl_orders (a.length : Int)).getD k19_1 []).length : Int))) (ev_t rfl) (fun h63 => ?_) (fun h63 => ?_)
    · rw [bif_pos h63] at hL2
      have q64 := (of_decide_eq_true h63)
      refine TC.skip ?_
      refine TN.seq ?_
      refine TC.seq ?_
      refine TC.block ?_
      refine TC.seq ?_
      refine TC.region ?_
      refine TL.op (yq (y_move (ev_t rfl))) rfl rfl rfl ?_
      have hb65 : k25_2 < ((F_impl_orders (a.length : Int)).getD k19_1 []).length := (by first | omega | (simp only [List.length_set, List.length_append, List.length_cons, List.length_nil, List.length_replicate]; omega))
      refine TL.op (yq (y_idx (k := k25_2) (ev_t rfl) (ev_t rfl) (by omega) slT_25 (ri_tab 0 k19_1 rfl hb60) hb65)) rfl rfl rfl ?_
      refine TL.op (yq (y_ldi (ev_t rfl) one_3 (ri_tab 0 k19_1 rfl hb60) hb65)) rfl rfl rfl ?_
      refine TL.op (yq (y_assign (ev_t rfl))) rfl rfl rfl ?_
      refine TL.op (yq (y_assign (ev_t rfl))) rfl rfl rfl ?_
      refine TL.nil ?_
      refine TN.seq ?_
      refine TC.regionQ (by kernel_rfl) (by kernel_rfl) dr_hp ?_
      refine TQ.op (yq (y_move (ev_t rfl))) rfl rfl rfl ?_
      refine TQ.op (yq (y_fa (fa_29_0 g0_0) (ev_t rfl))) rfl rfl rfl ?_
      refine TQ.op (yq (y_ldb 1 (ev_t rfl) one_22 rfl rfl)) rfl rfl rfl ?_
      refine TQ.op (yq (y_move (ev_t rfl))) rfl rfl rfl ?_
      refine TQ.op (yq (y_move (ev_t rfl))) rfl rfl rfl ?_
      have hb66 : k25_2 < a.length := (by first | omega | (simp only [List.length_set, List.length_append, List.length_cons, List.length_nil, List.length_replicate]; omega))
      refine TQ.op (yq (y_idx (k := k25_2) (ev_t rfl) (ev_t rfl) (by omega) slT_25 (ri_arg ha) hb66)) rfl rfl rfl ?_
      refine TQ.op (yq (y_ldi (ev_t rfl) one_3 (ri_arg ha) hb66)) rfl rfl rfl ?_
      have hb67 : ((a.getD k25_2 0)).toNat < m.length := (by first | omega | (simp only [List.length_set, List.length_append, List.length_cons, List.length_nil, List.length_replicate]; omega))
      refine TQ.op (yq (y_idx (k := ((a.getD k25_2 0)).toNat) (ev_t rfl) (ev_t rfl) (by omega) slT_22 (fun w hw => ((rii_arg hm) w hw).1) hb67)) rfl rfl rfl ?_
      have ha68 := hm.row (i := ((a.getD k25_2 0)).toNat) hb67
      refine TQ.op (yq (y_ldA (ev_t rfl) one_25 (rii_arg hm) hb67)) rfl rfl rfl ?_
      refine TQ.op (yq (y_move (ev_t rfl))) rfl rfl rfl ?_
      refine TQ.op (yq (y_move (ev_t rfl))) rfl rfl rfl ?_
      have hb69 : ((((F_impl_orders (a.length : Int)).getD k19_1 []).getD k25_2 0)).toNat < b.length := (by first | omega | (simp only [List.length_set, List.length_append, List.length_cons, List.length_nil, List.length_replicate]; omega))
      refine TQ.op (yq (y_idx (k := ((((F_impl_orders (a.length : Int)).getD k19_1 []).getD k25_2 0)).toNat) (ev_t rfl) (ev_t rfl) (by omega) slT_25 (ri_arg hb) hb69)) rfl rfl rfl ?_
      refine TQ.op (yq (y_ldi (ev_t rfl) one_3 (ri_arg hb) hb69)) rfl rfl rfl ?_
      have hb70 : ((b.getD (((((F_impl_orders (a.length : Int)).getD k19_1 []).getD k25_2 0)).toNat) 0)).toNat < (m.getD (((a.getD k25_2 0)).toNat) []).length := (by first | omega | (simp only [List.length_set, List.length_append, List.length_cons, List.length_nil, List.length_replicate]; omega))
      refine TQ.op (yq (y_idx (k := ((b.getD (((((F_impl_orders (a.length : Int)).getD k19_1 []).getD k25_2 0)).toNat) 0)).toNat) (ev_t rfl) (ev_t rfl) (by omega) slT_25 (ri_arg ha68) hb70)) rfl rfl rfl ?_
      refine TQ.op (yq (y_ldi (ev_t rfl) one_3 (ri_arg ha68) hb70)) rfl rfl rfl ?_
      refine TQ.op (yq (y_add (ev_t rfl) (ev_t rfl) (by unfold In64; omega))) rfl rfl rfl ?_
      refine TQ.op (yq (y_assign (ev_t rfl))) rfl rfl rfl ?_
      refine TQ.nil ?_
      refine TN.blockN ?_
      refine TN.seq ?_
      refine TC.region ?_
      refine TL.op (yq (y_add (ev_t rfl) ev_c (by unfold In64; omega))) rfl rfl rfl ?_
      refine TL.op (yq (y_move (ev_t rfl))) rfl rfl rfl ?_
      refine TL.nil ?_
      exact TN.hand (mf2, cost2 + ((m.getD (((a.getD k25_2 0)).toNat) []).getD (((b.getD (((((F_impl_orders (a.length : Int)).getD k19_1 []).getD k25_2 0)).toNat) 0)).toNat) 0), (k25_2 + 1)) ⟨(by first | omega | (simp [-List.getD_eq_getElem?_getD] <;> omega)), (by first | omega | (simp [-List.getD_eq_getElem?_getD] <;> omega)), (by first | omega | (simp [-List.getD_eq_getElem?_getD] <;> omega)), (by omega), hL2⟩ (Nat.lt_succ_self _) ⟨rfl, rfl, rfl, rfl, rfl, rfl, rfl, rfl, rfl, rfl, rfl, rfl, rfl, trivial⟩ (fun w hw => hw)
    · rw [bif_neg h63] at hL2
      have q64 := (of_decide_eq_false h63)
      refine TC.exit ?_
      refine TN.thenE ?_
      refine TN.thenE ?_
      rw [← hL2, elim_next] at hL1
      try dsimp only at hL1
      refine TN.blockH ?_
      refine TN.seq ?_
      refine TC.seq ?_
      refine TC.region ?_
      refine TL.op (yq (y_move (ev_t rfl))) rfl rfl rfl ?_
      refine TL.op (yq (y_move (ev_t rfl))) rfl rfl rfl ?_
      refine TL.op (yq (y_lss (ev_t rfl) (ev_t rfl))) rfl rfl rfl ?_
      refine TL.nil ?_
      refine TN.seq ?_
      refine TC.cond (b := decide (cost2 < least1)) (ev_t rfl) (fun h71 => ?_) (fun h71 => ?_)
      · rw [bif_pos h71] at hL1
        have q72 := (of_decide_eq_true h71)
        refine TC.region ?_
        refine TL.op (yq (y_move (ev_t rfl))) rfl rfl rfl ?_
        refine TL.op (yq (y_move (ev_t rfl))) rfl rfl rfl ?_
        refine TL.op (yq (y_assign (ev_t rfl))) rfl rfl rfl ?_
        refine TL.op (yq (y_assign (ev_t rfl))) rfl rfl rfl ?_
        refine TL.nil ?_
        refine TN.blockN ?_
        refine TN.seq ?_
        refine TC.region ?_
        refine TL.op (yq (y_add (ev_t rfl) ev_c (by unfold In64; omega))) rfl rfl rfl ?_
        refine TL.op (yq (y_move (ev_t rfl))) rfl rfl rfl ?_
        refine TL.nil ?_
        exact TN.hand (mf1, ((F_impl_orders (a.length : Int)).getD k19_1 []), cost2, (k19_1 + 1), (r3_2.2.getD k19_1 undef)) ⟨(by first | omega | (simp [-List.getD_eq_getElem?_getD] <;> omega)), (fun w hw => ext_row 0 rfl hb60 hw), (by omega), hL1⟩ (Nat.lt_succ_self _) ⟨rfl, rfl, rfl, rfl, rfl, rfl, rfl, rfl, trivial⟩ (fun w hw => hw)
      · rw [bif_neg h71] at hL1
        have q72 := (of_decide_eq_false h71)
        refine TC.skip ?_
        refine TN.blockN ?_
        refine TN.seq ?_
        refine TC.region ?_
        refine TL.op (yq (y_add (ev_t rfl) ev_c (by unfold In64; omega))) rfl rfl rfl ?_
        refine TL.op (yq (y_move (ev_t rfl))) rfl rfl rfl ?_
        refine TL.nil ?_
        exact TN.hand (mf1, best1, least1, (k19_1 + 1), vbest1) ⟨(by first | omega | (simp [-List.getD_eq_getElem?_getD] <;> omega)), hrbest1, (by omega), hL1⟩ (Nat.lt_succ_self _) ⟨rfl, rfl, rfl, rfl, rfl, rfl, rfl, rfl, trivial⟩ (fun w hw => hw)
  · rw [bif_neg h58] at hL1
    have q59 := (of_decide_eq_false h58)
    refine TC.exit ?_
    refine TN.thenE ?_
    refine TN.thenE ?_
    rw [← hL1, elim_next] at hF
    try dsimp only at hF
    refine TN.blockH ?_
    refine TN.seq ?_
    refine TC.seq ?_
    refine TC.region ?_
    refine TL.op (yq (y_move (ev_t rfl))) rfl rfl rfl ?_
    refine TL.op (yq (y_move (ev_t rfl))) rfl rfl rfl ?_
    refine TL.op (yq (y_assign (ev_t rfl))) rfl rfl rfl ?_
    refine TL.op (yq (y_assign (ev_t rfl))) rfl rfl rfl ?_
    refine TL.nil ?_
    refine TN.seq ?_
    refine TC.ret ?_
    subst hF
    refine TN.cls (fun w hw => hrbest1 w (Hp.sublist hw (.cons_cons _ (.cons _ .slnil)))) ?_
    exact TN.ret2 rfl (ev_t rfl) (ev_t rfl) (fun w' hw => ⟨vbest1, rfl, hw⟩)

set_option maxRecDepth 4000 in
set_option maxHeartbeats 1000000 in
theorem impl_Metric_moveCost_ok (w : World) (vm : Value) (um : List Value) (m : List (List Int)) (hm : RII w vm um m) (va : Value) (a : List Int) (ha : RI w va a) (vb : Value) (b : List Int) (hb : RI w vb b) (hp0 : Tab m) (hp1 : Cf m.length a) (hp2 : Cf m.length b) (hp3 : a.length = b.length) :
    Calls Try.prog 81 ([(.agg #[vm]), va, vb] : List Value).toArray w (Ret (.int .i64 (F_impl_Metric_moveCost m a b)) (Hp w [])) := by
  obtain ⟨rz, hF⟩ : ∃ rz, (F_impl_Metric_moveCost m a b) = rz := ⟨_, rfl⟩
  rw [hF]
  unfold F_impl_Metric_moveCost at hF
  have hlen_m := argT_len hm
  have hlen_a := arg_len ha
  have hlen_b := arg_len hb
  refine calls_tc Try.func81 rfl rfl rfl ?_
  change TC _ _ _ _ (Hp w []) [(0, (.agg #[vm])), (1, va), (2, vb)]
  refine TC.seq ?_
  refine TC.region ?_
  refine TL.box (ev_t rfl) rfl (fun g0_0 => ?_)
  refine TL.op (yq (y_assign ev_c)) rfl rfl rfl ?_
  refine TL.nil ?_
  refine TN.seq ?_
  refine TC.seq ?_
  refine TC.region ?_
  refine TL.op (yq (y_ldagg (cs := [vm]) 0 (ev_t rfl) agg_29 rfl)) rfl rfl rfl ?_
  refine TL.op (yq (y_move (ev_t rfl))) rfl rfl rfl ?_
  refine TL.op (yq (y_move (ev_t rfl))) rfl rfl rfl ?_
  refine TL.callr (ι := Value) (vs := [(.agg #[vm]), va, vb]) (fun i => (.tuple #[i, (.int .i64 ((F_impl_Metric_matched m a b).2))])) (fun i => [rowI 3 i ((F_impl_Metric_matched m a b).1)]) en_91 ⟨(ev_t rfl), (ev_t rfl), (ev_t rfl), trivial⟩ rfl (fun w hw => impl_Metric_matched_ok w vm um m ((rii_arg hm) w hw) va a ((ri_arg ha) w hw) vb b ((ri_arg hb) w hw) (by first | assumption | omega | grind) (by first | assumption | omega | grind) (by first | assumption | omega | grind) (by first | assumption | omega | grind)) (fun r1_3 => ?_)
  refine TL.op (yq (y_move (ev_t rfl))) rfl rfl rfl ?_
  refine TL.op (yq (y_extract (ev_t rfl) rfl)) rfl rfl rfl ?_
  refine TL.op (yq (y_extract (ev_t rfl) rfl)) rfl rfl rfl ?_
  refine TL.op (yq (y_assign (ev_t rfl))) rfl rfl rfl ?_
  refine TL.op (yq (y_assign (ev_t rfl))) rfl rfl rfl ?_
  refine TL.nil ?_
  refine TN.seq ?_
  refine TC.seq ?_
  refine TC.region ?_
  refine TL.op (yq (y_move (ev_t rfl))) rfl rfl rfl ?_
  refine TL.op (yq (y_assign (ev_t rfl))) rfl rfl rfl ?_
  refine TL.nil ?_
  refine TN.seq ?_
  refine TC.ret ?_
  subst hF
  exact TN.ret1 rfl (ev_t rfl) (fun w' hw => ⟨rfl, Hp.sublist hw (List.nil_sublist _)⟩)

set_option maxRecDepth 4000 in
set_option maxHeartbeats 1000000 in
theorem impl_areConfigs_ok (w : World) (vm : Value) (um : List Value) (m : List (List Int)) (hm : RII w vm um m) (va : Value) (a : List Int) (ha : RI w va a) (vb : Value) (b : List Int) (hb : RI w vb b)  :
    Calls Try.prog 80 ([(.agg #[vm]), va, vb] : List Value).toArray w (Ret (.bool (F_impl_areConfigs m a b)) (Hp w [])) := by
  obtain ⟨rz, hF⟩ : ∃ rz, (F_impl_areConfigs m a b) = rz := ⟨_, rfl⟩
  rw [hF]
  unfold F_impl_areConfigs at hF
  have hlen_m := argT_len hm
  have hlen_a := arg_len ha
  have hlen_b := arg_len hb
  refine calls_tc Try.func80 rfl rfl rfl ?_
  change TC _ _ _ _ (Hp w []) [(0, (.agg #[vm])), (1, va), (2, vb)]
  refine TC.seq ?_
  refine TC.region ?_
  refine TL.box (ev_t rfl) rfl (fun g0_0 => ?_)
  refine TL.op (yq (y_assign ev_c)) rfl rfl rfl ?_
  refine TL.nil ?_
  refine TN.seq ?_
  refine TC.seq ?_
  refine TC.region ?_
  refine TL.op (yq (y_ldagg (cs := [vm]) 0 (ev_t rfl) agg_29 rfl)) rfl rfl rfl ?_
  refine TL.op (y_call (vs := [(.agg #[vm])]) (v := (.bool (F_impl_IsMetric m))) en_55 ⟨(ev_t rfl), trivial⟩ (fun w hw => impl_IsMetric_ok w vm um m ((rii_arg hm) w hw))) rfl rfl rfl ?_
  refine TL.op (yq (y_move (ev_t rfl))) rfl rfl rfl ?_
  refine TL.opw (w_t rfl rfl rfl) (fun hg => yq (y_ldagg (cs := [vm]) 0 (ev_t rfl) agg_29 rfl)) rfl rfl ?_
  refine TL.opw (w_t rfl rfl rfl) (fun hg => yq (y_move (ev_t rfl))) rfl rfl ?_
  refine TL.opw (w_t rfl rfl rfl) (fun hg => y_call (vs := [(.agg #[vm]), va]) (v := (.bool (F_impl_Metric_isConfig m a))) en_56 ⟨(ev_g rfl hg), (ev_g rfl hg), trivial⟩ (fun w hw => impl_Metric_isConfig_ok w vm um m ((rii_arg hm) w hw) va a ((ri_arg ha) w hw))) rfl rfl ?_
  refine TL.op (yq (y_and (ev_t rfl) (fun hq => (ev_g rfl hq)))) rfl rfl rfl ?_
  refine TL.op (yq (y_move (ev_t rfl))) rfl rfl rfl ?_
  refine TL.opw (w_t rfl rfl rfl) (fun hg => yq (y_ldagg (cs := [vm]) 0 (ev_t rfl) agg_29 rfl)) rfl rfl ?_
  refine TL.opw (w_t rfl rfl rfl) (fun hg => yq (y_move (ev_t rfl))) rfl rfl ?_
  refine TL.opw (w_t rfl rfl rfl) (fun hg => y_call (vs := [(.agg #[vm]), vb]) (v := (.bool (F_impl_Metric_isConfig m b))) en_56 ⟨(ev_g rfl hg), (ev_g rfl hg), trivial⟩ (fun w hw => impl_Metric_isConfig_ok w vm um m ((rii_arg hm) w hw) vb b ((ri_arg hb) w hw))) rfl rfl ?_
  refine TL.op (yq (y_and (ev_t rfl) (fun hq => (ev_g rfl hq)))) rfl rfl rfl ?_
  refine TL.op (yq (y_move (ev_t rfl))) rfl rfl rfl ?_
  refine TL.opw (w_t rfl rfl rfl) (fun hg => yq (y_move (ev_t rfl))) rfl rfl ?_
  refine TL.opw (w_t rfl rfl rfl) (fun hg => yq (y_len (ev_g rfl hg) Try.underlying25 (fun w hw => ((ri_arg ha) w hw).ln))) rfl rfl ?_
  refine TL.opw (w_t rfl rfl rfl) (fun hg => yq (y_move (ev_t rfl))) rfl rfl ?_
  refine TL.opw (w_t rfl rfl rfl) (fun hg => yq (y_len (ev_g rfl hg) Try.underlying25 (fun w hw => ((ri_arg hb) w hw).ln))) rfl rfl ?_
  refine TL.opw (w_t rfl rfl rfl) (fun hg => yq (y_eql (ev_g rfl hg) (ev_g rfl hg))) rfl rfl ?_
  refine TL.op (yq (y_and (ev_t rfl) (fun hq => (ev_g rfl hq)))) rfl rfl rfl ?_
  refine TL.op (yq (y_assign (ev_t rfl))) rfl rfl rfl ?_
  refine TL.nil ?_
  refine TN.seq ?_
  refine TC.ret ?_
  subst hF
  exact TN.ret1 rfl (ev_t rfl) (fun w' hw => ⟨rfl, Hp.sublist hw (List.nil_sublist _)⟩)

set_option maxRecDepth 4000 in
set_option maxHeartbeats 1000000 in
theorem impl_MoveCost_ok (w : World) (vm : Value) (um : List Value) (m : List (List Int)) (hm : RII w vm um m) (va : Value) (a : List Int) (ha : RI w va a) (vb : Value) (b : List Int) (hb : RI w vb b)  :
    Calls Try.prog 38 ([(.agg #[vm]), va, vb] : List Value).toArray w (Ret (.tuple #[(.int .i64 ((F_impl_MoveCost m a b).1)), (.bool ((F_impl_MoveCost m a b).2))]) (Hp w [])) := by
  obtain ⟨rz, hF⟩ : ∃ rz, (F_impl_MoveCost m a b) = rz := ⟨_, rfl⟩
  rw [hF]
  unfold F_impl_MoveCost at hF
  have hlen_m := argT_len hm
  have hlen_a := arg_len ha
  have hlen_b := arg_len hb
  refine calls_tc Try.func38 rfl rfl rfl ?_
  change TC _ _ _ _ (Hp w []) [(0, (.agg #[vm])), (1, va), (2, vb)]
  refine TC.seq ?_
  refine TC.region ?_
  refine TL.box (ev_t rfl) rfl (fun g0_0 => ?_)
  refine TL.op (yq (y_assign ev_c)) rfl rfl rfl ?_
  refine TL.op (yq (y_assign ev_c)) rfl rfl rfl ?_
  refine TL.nil ?_
  refine TN.seq ?_
  refine TC.seq ?_
  refine TC.seq ?_
  refine TC.region ?_
  refine TL.op (yq (y_ldagg (cs := [vm]) 0 (ev_t rfl) agg_29 rfl)) rfl rfl rfl ?_
  refine TL.op (yq (y_move (ev_t rfl))) rfl rfl rfl ?_
  refine TL.op (yq (y_move (ev_t rfl))) rfl rfl rfl ?_
  refine TL.op (y_call (vs := [(.agg #[vm]), va, vb]) (v := (.bool (F_impl_areConfigs m a b))) en_80 ⟨(ev_t rfl), (ev_t rfl), (ev_t rfl), trivial⟩ (fun w hw => impl_areConfigs_ok w vm um m ((rii_arg hm) w hw) va a ((ri_arg ha) w hw) vb b ((ri_arg hb) w hw))) rfl rfl rfl ?_
  refine TL.op (yq (y_not (ev_t rfl))) rfl rfl rfl ?_
  refine TL.nil ?_
  refine TN.seq ?_
  refine TC.cond (b := !(F_impl_areConfigs m a b)) (ev_t rfl) (fun h3 => ?_) (fun h3 => ?_)
  · rw [bif_pos h3] at hF
    have q4 := (not_t h3)
    refine TC.seq ?_
    refine TC.region ?_
    refine TL.op (yq (y_assign ev_c)) rfl rfl rfl ?_
    refine TL.op (yq (y_assign ev_c)) rfl rfl rfl ?_
    refine TL.nil ?_
    refine TN.seq ?_
    refine TC.ret ?_
    refine TN.thenR ?_
    subst hF
    exact TN.ret2 rfl (ev_t rfl) (ev_t rfl) (fun w' hw => ⟨rfl, Hp.sublist hw (List.nil_sublist _)⟩)
  · rw [bif_neg h3] at hF
    have q4 := (areConfigs_t (not_f h3))
    refine TC.skip ?_
    refine TN.seq ?_
    refine TC.seq ?_
    refine TC.region ?_
    refine TL.op (yq (y_ldagg (cs := [vm]) 0 (ev_t rfl) agg_29 rfl)) rfl rfl rfl ?_
    refine TL.op (yq (y_move (ev_t rfl))) rfl rfl rfl ?_
    refine TL.op (yq (y_move (ev_t rfl))) rfl rfl rfl ?_
    refine TL.op (y_call (vs := [(.agg #[vm]), va, vb]) (v := (.int .i64 (F_impl_Metric_moveCost m a b))) en_81 ⟨(ev_t rfl), (ev_t rfl), (ev_t rfl), trivial⟩ (fun w hw => impl_Metric_moveCost_ok w vm um m ((rii_arg hm) w hw) va a ((ri_arg ha) w hw) vb b ((ri_arg hb) w hw) (by first | assumption | omega | grind) (by first | assumption | omega | grind) (by first | assumption | omega | grind) (by first | assumption | omega | grind))) rfl rfl rfl ?_
    refine TL.op (yq (y_assign (ev_t rfl))) rfl rfl rfl ?_
    refine TL.op (yq (y_assign ev_c)) rfl rfl rfl ?_
    refine TL.nil ?_
    refine TN.seq ?_
    refine TC.ret ?_
    subst hF
    exact TN.ret2 rfl (ev_t rfl) (ev_t rfl) (fun w' hw => ⟨rfl, Hp.sublist hw (List.nil_sublist _)⟩)

set_option maxRecDepth 4000 in
set_option maxHeartbeats 1000000 in
theorem impl_MatchConfigs_ok (w : World) (vm : Value) (um : List Value) (m : List (List Int)) (hm : RII w vm um m) (va : Value) (a : List Int) (ha : RI w va a) (vb : Value) (b : List Int) (hb : RI w vb b)  :
    Calls Try.prog 46 ([(.agg #[vm]), va, vb] : List Value).toArray w (fun e w' => ∃ i : Value, e = .returned (.tuple #[i, (.bool ((F_impl_MatchConfigs m a b).2))]) ∧ Hp w [rowI 3 i ((F_impl_MatchConfigs m a b).1)] w') := by
  obtain ⟨rz, hF⟩ : ∃ rz, (F_impl_MatchConfigs m a b) = rz := ⟨_, rfl⟩
  rw [hF]
  unfold F_impl_MatchConfigs at hF
  have hlen_m := argT_len hm
  have hlen_a := arg_len ha
  have hlen_b := arg_len hb
  refine calls_tc Try.func46 rfl rfl rfl ?_
  change TC _ _ _ _ (Hp w []) [(0, (.agg #[vm])), (1, va), (2, vb)]
  refine TC.seq ?_
  refine TC.region ?_
  refine TL.box (ev_t rfl) rfl (fun g0_0 => ?_)
  refine TL.op (yq (y_assign ev_c)) rfl rfl rfl ?_
  refine TL.op (yq (y_assign ev_c)) rfl rfl rfl ?_
  refine TL.nil ?_
  refine TN.seq ?_
  refine TC.seq ?_
  refine TC.seq ?_
  refine TC.region ?_
  refine TL.op (yq (y_ldagg (cs := [vm]) 0 (ev_t rfl) agg_29 rfl)) rfl rfl rfl ?_
  refine TL.op (yq (y_move (ev_t rfl))) rfl rfl rfl ?_
  refine TL.op (yq (y_move (ev_t rfl))) rfl rfl rfl ?_
  refine TL.op (y_call (vs := [(.agg #[vm]), va, vb]) (v := (.bool (F_impl_areConfigs m a b))) en_80 ⟨(ev_t rfl), (ev_t rfl), (ev_t rfl), trivial⟩ (fun w hw => impl_areConfigs_ok w vm um m ((rii_arg hm) w hw) va a ((ri_arg ha) w hw) vb b ((ri_arg hb) w hw))) rfl rfl rfl ?_
  refine TL.op (yq (y_not (ev_t rfl))) rfl rfl rfl ?_
  refine TL.nil ?_
  refine TN.seq ?_
  refine TC.cond (b := !(F_impl_areConfigs m a b)) (ev_t rfl) (fun h3 => ?_) (fun h3 => ?_)
  · rw [bif_pos h3] at hF
    have q4 := (not_t h3)
    refine TC.seq ?_
    refine TC.region ?_
    refine TL.op (yq (y_assign ev_c)) rfl rfl rfl ?_
    refine TL.op (yq (y_assign ev_c)) rfl rfl rfl ?_
    refine TL.nil ?_
    refine TN.seq ?_
    refine TC.ret ?_
    refine TN.thenR ?_
    subst hF
    refine TN.cls (fun w hw => hw.nil 3 1) ?_
    exact TN.ret2 rfl (ev_t rfl) (ev_t rfl) (fun w' hw => ⟨(.slice none 0 0), rfl, Hp.sublist hw (.cons_cons _ (.cons _ .slnil))⟩)
  · rw [bif_neg h3] at hF
    have q4 := (areConfigs_t (not_f h3))
    refine TC.skip ?_
    refine TN.seq ?_
    refine TC.seq ?_
    refine TC.region ?_
    refine TL.op (yq (y_ldagg (cs := [vm]) 0 (ev_t rfl) agg_29 rfl)) rfl rfl rfl ?_
    refine TL.op (yq (y_move (ev_t rfl))) rfl rfl rfl ?_
    refine TL.op (yq (y_move (ev_t rfl))) rfl rfl rfl ?_
    refine TL.callr (ι := Value) (vs := [(.agg #[vm]), va, vb]) (fun i => (.tuple #[i, (.int .i64 ((F_impl_Metric_matched m a b).2))])) (fun i => [rowI 3 i ((F_impl_Metric_matched m a b).1)]) en_91 ⟨(ev_t rfl), (ev_t rfl), (ev_t rfl), trivial⟩ rfl (fun w hw => impl_Metric_matched_ok w vm um m ((rii_arg hm) w hw) va a ((ri_arg ha) w hw) vb b ((ri_arg hb) w hw) (by first | assumption | omega | grind) (by first | assumption | omega | grind) (by first | assumption | omega | grind) (by first | assumption | omega | grind)) (fun r3_3 => ?_)
    refine TL.op (yq (y_move (ev_t rfl))) rfl rfl rfl ?_
    refine TL.op (yq (y_extract (ev_t rfl) rfl)) rfl rfl rfl ?_
    refine TL.op (yq (y_extract (ev_t rfl) rfl)) rfl rfl rfl ?_
    refine TL.op (yq (y_assign (ev_t rfl))) rfl rfl rfl ?_
    refine TL.op (yq (y_assign (ev_t rfl))) rfl rfl rfl ?_
    refine TL.nil ?_
    refine TN.seq ?_
    refine TC.seq ?_
    refine TC.region ?_
    refine TL.op (yq (y_move (ev_t rfl))) rfl rfl rfl ?_
    refine TL.op (yq (y_assign (ev_t rfl))) rfl rfl rfl ?_
    refine TL.op (yq (y_assign ev_c)) rfl rfl rfl ?_
    refine TL.nil ?_
    refine TN.seq ?_
    refine TC.ret ?_
    subst hF
    exact TN.ret2 rfl (ev_t rfl) (ev_t rfl) (fun w' hw => ⟨r3_3, rfl, Hp.sublist hw (.cons_cons _ (.cons _ .slnil))⟩)

set_option maxRecDepth 4000 in
set_option maxHeartbeats 1000000 in
theorem spec_l6Match_ok (w : World) (vm : Value) (um : List Value) (m : List (List Int)) (hm : RII w vm um m) (va : Value) (a : List Int) (ha : RI w va a) (vb : Value) (b : List Int) (hb : RI w vb b) (hp0 : Tab m) (hp1 : Cf m.length a) (hp2 : Cf m.length b) (hp3 : a.length = b.length) :
    Calls Try.prog 90 ([(.agg #[vm]), va, vb] : List Value).toArray w (fun e w' => ∃ i : Value, e = .returned (.tuple #[i, (.int .i64 ((F_spec_l6Match m a b).2))]) ∧ Hp w [rowI 3 i ((F_spec_l6Match m a b).1)] w') := by
  obtain ⟨rz, hF⟩ : ∃ rz, (F_spec_l6Match m a b) = rz := ⟨_, rfl⟩
  rw [hF]
  unfold F_spec_l6Match at hF
  have hn3 := hp1.n3
  have hor := perms_row a.length hp1.n1 hp1.n3
  have hlen_m := argT_len hm
  have hlen_a := arg_len ha
  have hlen_b := arg_len hb
  refine calls_tc Try.func90 rfl rfl rfl ?_
  change TC _ _ _ _ (Hp w []) [(0, (.agg #[vm])), (1, va), (2, vb)]
  refine TC.seq ?_
  refine TC.region ?_
  refine TL.box (ev_t rfl) rfl (fun g0_0 => ?_)
  refine TL.op (yq (y_assign ev_c)) rfl rfl rfl ?_
  refine TL.op (yq (y_assign ev_c)) rfl rfl rfl ?_
  refine TL.nil ?_
  refine TN.seq ?_
  refine TC.seq ?_
  refine TC.region ?_
  refine TL.op (yq (y_move (ev_t rfl))) rfl rfl rfl ?_
  refine TL.op (yq (y_len (ev_t rfl) Try.underlying25 (fun w hw => ((ri_arg ha) w hw).ln))) rfl rfl rfl ?_
  refine TL.callr (ι := Value × List Value) (vs := [(.int .i64 (a.length : Int))]) (fun i => i.1) (fun i => [tabI 25 3 i.1 i.2 (F_spec_l6Perms (a.length : Int))]) en_112 ⟨(ev_t rfl), trivial⟩ rfl (fun w hw => spec_l6Perms_ok w (a.length : Int) (by first | assumption | omega | grind)) (fun r1_2 => ?_)
  refine TL.buildI (zs := []) (qs := []) slT_25 rfl trivial rfl (by decide) rfl (fun v1_3 => ?_)
  refine TL.op (yq (y_assign (ev_t rfl))) rfl rfl rfl ?_
  refine TL.op (yq (y_assign (ev_t rfl))) rfl rfl rfl ?_
  refine TL.op (yq (y_assign ev_c)) rfl rfl rfl ?_
  refine TL.nil ?_
  refine TN.seq ?_
  refine TC.seq ?_
  refine TC.seq ?_
  refine TC.region ?_
  refine TL.op (yq (y_assign ev_c)) rfl rfl rfl ?_
  refine TL.nil ?_
  refine TN.seq ?_
  refine TC.block ?_
  obtain ⟨c61, hc62⟩ : ∃ c, F_spec_l6Match_L1 m a b ((((F_spec_l6Perms (a.length : Int)).length) - 0) + 1) (([] : List Int), (-1), 0) = c := ⟨_, rfl⟩
  rw [hc62] at hF
  refine TC.loop (ι := Nat × List Int × Int × Nat × Value) (fun (fu1, k9_1, k10_1, k11_1, vk9_1) => [(1, va), (2, vb), (3, (.pointer (some ⟨g0_0, 0, none⟩))), (8, r1_2.1), (9, vk9_1), (10, (.int .i64 k10_1)), (11, (.int .i64 (k11_1 : Int)))]) (fun (fu1, k9_1, k10_1, k11_1, vk9_1) => Hp w [rowI 3 v1_3 ([] : List Int), tabI 25 3 r1_2.1 r1_2.2 (F_spec_l6Perms (a.length : Int)), .blk g0_0 29 [vm]]) (fun (fu1, k9_1, k10_1, k11_1, vk9_1) => (k11_1 ≤ ((F_spec_l6Perms (a.length : Int)).length)) ∧ (∀ w', Hp w [rowI 3 v1_3 ([] : List Int), tabI 25 3 r1_2.1 r1_2.2 (F_spec_l6Perms (a.length : Int))] w' → Hp w [rowI 3 vk9_1 k9_1] w') ∧ ((F_spec_l6Perms (a.length : Int)).length) - k11_1 < fu1 ∧ F_spec_l6Match_L1 m a b fu1 (k9_1, k10_1, k11_1) = c61) (fun (fu1, k9_1, k10_1, k11_1, vk9_1) => fu1) ((((F_spec_l6Perms (a.length : Int)).length) - 0) + 1, ([] : List Int), -1, 0, v1_3) ⟨(by first | omega | (simp [-List.getD_eq_getElem?_getD] <;> omega)), (fun w hw => Hp.sublist hw (.cons_cons _ (.cons _ .slnil))), (by omega), hc62⟩ ⟨rfl, rfl, rfl, rfl, rfl, rfl, rfl, trivial⟩ (fun w hw => hw) ?_
  rintro ⟨fu1, k9_1, k10_1, k11_1, vk9_1⟩ hJ1
  obtain ⟨hi1_0, hrk9_1, hmu1, hL1⟩ : (k11_1 ≤ ((F_spec_l6Perms (a.length : Int)).length)) ∧ (∀ w', Hp w [rowI 3 v1_3 ([] : List Int), tabI 25 3 r1_2.1 r1_2.2 (F_spec_l6Perms (a.length : Int))] w' → Hp w [rowI 3 vk9_1 k9_1] w') ∧ ((F_spec_l6Perms (a.length : Int)).length) - k11_1 < fu1 ∧ F_spec_l6Match_L1 m a b fu1 (k9_1, k10_1, k11_1) = c61 := hJ1
  change TC _ _ _ _ (Hp w [rowI 3 v1_3 ([] : List Int), tabI 25 3 r1_2.1 r1_2.2 (F_spec_l6Perms (a.length : Int)), .blk g0_0 29 [vm]]) [(1, va), (2, vb), (3, (.pointer (some ⟨g0_0, 0, none⟩))), (8, r1_2.1), (9, vk9_1), (10, (.int .i64 k10_1)), (11, (.int .i64 (k11_1 : Int)))]
  obtain ⟨mf1, rfl⟩ : ∃ m, fu1 = m + 1 := ⟨fu1 - 1, by omega⟩
  rw [F_spec_l6Match_L1_s] at hL1
  have hoj := hor.2.2 k11_1
  refine TC.seq ?_
  refine TC.seq ?_
  refine TC.region ?_
  refine TL.op (yq (y_move (ev_t rfl))) rfl rfl rfl ?_
  refine TL.op (yq (y_move (ev_t rfl))) rfl rfl rfl ?_
  refine TL.op (yq (y_len (ev_t rfl) Try.underlying22 (fun w hw => ((fun w hw => ((rii_tab 1 rfl) w hw).1) w hw).ln))) rfl rfl rfl ?_
  refine TL.op (yq (y_lss (ev_t rfl) (ev_t rfl))) rfl rfl rfl ?_
  refine TL.nil ?_
  refine TN.seq ?_
  refine TC.cond (b := decide ((k11_1 : Int) < ((F_spec_l6Perms (a.length : Int)).length : Int))) (ev_t rfl) (fun h63 => ?_) (fun h63 => ?_)
  · rw [bif_pos h63] at hL1
    have q64 := (of_decide_eq_true h63)
    refine TC.skip ?_
    refine TN.seq ?_
    refine TC.seq ?_
    refine TC.block ?_
    refine TC.seq ?_
    refine TC.region ?_
    refine TL.op (yq (y_assign ev_c)) rfl rfl rfl ?_
    refine TL.nil ?_
    refine TN.seq ?_
    refine TC.seq ?_
    refine TC.seq ?_
    refine TC.region ?_
    refine TL.op (yq (y_assign ev_c)) rfl rfl rfl ?_
    refine TL.nil ?_
    refine TN.seq ?_
    refine TC.block ?_
    obtain ⟨c65, hc66⟩ : ∃ c, F_spec_l6Match_L2 m a b k11_1 ((a.length - 0) + 1) (0, 0) = c := ⟨_, rfl⟩
    rw [hc66] at hL1
    refine TC.loop (ι := Nat × Int × Nat) (fun (fu2, k12_2, k13_2) => [(1, va), (2, vb), (3, (.pointer (some ⟨g0_0, 0, none⟩))), (8, r1_2.1), (9, vk9_1), (10, (.int .i64 k10_1)), (11, (.int .i64 (k11_1 : Int))), (12, (.int .i64 k12_2)), (13, (.int .i64 (k13_2 : Int)))]) (fun (fu2, k12_2, k13_2) => Hp w [rowI 3 v1_3 ([] : List Int), tabI 25 3 r1_2.1 r1_2.2 (F_spec_l6Perms (a.length : Int)), .blk g0_0 29 [vm]]) (fun (fu2, k12_2, k13_2) => (k13_2 ≤ a.length) ∧ (-99 * (k13_2 : Int) ≤ k12_2) ∧ (k12_2 ≤ 99 * (k13_2 : Int)) ∧ a.length - k13_2 < fu2 ∧ F_spec_l6Match_L2 m a b k11_1 fu2 (k12_2, k13_2) = c65) (fun (fu2, k12_2, k13_2) => fu2) ((a.length - 0) + 1, 0, 0) ⟨(by first | omega | (simp [-List.getD_eq_getElem?_getD] <;> omega)), (by first | omega | (simp [-List.getD_eq_getElem?_getD] <;> omega)), (by first | omega | (simp [-List.getD_eq_getElem?_getD] <;> omega)), (by omega), hc66⟩ ⟨rfl, rfl, rfl, rfl, rfl, rfl, rfl, rfl, rfl, trivial⟩ (fun w hw => hw) ?_
    rintro ⟨fu2, k12_2, k13_2⟩ hJ2
    obtain ⟨hi2_0, hi2_1, hi2_2, hmu2, hL2⟩ : (k13_2 ≤ a.length) ∧ (-99 * (k13_2 : Int) ≤ k12_2) ∧ (k12_2 ≤ 99 * (k13_2 : Int)) ∧ a.length - k13_2 < fu2 ∧ F_spec_l6Match_L2 m a b k11_1 fu2 (k12_2, k13_2) = c65 := hJ2
    change TC _ _ _ _ (Hp w [rowI 3 v1_3 ([] : List Int), tabI 25 3 r1_2.1 r1_2.2 (F_spec_l6Perms (a.length : Int)), .blk g0_0 29 [vm]]) [(1, va), (2, vb), (3, (.pointer (some ⟨g0_0, 0, none⟩))), (8, r1_2.1), (9, vk9_1), (10, (.int .i64 k10_1)), (11, (.int .i64 (k11_1 : Int))), (12, (.int .i64 k12_2)), (13, (.int .i64 (k13_2 : Int)))]
    obtain ⟨mf2, rfl⟩ : ∃ m, fu2 = m + 1 := ⟨fu2 - 1, by omega⟩
    rw [F_spec_l6Match_L2_s] at hL2
    have hoe := hoj (by omega)
    have hoe2 := hoe.2 k13_2
    have ha1 := hp1.el k13_2
    have hb1 := hp2.el ((((F_spec_l6Perms (a.length : Int)).getD k11_1 []).getD k13_2 0).toNat)
    have hrw := hp0.rows ((a.getD k13_2 0).toNat)
    have hme := hp0.el ((a.getD k13_2 0).toNat) ((b.getD ((((F_spec_l6Perms (a.length : Int)).getD k11_1 []).getD k13_2 0).toNat) 0).toNat)
    refine TC.seq ?_
    refine TC.seq ?_
    refine TC.region ?_
    refine TL.op (yq (y_move (ev_t rfl))) rfl rfl rfl ?_
    refine TL.op (yq (y_move (ev_t rfl))) rfl rfl rfl ?_
    refine TL.op (yq (y_len (ev_t rfl) Try.underlying25 (fun w hw => ((ri_arg ha) w hw).ln))) rfl rfl rfl ?_
    refine TL.op (yq (y_lss (ev_t rfl) (ev_t rfl))) rfl rfl rfl ?_
    refine TL.nil ?_
    refine TN.seq ?_
    refine TC.cond (b := decide ((k13_2 : Int) < (a.length : Int))) (ev_t rfl) (fun h67 => ?_) (fun h67 => ?_)
    · rw [bif_pos h67] at hL2
      have q68 := (of_decide_eq_true h67)
      refine TC.skip ?_
      refine TN.seq ?_
      refine TC.seq ?_
      refine TC.block ?_
      refine TC.regionQ (by kernel_rfl) (by kernel_rfl) dr_hp ?_
      refine TQ.op (yq (y_move (ev_t rfl))) rfl rfl rfl ?_
      refine TQ.op (yq (y_fa (fa_29_0 g0_0) (ev_t rfl))) rfl rfl rfl ?_
      refine TQ.op (yq (y_ldb 2 (ev_t rfl) one_22 rfl rfl)) rfl rfl rfl ?_
      refine TQ.op (yq (y_move (ev_t rfl))) rfl rfl rfl ?_
      refine TQ.op (yq (y_move (ev_t rfl))) rfl rfl rfl ?_
      have hb69 : k13_2 < a.length := (by first | omega | (simp only [List.length_set, List.length_append, List.length_cons, List.length_nil, List.length_replicate]; omega))
      refine TQ.op (yq (y_idx (k := k13_2) (ev_t rfl) (ev_t rfl) (by omega) slT_25 (ri_arg ha) hb69)) rfl rfl rfl ?_
      refine TQ.op (yq (y_ldi (ev_t rfl) one_3 (ri_arg ha) hb69)) rfl rfl rfl ?_
      have hb70 : ((a.getD k13_2 0)).toNat < m.length := (by first | omega | (simp only [List.length_set, List.length_append, List.length_cons, List.length_nil, List.length_replicate]; omega))
      refine TQ.op (yq (y_idx (k := ((a.getD k13_2 0)).toNat) (ev_t rfl) (ev_t rfl) (by omega) slT_22 (fun w hw => ((rii_arg hm) w hw).1) hb70)) rfl rfl rfl ?_
      have ha71 := hm.row (i := ((a.getD k13_2 0)).toNat) hb70
      refine TQ.op (yq (y_ldA (ev_t rfl) one_25 (rii_arg hm) hb70)) rfl rfl rfl ?_
      refine TQ.op (yq (y_move (ev_t rfl))) rfl rfl rfl ?_
      refine TQ.op (yq (y_move (ev_t rfl))) rfl rfl rfl ?_
      refine TQ.op (yq (y_move (ev_t rfl))) rfl rfl rfl ?_
      have hb72 : k11_1 < (F_spec_l6Perms (a.length : Int)).length := (by first | omega | (simp only [List.length_set, List.length_append, List.length_cons, List.length_nil, List.length_replicate]; omega))
      refine TQ.op (yq (y_idx (k := k11_1) (ev_t rfl) (ev_t rfl) (by omega) slT_22 (fun w hw => ((rii_tab 1 rfl) w hw).1) hb72)) rfl rfl rfl ?_
      refine TQ.op (yq (y_ldT 1 (ev_t rfl) one_25 rfl hb72)) rfl rfl rfl ?_
      refine TQ.op (yq (y_move (ev_t rfl))) rfl rfl rfl ?_
      have hb73 : k13_2 < ((F_spec_l6Perms (a.length : Int)).getD k11_1 []).length := (by first | omega | (simp only [List.length_set, List.length_append, List.length_cons, List.length_nil, List.length_replicate]; omega))
      refine TQ.op (yq (y_idx (k := k13_2) (ev_t rfl) (ev_t rfl) (by omega) slT_25 (ri_tab 1 k11_1 rfl hb72) hb73)) rfl rfl rfl ?_
      refine TQ.op (yq (y_ldi (ev_t rfl) one_3 (ri_tab 1 k11_1 rfl hb72) hb73)) rfl rfl rfl ?_
      have hb74 : ((((F_spec_l6Perms (a.length : Int)).getD k11_1 []).getD k13_2 0)).toNat < b.length := (by first | omega | (simp only [List.length_set, List.length_append, List.length_cons, List.length_nil, List.length_replicate]; omega))
      refine TQ.op (yq (y_idx (k := ((((F_spec_l6Perms (a.length : Int)).getD k11_1 []).getD k13_2 0)).toNat) (ev_t rfl) (ev_t rfl) (by omega) slT_25 (ri_arg hb) hb74)) rfl rfl rfl ?_
      refine TQ.op (yq (y_ldi (ev_t rfl) one_3 (ri_arg hb) hb74)) rfl rfl rfl ?_
      have hb75 : ((b.getD (((((F_spec_l6Perms (a.length : Int)).getD k11_1 []).getD k13_2 0)).toNat) 0)).toNat < (m.getD (((a.getD k13_2 0)).toNat) []).length := (by first | omega | (simp only [List.length_set, List.length_append, List.length_cons, List.length_nil, List.length_replicate]; omega))
      refine TQ.op (yq (y_idx (k := ((b.getD (((((F_spec_l6Perms (a.length : Int)).getD k11_1 []).getD k13_2 0)).toNat) 0)).toNat) (ev_t rfl) (ev_t rfl) (by omega) slT_25 (ri_arg ha71) hb75)) rfl rfl rfl ?_
      refine TQ.op (yq (y_ldi (ev_t rfl) one_3 (ri_arg ha71) hb75)) rfl rfl rfl ?_
      refine TQ.op (yq (y_add (ev_t rfl) (ev_t rfl) (by unfold In64; omega))) rfl rfl rfl ?_
      refine TQ.op (yq (y_assign (ev_t rfl))) rfl rfl rfl ?_
      refine TQ.nil ?_
      refine TN.blockN ?_
      refine TN.seq ?_
      refine TC.region ?_
      refine TL.op (yq (y_move (ev_t rfl))) rfl rfl rfl ?_
      refine TL.op (yq (y_add (ev_t rfl) ev_c (by unfold In64; omega))) rfl rfl rfl ?_
      refine TL.op (yq (y_assign (ev_t rfl))) rfl rfl rfl ?_
      refine TL.nil ?_
      exact TN.hand (mf2, k12_2 + ((m.getD (((a.getD k13_2 0)).toNat) []).getD (((b.getD (((((F_spec_l6Perms (a.length : Int)).getD k11_1 []).getD k13_2 0)).toNat) 0)).toNat) 0), (k13_2 + 1)) ⟨(by first | omega | (simp [-List.getD_eq_getElem?_getD] <;> omega)), (by first | omega | (simp [-List.getD_eq_getElem?_getD] <;> omega)), (by first | omega | (simp [-List.getD_eq_getElem?_getD] <;> omega)), (by omega), hL2⟩ (Nat.lt_succ_self _) ⟨rfl, rfl, rfl, rfl, rfl, rfl, rfl, rfl, rfl, trivial⟩ (fun w hw => hw)
    · rw [bif_neg h67] at hL2
      have q68 := (of_decide_eq_false h67)
      refine TC.exit ?_
      refine TN.thenE ?_
      refine TN.thenE ?_
      rw [← hL2, elim_next] at hL1
      try dsimp only at hL1
      refine TN.blockH ?_
      refine TN.seq ?_
      refine TC.seq ?_
      refine TC.region ?_
      refine TL.op (yq (y_move (ev_t rfl))) rfl rfl rfl ?_
      refine TL.op (yq (y_lss (ev_t rfl) ev_c)) rfl rfl rfl ?_
      refine TL.op (yq (y_move (ev_t rfl))) rfl rfl rfl ?_
      refine TL.opw (w_f rfl rfl rfl) (fun hg => yq (y_move (ev_t rfl))) rfl rfl ?_
      refine TL.opw (w_f rfl rfl rfl) (fun hg => yq (y_move (ev_t rfl))) rfl rfl ?_
      refine TL.opw (w_f rfl rfl rfl) (fun hg => yq (y_lss (ev_g rfl hg) (ev_g rfl hg))) rfl rfl ?_
      refine TL.op (yq (y_or (ev_t rfl) (fun hq => (ev_g rfl hq)))) rfl rfl rfl ?_
      refine TL.nil ?_
      refine TN.seq ?_
      refine TC.cond (b := ((decide (k10_1 < 0)) || (decide (k12_2 < k10_1)))) (ev_t rfl) (fun h76 => ?_) (fun h76 => ?_)
      · rw [bif_pos h76] at hL1
        have q77 := ((or_t h76).imp (fun h => (of_decide_eq_true h)) (fun h => (of_decide_eq_true h)))
        refine TC.seq ?_
        refine TC.region ?_
        refine TL.op (yq (y_move (ev_t rfl))) rfl rfl rfl ?_
        refine TL.op (yq (y_move (ev_t rfl))) rfl rfl rfl ?_
        have hb78 : k11_1 < (F_spec_l6Perms (a.length : Int)).length := (by first | omega | (simp only [List.length_set, List.length_append, List.length_cons, List.length_nil, List.length_replicate]; omega))
        refine TL.op (yq (y_idx (k := k11_1) (ev_t rfl) (ev_t rfl) (by omega) slT_22 (fun w hw => ((rii_tab 1 rfl) w hw).1) hb78)) rfl rfl rfl ?_
        refine TL.op (yq (y_ldT 1 (ev_t rfl) one_25 rfl hb78)) rfl rfl rfl ?_
        refine TL.op (yq (y_assign (ev_t rfl))) rfl rfl rfl ?_
        refine TL.nil ?_
        refine TN.seq ?_
        refine TC.region ?_
        refine TL.op (yq (y_move (ev_t rfl))) rfl rfl rfl ?_
        refine TL.op (yq (y_assign (ev_t rfl))) rfl rfl rfl ?_
        refine TL.nil ?_
        refine TN.blockN ?_
        refine TN.seq ?_
        refine TC.region ?_
        refine TL.op (yq (y_move (ev_t rfl))) rfl rfl rfl ?_
        refine TL.op (yq (y_add (ev_t rfl) ev_c (by unfold In64; omega))) rfl rfl rfl ?_
        refine TL.op (yq (y_assign (ev_t rfl))) rfl rfl rfl ?_
        refine TL.nil ?_
        exact TN.hand (mf1, ((F_spec_l6Perms (a.length : Int)).getD k11_1 []), k12_2, (k11_1 + 1), (r1_2.2.getD k11_1 undef)) ⟨(by first | omega | (simp [-List.getD_eq_getElem?_getD] <;> omega)), (fun w hw => ext_row 1 rfl hb78 hw), (by omega), hL1⟩ (Nat.lt_succ_self _) ⟨rfl, rfl, rfl, rfl, rfl, rfl, rfl, trivial⟩ (fun w hw => hw)
      · rw [bif_neg h76] at hL1
        have q77 := (and_imp (or_f h76) (fun h => (of_decide_eq_false h)) (fun h => (of_decide_eq_false h)))
        refine TC.skip ?_
        refine TN.blockN ?_
        refine TN.seq ?_
        refine TC.region ?_
        refine TL.op (yq (y_move (ev_t rfl))) rfl rfl rfl ?_
        refine TL.op (yq (y_add (ev_t rfl) ev_c (by unfold In64; omega))) rfl rfl rfl ?_
        refine TL.op (yq (y_assign (ev_t rfl))) rfl rfl rfl ?_
        refine TL.nil ?_
        exact TN.hand (mf1, k9_1, k10_1, (k11_1 + 1), vk9_1) ⟨(by first | omega | (simp [-List.getD_eq_getElem?_getD] <;> omega)), hrk9_1, (by omega), hL1⟩ (Nat.lt_succ_self _) ⟨rfl, rfl, rfl, rfl, rfl, rfl, rfl, trivial⟩ (fun w hw => hw)
  · rw [bif_neg h63] at hL1
    have q64 := (of_decide_eq_false h63)
    refine TC.exit ?_
    refine TN.thenE ?_
    refine TN.thenE ?_
    rw [← hL1, elim_next] at hF
    try dsimp only at hF
    refine TN.blockH ?_
    refine TN.seq ?_
    refine TC.seq ?_
    refine TC.region ?_
    refine TL.op (yq (y_move (ev_t rfl))) rfl rfl rfl ?_
    refine TL.op (yq (y_move (ev_t rfl))) rfl rfl rfl ?_
    refine TL.op (yq (y_assign (ev_t rfl))) rfl rfl rfl ?_
    refine TL.op (yq (y_assign (ev_t rfl))) rfl rfl rfl ?_
    refine TL.nil ?_
    refine TN.seq ?_
    refine TC.ret ?_
    subst hF
    refine TN.cls (fun w hw => hrk9_1 w (Hp.sublist hw (.cons_cons _ (.cons_cons _ (.cons _ .slnil))))) ?_
    exact TN.ret2 rfl (ev_t rfl) (ev_t rfl) (fun w' hw => ⟨vk9_1, rfl, hw⟩)

set_option maxRecDepth 4000 in
set_option maxHeartbeats 1000000 in
theorem spec_l6Move_ok (w : World) (vm : Value) (um : List Value) (m : List (List Int)) (hm : RII w vm um m) (va : Value) (a : List Int) (ha : RI w va a) (vb : Value) (b : List Int) (hb : RI w vb b) (hp0 : Tab m) (hp1 : Cf m.length a) (hp2 : Cf m.length b) (hp3 : a.length = b.length) :
    Calls Try.prog 79 ([(.agg #[vm]), va, vb] : List Value).toArray w (Ret (.int .i64 (F_spec_l6Move m a b)) (Hp w [])) := by
  obtain ⟨rz, hF⟩ : ∃ rz, (F_spec_l6Move m a b) = rz := ⟨_, rfl⟩
  rw [hF]
  unfold F_spec_l6Move at hF
  have hlen_m := argT_len hm
  have hlen_a := arg_len ha
  have hlen_b := arg_len hb
  refine calls_tc Try.func79 rfl rfl rfl ?_
  change TC _ _ _ _ (Hp w []) [(0, (.agg #[vm])), (1, va), (2, vb)]
  refine TC.seq ?_
  refine TC.region ?_
  refine TL.box (ev_t rfl) rfl (fun g0_0 => ?_)
  refine TL.op (yq (y_assign ev_c)) rfl rfl rfl ?_
  refine TL.nil ?_
  refine TN.seq ?_
  refine TC.seq ?_
  refine TC.region ?_
  refine TL.op (yq (y_ldagg (cs := [vm]) 0 (ev_t rfl) agg_29 rfl)) rfl rfl rfl ?_
  refine TL.op (yq (y_move (ev_t rfl))) rfl rfl rfl ?_
  refine TL.op (yq (y_move (ev_t rfl))) rfl rfl rfl ?_
  refine TL.callr (ι := Value) (vs := [(.agg #[vm]), va, vb]) (fun i => (.tuple #[i, (.int .i64 ((F_spec_l6Match m a b).2))])) (fun i => [rowI 3 i ((F_spec_l6Match m a b).1)]) en_90 ⟨(ev_t rfl), (ev_t rfl), (ev_t rfl), trivial⟩ rfl (fun w hw => spec_l6Match_ok w vm um m ((rii_arg hm) w hw) va a ((ri_arg ha) w hw) vb b ((ri_arg hb) w hw) (by first | assumption | omega | grind) (by first | assumption | omega | grind) (by first | assumption | omega | grind) (by first | assumption | omega | grind)) (fun r1_3 => ?_)
  refine TL.op (yq (y_move (ev_t rfl))) rfl rfl rfl ?_
  refine TL.op (yq (y_extract (ev_t rfl) rfl)) rfl rfl rfl ?_
  refine TL.op (yq (y_extract (ev_t rfl) rfl)) rfl rfl rfl ?_
  refine TL.op (yq (y_assign (ev_t rfl))) rfl rfl rfl ?_
  refine TL.op (yq (y_assign (ev_t rfl))) rfl rfl rfl ?_
  refine TL.nil ?_
  refine TN.seq ?_
  refine TC.seq ?_
  refine TC.region ?_
  refine TL.op (yq (y_move (ev_t rfl))) rfl rfl rfl ?_
  refine TL.op (yq (y_assign (ev_t rfl))) rfl rfl rfl ?_
  refine TL.nil ?_
  refine TN.seq ?_
  refine TC.ret ?_
  subst hF
  exact TN.ret1 rfl (ev_t rfl) (fun w' hw => ⟨rfl, Hp.sublist hw (List.nil_sublist _)⟩)

set_option maxRecDepth 4000 in
set_option maxHeartbeats 1000000 in
theorem spec_l6Two_ok (w : World) (vm : Value) (um : List Value) (m : List (List Int)) (hm : RII w vm um m) (va : Value) (a : List Int) (ha : RI w va a) (vb : Value) (b : List Int) (hb : RI w vb b)  :
    Calls Try.prog 78 ([(.agg #[vm]), va, vb] : List Value).toArray w (Ret (.bool (F_spec_l6Two m a b)) (Hp w [])) := by
  obtain ⟨rz, hF⟩ : ∃ rz, (F_spec_l6Two m a b) = rz := ⟨_, rfl⟩
  rw [hF]
  unfold F_spec_l6Two at hF
  have hlen_m := argT_len hm
  have hlen_a := arg_len ha
  have hlen_b := arg_len hb
  refine calls_tc Try.func78 rfl rfl rfl ?_
  change TC _ _ _ _ (Hp w []) [(0, (.agg #[vm])), (1, va), (2, vb)]
  refine TC.seq ?_
  refine TC.region ?_
  refine TL.box (ev_t rfl) rfl (fun g0_0 => ?_)
  refine TL.op (yq (y_assign ev_c)) rfl rfl rfl ?_
  refine TL.nil ?_
  refine TN.seq ?_
  refine TC.seq ?_
  refine TC.region ?_
  refine TL.op (yq (y_ldagg (cs := [vm]) 0 (ev_t rfl) agg_29 rfl)) rfl rfl rfl ?_
  refine TL.op (y_call (vs := [(.agg #[vm])]) (v := (.bool (F_spec_l6Good m))) en_53 ⟨(ev_t rfl), trivial⟩ (fun w hw => spec_l6Good_ok w vm um m ((rii_arg hm) w hw))) rfl rfl rfl ?_
  refine TL.op (yq (y_move (ev_t rfl))) rfl rfl rfl ?_
  refine TL.opw (w_t rfl rfl rfl) (fun hg => yq (y_fa (fa_29_0 g0_0) (ev_t rfl))) rfl rfl ?_
  refine TL.opw (w_t rfl rfl rfl) (fun hg => yq (y_ldb 0 (ev_g rfl hg) one_22 rfl rfl)) rfl rfl ?_
  refine TL.opw (w_t rfl rfl rfl) (fun hg => yq (y_len (ev_g rfl hg) Try.underlying22 (fun w hw => ((fun w hw => ((rii_arg hm) w hw).1) w hw).ln))) rfl rfl ?_
  refine TL.opw (w_t rfl rfl rfl) (fun hg => yq (y_move (ev_t rfl))) rfl rfl ?_
  refine TL.opw (w_t rfl rfl rfl) (fun hg => y_call (vs := [(.int .i64 (m.length : Int)), va]) (v := (.bool (F_spec_l6Config (m.length : Int) a))) en_54 ⟨(ev_g rfl hg), (ev_g rfl hg), trivial⟩ (fun w hw => spec_l6Config_ok w (m.length : Int) va a ((ri_arg ha) w hw) (by first | assumption | omega | grind) (by first | assumption | omega | grind))) rfl rfl ?_
  refine TL.op (yq (y_and (ev_t rfl) (fun hq => (ev_g rfl hq)))) rfl rfl rfl ?_
  refine TL.op (yq (y_move (ev_t rfl))) rfl rfl rfl ?_
  refine TL.opw (w_t rfl rfl rfl) (fun hg => yq (y_fa (fa_29_0 g0_0) (ev_t rfl))) rfl rfl ?_
  refine TL.opw (w_t rfl rfl rfl) (fun hg => yq (y_ldb 0 (ev_g rfl hg) one_22 rfl rfl)) rfl rfl ?_
  refine TL.opw (w_t rfl rfl rfl) (fun hg => yq (y_len (ev_g rfl hg) Try.underlying22 (fun w hw => ((fun w hw => ((rii_arg hm) w hw).1) w hw).ln))) rfl rfl ?_
  refine TL.opw (w_t rfl rfl rfl) (fun hg => yq (y_move (ev_t rfl))) rfl rfl ?_
  refine TL.opw (w_t rfl rfl rfl) (fun hg => y_call (vs := [(.int .i64 (m.length : Int)), vb]) (v := (.bool (F_spec_l6Config (m.length : Int) b))) en_54 ⟨(ev_g rfl hg), (ev_g rfl hg), trivial⟩ (fun w hw => spec_l6Config_ok w (m.length : Int) vb b ((ri_arg hb) w hw) (by first | assumption | omega | grind) (by first | assumption | omega | grind))) rfl rfl ?_
  refine TL.op (yq (y_and (ev_t rfl) (fun hq => (ev_g rfl hq)))) rfl rfl rfl ?_
  refine TL.op (yq (y_move (ev_t rfl))) rfl rfl rfl ?_
  refine TL.opw (w_t rfl rfl rfl) (fun hg => yq (y_move (ev_t rfl))) rfl rfl ?_
  refine TL.opw (w_t rfl rfl rfl) (fun hg => yq (y_len (ev_g rfl hg) Try.underlying25 (fun w hw => ((ri_arg ha) w hw).ln))) rfl rfl ?_
  refine TL.opw (w_t rfl rfl rfl) (fun hg => yq (y_move (ev_t rfl))) rfl rfl ?_
  refine TL.opw (w_t rfl rfl rfl) (fun hg => yq (y_len (ev_g rfl hg) Try.underlying25 (fun w hw => ((ri_arg hb) w hw).ln))) rfl rfl ?_
  refine TL.opw (w_t rfl rfl rfl) (fun hg => yq (y_eql (ev_g rfl hg) (ev_g rfl hg))) rfl rfl ?_
  refine TL.op (yq (y_and (ev_t rfl) (fun hq => (ev_g rfl hq)))) rfl rfl rfl ?_
  refine TL.op (yq (y_assign (ev_t rfl))) rfl rfl rfl ?_
  refine TL.nil ?_
  refine TN.seq ?_
  refine TC.ret ?_
  subst hF
  exact TN.ret1 rfl (ev_t rfl) (fun w' hw => ⟨rfl, Hp.sublist hw (List.nil_sublist _)⟩)

set_option maxRecDepth 4000 in
set_option maxHeartbeats 1000000 in
theorem spec_MoveCost_ok (w : World) (vm : Value) (um : List Value) (m : List (List Int)) (hm : RII w vm um m) (va : Value) (a : List Int) (ha : RI w va a) (vb : Value) (b : List Int) (hb : RI w vb b)  :
    Calls Try.prog 37 ([(.agg #[vm]), va, vb] : List Value).toArray w (Ret (.tuple #[(.int .i64 ((F_spec_MoveCost m a b).1)), (.bool ((F_spec_MoveCost m a b).2))]) (Hp w [])) := by
  obtain ⟨rz, hF⟩ : ∃ rz, (F_spec_MoveCost m a b) = rz := ⟨_, rfl⟩
  rw [hF]
  unfold F_spec_MoveCost at hF
  have hlen_m := argT_len hm
  have hlen_a := arg_len ha
  have hlen_b := arg_len hb
  refine calls_tc Try.func37 rfl rfl rfl ?_
  change TC _ _ _ _ (Hp w []) [(0, (.agg #[vm])), (1, va), (2, vb)]
  refine TC.seq ?_
  refine TC.region ?_
  refine TL.box (ev_t rfl) rfl (fun g0_0 => ?_)
  refine TL.op (yq (y_assign ev_c)) rfl rfl rfl ?_
  refine TL.op (yq (y_assign ev_c)) rfl rfl rfl ?_
  refine TL.nil ?_
  refine TN.seq ?_
  refine TC.seq ?_
  refine TC.seq ?_
  refine TC.region ?_
  refine TL.op (yq (y_ldagg (cs := [vm]) 0 (ev_t rfl) agg_29 rfl)) rfl rfl rfl ?_
  refine TL.op (yq (y_move (ev_t rfl))) rfl rfl rfl ?_
  refine TL.op (yq (y_move (ev_t rfl))) rfl rfl rfl ?_
  refine TL.op (y_call (vs := [(.agg #[vm]), va, vb]) (v := (.bool (F_spec_l6Two m a b))) en_78 ⟨(ev_t rfl), (ev_t rfl), (ev_t rfl), trivial⟩ (fun w hw => spec_l6Two_ok w vm um m ((rii_arg hm) w hw) va a ((ri_arg ha) w hw) vb b ((ri_arg hb) w hw))) rfl rfl rfl ?_
  refine TL.op (yq (y_not (ev_t rfl))) rfl rfl rfl ?_
  refine TL.nil ?_
  refine TN.seq ?_
  refine TC.cond (b := !(F_spec_l6Two m a b)) (ev_t rfl) (fun h3 => ?_) (fun h3 => ?_)
  · rw [bif_pos h3] at hF
    have q4 := (not_t h3)
    refine TC.seq ?_
    refine TC.region ?_
    refine TL.op (yq (y_assign ev_c)) rfl rfl rfl ?_
    refine TL.op (yq (y_assign ev_c)) rfl rfl rfl ?_
    refine TL.nil ?_
    refine TN.seq ?_
    refine TC.ret ?_
    refine TN.thenR ?_
    subst hF
    exact TN.ret2 rfl (ev_t rfl) (ev_t rfl) (fun w' hw => ⟨rfl, Hp.sublist hw (List.nil_sublist _)⟩)
  · rw [bif_neg h3] at hF
    have q4 := (l6Two_t (not_f h3))
    refine TC.skip ?_
    refine TN.seq ?_
    refine TC.seq ?_
    refine TC.region ?_
    refine TL.op (yq (y_ldagg (cs := [vm]) 0 (ev_t rfl) agg_29 rfl)) rfl rfl rfl ?_
    refine TL.op (yq (y_move (ev_t rfl))) rfl rfl rfl ?_
    refine TL.op (yq (y_move (ev_t rfl))) rfl rfl rfl ?_
    refine TL.op (y_call (vs := [(.agg #[vm]), va, vb]) (v := (.int .i64 (F_spec_l6Move m a b))) en_79 ⟨(ev_t rfl), (ev_t rfl), (ev_t rfl), trivial⟩ (fun w hw => spec_l6Move_ok w vm um m ((rii_arg hm) w hw) va a ((ri_arg ha) w hw) vb b ((ri_arg hb) w hw) (by first | assumption | omega | grind) (by first | assumption | omega | grind) (by first | assumption | omega | grind) (by first | assumption | omega | grind))) rfl rfl rfl ?_
    refine TL.op (yq (y_assign (ev_t rfl))) rfl rfl rfl ?_
    refine TL.op (yq (y_assign ev_c)) rfl rfl rfl ?_
    refine TL.nil ?_
    refine TN.seq ?_
    refine TC.ret ?_
    subst hF
    exact TN.ret2 rfl (ev_t rfl) (ev_t rfl) (fun w' hw => ⟨rfl, Hp.sublist hw (List.nil_sublist _)⟩)

set_option maxRecDepth 4000 in
set_option maxHeartbeats 1000000 in
theorem spec_MatchConfigs_ok (w : World) (vm : Value) (um : List Value) (m : List (List Int)) (hm : RII w vm um m) (va : Value) (a : List Int) (ha : RI w va a) (vb : Value) (b : List Int) (hb : RI w vb b)  :
    Calls Try.prog 45 ([(.agg #[vm]), va, vb] : List Value).toArray w (fun e w' => ∃ i : Value, e = .returned (.tuple #[i, (.bool ((F_spec_MatchConfigs m a b).2))]) ∧ Hp w [rowI 3 i ((F_spec_MatchConfigs m a b).1)] w') := by
  obtain ⟨rz, hF⟩ : ∃ rz, (F_spec_MatchConfigs m a b) = rz := ⟨_, rfl⟩
  rw [hF]
  unfold F_spec_MatchConfigs at hF
  have hlen_m := argT_len hm
  have hlen_a := arg_len ha
  have hlen_b := arg_len hb
  refine calls_tc Try.func45 rfl rfl rfl ?_
  change TC _ _ _ _ (Hp w []) [(0, (.agg #[vm])), (1, va), (2, vb)]
  refine TC.seq ?_
  refine TC.region ?_
  refine TL.box (ev_t rfl) rfl (fun g0_0 => ?_)
  refine TL.op (yq (y_assign ev_c)) rfl rfl rfl ?_
  refine TL.op (yq (y_assign ev_c)) rfl rfl rfl ?_
  refine TL.nil ?_
  refine TN.seq ?_
  refine TC.seq ?_
  refine TC.seq ?_
  refine TC.region ?_
  refine TL.op (yq (y_ldagg (cs := [vm]) 0 (ev_t rfl) agg_29 rfl)) rfl rfl rfl ?_
  refine TL.op (yq (y_move (ev_t rfl))) rfl rfl rfl ?_
  refine TL.op (yq (y_move (ev_t rfl))) rfl rfl rfl ?_
  refine TL.op (y_call (vs := [(.agg #[vm]), va, vb]) (v := (.bool (F_spec_l6Two m a b))) en_78 ⟨(ev_t rfl), (ev_t rfl), (ev_t rfl), trivial⟩ (fun w hw => spec_l6Two_ok w vm um m ((rii_arg hm) w hw) va a ((ri_arg ha) w hw) vb b ((ri_arg hb) w hw))) rfl rfl rfl ?_
  refine TL.op (yq (y_not (ev_t rfl))) rfl rfl rfl ?_
  refine TL.nil ?_
  refine TN.seq ?_
  refine TC.cond (b := !(F_spec_l6Two m a b)) (ev_t rfl) (fun h3 => ?_) (fun h3 => ?_)
  · rw [bif_pos h3] at hF
    have q4 := (not_t h3)
    refine TC.seq ?_
    refine TC.region ?_
    refine TL.buildI (zs := []) (qs := []) slT_25 rfl trivial rfl (by decide) rfl (fun v2_0 => ?_)
    refine TL.op (yq (y_assign (ev_t rfl))) rfl rfl rfl ?_
    refine TL.op (yq (y_assign ev_c)) rfl rfl rfl ?_
    refine TL.nil ?_
    refine TN.seq ?_
    refine TC.ret ?_
    refine TN.thenR ?_
    subst hF
    exact TN.ret2 rfl (ev_t rfl) (ev_t rfl) (fun w' hw => ⟨v2_0, rfl, Hp.sublist hw (.cons_cons _ (.cons _ .slnil))⟩)
  · rw [bif_neg h3] at hF
    have q4 := (l6Two_t (not_f h3))
    refine TC.skip ?_
    refine TN.seq ?_
    refine TC.seq ?_
    refine TC.region ?_
    refine TL.op (yq (y_ldagg (cs := [vm]) 0 (ev_t rfl) agg_29 rfl)) rfl rfl rfl ?_
    refine TL.op (yq (y_move (ev_t rfl))) rfl rfl rfl ?_
    refine TL.op (yq (y_move (ev_t rfl))) rfl rfl rfl ?_
    refine TL.callr (ι := Value) (vs := [(.agg #[vm]), va, vb]) (fun i => (.tuple #[i, (.int .i64 ((F_spec_l6Match m a b).2))])) (fun i => [rowI 3 i ((F_spec_l6Match m a b).1)]) en_90 ⟨(ev_t rfl), (ev_t rfl), (ev_t rfl), trivial⟩ rfl (fun w hw => spec_l6Match_ok w vm um m ((rii_arg hm) w hw) va a ((ri_arg ha) w hw) vb b ((ri_arg hb) w hw) (by first | assumption | omega | grind) (by first | assumption | omega | grind) (by first | assumption | omega | grind) (by first | assumption | omega | grind)) (fun r3_3 => ?_)
    refine TL.op (yq (y_move (ev_t rfl))) rfl rfl rfl ?_
    refine TL.op (yq (y_extract (ev_t rfl) rfl)) rfl rfl rfl ?_
    refine TL.op (yq (y_extract (ev_t rfl) rfl)) rfl rfl rfl ?_
    refine TL.op (yq (y_assign (ev_t rfl))) rfl rfl rfl ?_
    refine TL.op (yq (y_assign (ev_t rfl))) rfl rfl rfl ?_
    refine TL.nil ?_
    refine TN.seq ?_
    refine TC.seq ?_
    refine TC.region ?_
    refine TL.op (yq (y_move (ev_t rfl))) rfl rfl rfl ?_
    refine TL.op (yq (y_assign (ev_t rfl))) rfl rfl rfl ?_
    refine TL.op (yq (y_assign ev_c)) rfl rfl rfl ?_
    refine TL.nil ?_
    refine TN.seq ?_
    refine TC.ret ?_
    subst hF
    exact TN.ret2 rfl (ev_t rfl) (ev_t rfl) (fun w' hw => ⟨r3_3, rfl, Hp.sublist hw (.cons_cons _ (.cons _ .slnil))⟩)

set_option maxRecDepth 4000 in
set_option maxHeartbeats 1000000 in
theorem laws_FnExactMoveCost_ok (w : World) (vm : Value) (um : List Value) (m : List (List Int)) (hm : RII w vm um m) (va : Value) (a : List Int) (ha : RI w va a) (vb : Value) (b : List Int) (hb : RI w vb b)  :
    Calls Try.prog 8 ([(.agg #[vm]), va, vb] : List Value).toArray w (Ret (.bool (F_laws_FnExactMoveCost m a b)) (Hp w [])) := by
  obtain ⟨rz, hF⟩ : ∃ rz, (F_laws_FnExactMoveCost m a b) = rz := ⟨_, rfl⟩
  rw [hF]
  unfold F_laws_FnExactMoveCost at hF
  have hta := toIntS_eq a
  have htb := toIntS_eq b
  have hlen_m := argT_len hm
  have hlen_a := arg_len ha
  have hlen_b := arg_len hb
  refine calls_tc Try.func8 rfl rfl rfl ?_
  change TC _ _ _ _ (Hp w []) [(0, (.agg #[vm])), (1, va), (2, vb)]
  refine TC.seq ?_
  refine TC.region ?_
  refine TL.box (ev_t rfl) rfl (fun g0_0 => ?_)
  refine TL.op (yq (y_assign ev_c)) rfl rfl rfl ?_
  refine TL.nil ?_
  refine TN.seq ?_
  refine TC.seq ?_
  refine TC.seq ?_
  refine TC.region ?_
  refine TL.op (yq (y_move (ev_t rfl))) rfl rfl rfl ?_
  refine TL.op (yq (y_len (ev_t rfl) Try.underlying25 (fun w hw => ((ri_arg ha) w hw).ln))) rfl rfl rfl ?_
  refine TL.op (yq (y_gtr (ev_t rfl) ev_c)) rfl rfl rfl ?_
  refine TL.nil ?_
  refine TN.seq ?_
  refine TC.cond (b := decide (1048576 < (a.length : Int))) (ev_t rfl) (fun h15 => ?_) (fun h15 => ?_)
  · rw [bif_pos h15] at hF
    have q16 := (of_decide_eq_true h15)
    refine TC.seq ?_
    refine TC.region ?_
    refine TL.op (yq (y_assign ev_c)) rfl rfl rfl ?_
    refine TL.nil ?_
    refine TN.seq ?_
    refine TC.ret ?_
    refine TN.thenR ?_
    subst hF
    exact TN.ret1 rfl (ev_t rfl) (fun w' hw => ⟨rfl, Hp.sublist hw (List.nil_sublist _)⟩)
  · rw [bif_neg h15] at hF
    have q16 := (of_decide_eq_false h15)
    refine TC.skip ?_
    refine TN.seq ?_
    refine TC.seq ?_
    refine TC.seq ?_
    refine TC.region ?_
    refine TL.op (yq (y_move (ev_t rfl))) rfl rfl rfl ?_
    refine TL.op (yq (y_len (ev_t rfl) Try.underlying25 (fun w hw => ((ri_arg hb) w hw).ln))) rfl rfl rfl ?_
    refine TL.op (yq (y_gtr (ev_t rfl) ev_c)) rfl rfl rfl ?_
    refine TL.nil ?_
    refine TN.seq ?_
    refine TC.cond (b := decide (1048576 < (b.length : Int))) (ev_t rfl) (fun h17 => ?_) (fun h17 => ?_)
    · rw [bif_pos h17] at hF
      have q18 := (of_decide_eq_true h17)
      refine TC.seq ?_
      refine TC.region ?_
      refine TL.op (yq (y_assign ev_c)) rfl rfl rfl ?_
      refine TL.nil ?_
      refine TN.seq ?_
      refine TC.ret ?_
      refine TN.thenR ?_
      subst hF
      exact TN.ret1 rfl (ev_t rfl) (fun w' hw => ⟨rfl, Hp.sublist hw (List.nil_sublist _)⟩)
    · rw [bif_neg h17] at hF
      have q18 := (of_decide_eq_false h17)
      refine TC.skip ?_
      refine TN.seq ?_
      refine TC.seq ?_
      refine TC.region ?_
      refine TL.op (yq (y_assign ev_c)) rfl rfl rfl ?_
      refine TL.nil ?_
      refine TN.seq ?_
      refine TC.seq ?_
      refine TC.region ?_
      refine TL.op (yq (y_ldagg (cs := [vm]) 0 (ev_t rfl) agg_24 rfl)) rfl rfl rfl ?_
      refine TL.op (yq (y_move (ev_t rfl))) rfl rfl rfl ?_
      refine TL.op (y_call (vs := [(.agg #[vm]), (.int .i64 1048576)]) (v := (.int .i64 (F_laws_szMetric m 1048576))) en_15 ⟨(ev_t rfl), (ev_t rfl), trivial⟩ (fun w hw => laws_szMetric_ok w vm um m ((rii_arg hm) w hw) 1048576 (by first | assumption | omega | grind) (by first | assumption | omega | grind))) rfl rfl rfl ?_
      refine TL.op (yq (y_assign (ev_t rfl))) rfl rfl rfl ?_
      refine TL.nil ?_
      refine TN.seq ?_
      refine TC.seq ?_
      refine TC.seq ?_
      refine TC.region ?_
      refine TL.op (yq (y_move (ev_t rfl))) rfl rfl rfl ?_
      refine TL.op (yq (y_lss (ev_t rfl) ev_c)) rfl rfl rfl ?_
      refine TL.nil ?_
      refine TN.seq ?_
      refine TC.cond (b := decide ((F_laws_szMetric m 1048576) < 0)) (ev_t rfl) (fun h19 => ?_) (fun h19 => ?_)
      · rw [bif_pos h19] at hF
        have q20 := (of_decide_eq_true h19)
        refine TC.seq ?_
        refine TC.region ?_
        refine TL.op (yq (y_assign ev_c)) rfl rfl rfl ?_
        refine TL.nil ?_
        refine TN.seq ?_
        refine TC.ret ?_
        refine TN.thenR ?_
        subst hF
        exact TN.ret1 rfl (ev_t rfl) (fun w' hw => ⟨rfl, Hp.sublist hw (List.nil_sublist _)⟩)
      · rw [bif_neg h19] at hF
        have q20 := (of_decide_eq_false h19)
        have hsz := szMetric_t (m := m) (left := 1048576) (by omega)
        have hsz1 : ∀ i, (m.getD i []).length ≤ 1048576 := fun i => by have := hsz.2 i; omega
        have hsz2 : m.length + total m ≤ 1048576 := by have := hsz.1; omega
        have htm := toMetric_eq m
        refine TC.skip ?_
        refine TN.seq ?_
        refine TC.seq ?_
        refine TC.region ?_
        refine TL.op (yq (y_ldagg (cs := [vm]) 0 (ev_t rfl) agg_24 rfl)) rfl rfl rfl ?_
        refine TL.callr (ι := Value × List Value) (vs := [(.agg #[vm])]) (fun i => (.agg #[i.1])) (fun i => [tabI 25 3 i.1 i.2 (F_laws_toMetric m)]) en_17 ⟨(ev_t rfl), trivial⟩ rfl (fun w hw => laws_toMetric_ok w vm um m ((rii_arg hm) w hw) (by first | assumption | omega | grind) (by first | assumption | omega | grind)) (fun r9_1 => ?_)
        refine TL.op (yq (y_move (ev_t rfl))) rfl rfl rfl ?_
        refine TL.callr (ι := Value) (vs := [va]) (fun i => i) (fun i => [rowI 3 i (F_laws_toIntS a)]) en_18 ⟨(ev_t rfl), trivial⟩ rfl (fun w hw => laws_toIntS_ok w va a ((ri_arg ha) w hw) (by first | assumption | omega | grind)) (fun r9_3 => ?_)
        refine TL.op (yq (y_move (ev_t rfl))) rfl rfl rfl ?_
        refine TL.callr (ι := Value) (vs := [vb]) (fun i => i) (fun i => [rowI 3 i (F_laws_toIntS b)]) en_18 ⟨(ev_t rfl), trivial⟩ rfl (fun w hw => laws_toIntS_ok w vb b ((ri_arg hb) w hw) (by first | assumption | omega | grind)) (fun r9_5 => ?_)
        refine TL.op (y_call (vs := [(.agg #[r9_1.1]), r9_3, r9_5]) (v := (.tuple #[(.int .i64 ((F_spec_MoveCost (F_laws_toMetric m) (F_laws_toIntS a) (F_laws_toIntS b)).1)), (.bool ((F_spec_MoveCost (F_laws_toMetric m) (F_laws_toIntS a) (F_laws_toIntS b)).2))])) en_37 ⟨(ev_t rfl), (ev_t rfl), (ev_t rfl), trivial⟩ (fun w hw => spec_MoveCost_ok w r9_1.1 r9_1.2 (F_laws_toMetric m) ((rii_tab 2 rfl) w hw) r9_3 (F_laws_toIntS a) ((ri_row 1 rfl) w hw) r9_5 (F_laws_toIntS b) ((ri_row 0 rfl) w hw))) rfl rfl rfl ?_
        refine TL.op (yq (y_move (ev_t rfl))) rfl rfl rfl ?_
        refine TL.op (yq (y_extract (ev_t rfl) rfl)) rfl rfl rfl ?_
        refine TL.op (yq (y_extract (ev_t rfl) rfl)) rfl rfl rfl ?_
        refine TL.op (yq (y_assign (ev_t rfl))) rfl rfl rfl ?_
        refine TL.op (yq (y_assign (ev_t rfl))) rfl rfl rfl ?_
        refine TL.nil ?_
        refine TN.seq ?_
        refine TC.seq ?_
        refine TC.region ?_
        refine TL.op (yq (y_ldagg (cs := [vm]) 3 (ev_t rfl) agg_24 rfl)) rfl rfl rfl ?_
        refine TL.callr (ι := Value × List Value) (vs := [(.agg #[vm])]) (fun i => (.agg #[i.1])) (fun i => [tabI 25 3 i.1 i.2 (F_laws_toMetric m)]) en_17 ⟨(ev_t rfl), trivial⟩ rfl (fun w hw => laws_toMetric_ok w vm um m ((rii_arg hm) w hw) (by first | assumption | omega | grind) (by first | assumption | omega | grind)) (fun r10_1 => ?_)
        refine TL.alloc (u := (.agg #[(.slice none 0 0)])) (by kernel_rfl) rfl (fun g10_2 => ?_)
        refine TL.storeAgg (cs := [(.slice none 0 0)]) (us := [r10_1.1]) 0 (ev_t rfl) (ev_t rfl) agg_29 rfl rfl (fun w hw => (ocs_cons (ln_one ((fun w hw => ((rii_tab 1 rfl) w hw).1) w hw).ln) ocs_nil)) ?_
        refine TL.nil ?_
        refine TN.seq ?_
        refine TC.seq ?_
        refine TC.region ?_
        refine TL.op (yq (y_move (ev_t rfl))) rfl rfl rfl ?_
        refine TL.callr (ι := Value) (vs := [va]) (fun i => i) (fun i => [rowI 3 i (F_laws_toIntS a)]) en_18 ⟨(ev_t rfl), trivial⟩ rfl (fun w hw => laws_toIntS_ok w va a ((ri_arg ha) w hw) (by first | assumption | omega | grind)) (fun r11_1 => ?_)
        refine TL.op (yq (y_assign (ev_t rfl))) rfl rfl rfl ?_
        refine TL.nil ?_
        refine TN.seq ?_
        refine TC.seq ?_
        refine TC.region ?_
        refine TL.op (yq (y_move (ev_t rfl))) rfl rfl rfl ?_
        refine TL.callr (ι := Value) (vs := [vb]) (fun i => i) (fun i => [rowI 3 i (F_laws_toIntS b)]) en_18 ⟨(ev_t rfl), trivial⟩ rfl (fun w hw => laws_toIntS_ok w vb b ((ri_arg hb) w hw) (by first | assumption | omega | grind)) (fun r12_1 => ?_)
        refine TL.op (yq (y_assign (ev_t rfl))) rfl rfl rfl ?_
        refine TL.nil ?_
        refine TN.seq ?_
        refine TC.seq ?_
        refine TC.region ?_
        refine TL.op (yq (y_ldagg (cs := [r10_1.1]) 2 (ev_t rfl) agg_29 rfl)) rfl rfl rfl ?_
        refine TL.op (yq (y_move (ev_t rfl))) rfl rfl rfl ?_
        refine TL.op (yq (y_move (ev_t rfl))) rfl rfl rfl ?_
        refine TL.op (y_call (vs := [(.agg #[r10_1.1]), r11_1, r12_1]) (v := (.tuple #[(.int .i64 ((F_impl_MoveCost (F_laws_toMetric m) (F_laws_toIntS a) (F_laws_toIntS b)).1)), (.bool ((F_impl_MoveCost (F_laws_toMetric m) (F_laws_toIntS a) (F_laws_toIntS b)).2))])) en_38 ⟨(ev_t rfl), (ev_t rfl), (ev_t rfl), trivial⟩ (fun w hw => impl_MoveCost_ok w r10_1.1 r10_1.2 (F_laws_toMetric m) ((rii_tab 3 rfl) w hw) r11_1 (F_laws_toIntS a) ((ri_row 1 rfl) w hw) r12_1 (F_laws_toIntS b) ((ri_row 0 rfl) w hw))) rfl rfl rfl ?_
        refine TL.op (yq (y_move (ev_t rfl))) rfl rfl rfl ?_
        refine TL.op (yq (y_extract (ev_t rfl) rfl)) rfl rfl rfl ?_
        refine TL.op (yq (y_extract (ev_t rfl) rfl)) rfl rfl rfl ?_
        refine TL.op (yq (y_assign (ev_t rfl))) rfl rfl rfl ?_
        refine TL.op (yq (y_assign (ev_t rfl))) rfl rfl rfl ?_
        refine TL.nil ?_
        refine TN.seq ?_
        refine TC.seq ?_
        refine TC.seq ?_
        refine TC.region ?_
        refine TL.op (yq (y_move (ev_t rfl))) rfl rfl rfl ?_
        refine TL.op (yq (y_move (ev_t rfl))) rfl rfl rfl ?_
        refine TL.op (yq (y_neq (ev_t rfl) (ev_t rfl))) rfl rfl rfl ?_
        refine TL.op (yq (y_move (ev_t rfl))) rfl rfl rfl ?_
        refine TL.opw (w_f rfl rfl rfl) (fun hg => yq (y_move (ev_t rfl))) rfl rfl ?_
        refine TL.opw (w_f rfl rfl rfl) (fun hg => yq (y_move (ev_t rfl))) rfl rfl ?_
        refine TL.opw (w_f rfl rfl rfl) (fun hg => yq (y_bneq (ev_g rfl hg) (ev_g rfl hg) Try.underlying4)) rfl rfl ?_
        refine TL.op (yq (y_or (ev_t rfl) (fun hq => (ev_g rfl hq)))) rfl rfl rfl ?_
        refine TL.nil ?_
        refine TN.seq ?_
        refine TC.cond (b := ((!decide ((F_impl_MoveCost (F_laws_toMetric m) (F_laws_toIntS a) (F_laws_toIntS b)).1 = (F_spec_MoveCost (F_laws_toMetric m) (F_laws_toIntS a) (F_laws_toIntS b)).1)) || (((F_impl_MoveCost (F_laws_toMetric m) (F_laws_toIntS a) (F_laws_toIntS b)).2) != ((F_spec_MoveCost (F_laws_toMetric m) (F_laws_toIntS a) (F_laws_toIntS b)).2)))) (ev_t rfl) (fun h21 => ?_) (fun h21 => ?_)
        · rw [bif_pos h21] at hF
          have q22 := ((or_t h21).imp (fun h => (of_decide_eq_false (not_t h))) (fun h => h))
          refine TC.seq ?_
          refine TC.region ?_
          refine TL.op (yq (y_assign ev_c)) rfl rfl rfl ?_
          refine TL.nil ?_
          refine TN.seq ?_
          refine TC.ret ?_
          refine TN.thenR ?_
          subst hF
          exact TN.ret1 rfl (ev_t rfl) (fun w' hw => ⟨rfl, Hp.sublist hw (List.nil_sublist _)⟩)
        · rw [bif_neg h21] at hF
          have q22 := (and_imp (or_f h21) (fun h => (of_decide_eq_true (not_f h))) (fun h => h))
          refine TC.skip ?_
          refine TN.seq ?_
          refine TC.seq ?_
          refine TC.seq ?_
          refine TC.regionH 5 (Hp w [rowI 3 r12_1 (F_laws_toIntS b), rowI 3 r11_1 (F_laws_toIntS a), .blk g10_2 29 [r10_1.1], tabI 25 3 r10_1.1 r10_1.2 (F_laws_toMetric m), rowI 3 r9_5 (F_laws_toIntS b), rowI 3 r9_3 (F_laws_toIntS a), tabI 25 3 r9_1.1 r9_1.2 (F_laws_toMetric m), .blk g0_0 24 [vm]]) rfl (by kernel_rfl) dr_hp (fun w hw => hw) ?_
          refine TH.take 0 rfl (by kernel_rfl) (y_ldagg (cs := [r10_1.1]) 2 (ev_t rfl) agg_29 rfl) rfl rfl rfl ?_
          refine TH.take 1 rfl (by kernel_rfl) (y_ldagg (cs := [vm]) 7 (ev_t rfl) agg_24 rfl) rfl rfl rfl ?_
          refine TH.loud 2 rfl (by kernel_rfl) ?_
          refine TL.callr (ι := Value × List Value) (vs := [(.agg #[vm])]) (fun i => (.agg #[i.1])) (fun i => [tabI 25 3 i.1 i.2 (F_laws_toMetric m)]) en_17 ⟨(ev_t rfl), trivial⟩ rfl (fun w hw => laws_toMetric_ok w vm um m ((rii_arg hm) w hw) (by first | assumption | omega | grind) (by first | assumption | omega | grind)) (fun r16_2 => ?_)
          refine TL.nil ?_
          refine TH.back (fun w hw => Hp.sublist hw (.cons _ (.cons_cons _ (.cons_cons _ (.cons_cons _ (.cons_cons _ (.cons_cons _ (.cons_cons _ (.cons_cons _ (.cons_cons _ .slnil)))))))))) ?_
          refine TH.loud 3 rfl (by kernel_rfl) ?_
          refine TL.op (y_call (vs := [(.agg #[r10_1.1]), (.agg #[r16_2.1])]) (v := (.bool (F_laws_eqMetric (F_laws_toMetric m) (F_laws_toMetric m)))) en_20 ⟨(ev_t rfl), (ev_t rfl), trivial⟩ (fun w hw => laws_eqMetric_ok w r10_1.1 r10_1.2 (F_laws_toMetric m) ((rii_tab 4 rfl) w hw) r16_2.1 r16_2.2 (F_laws_toMetric m) ((rii_tab 0 rfl) w hw))) rfl rfl rfl ?_
          refine TL.nil ?_
          refine TH.back (fun w hw => Hp.sublist hw (.cons _ (.cons_cons _ (.cons_cons _ (.cons_cons _ (.cons_cons _ (.cons_cons _ (.cons_cons _ (.cons_cons _ (.cons_cons _ .slnil)))))))))) ?_
          refine TH.take 4 rfl (by kernel_rfl) (y_not (ev_t rfl)) rfl rfl rfl ?_
          refine TH.done (by kernel_rfl) ?_
          refine TN.seq ?_
          refine TC.cond (b := !(F_laws_eqMetric (F_laws_toMetric m) (F_laws_toMetric m))) (ev_t rfl) (fun h23 => ?_) (fun h23 => ?_)
          · rw [bif_pos h23] at hF
            have q24 := (not_t h23)
            refine TC.seq ?_
            refine TC.region ?_
            refine TL.op (yq (y_assign ev_c)) rfl rfl rfl ?_
            refine TL.nil ?_
            refine TN.seq ?_
            refine TC.ret ?_
            refine TN.thenR ?_
            subst hF
            exact TN.ret1 rfl (ev_t rfl) (fun w' hw => ⟨rfl, Hp.sublist hw (List.nil_sublist _)⟩)
          · rw [bif_neg h23] at hF
            have q24 := (not_f h23)
            refine TC.skip ?_
            refine TN.seq ?_
            refine TC.seq ?_
            refine TC.seq ?_
            refine TC.region ?_
            refine TL.op (yq (y_move (ev_t rfl))) rfl rfl rfl ?_
            refine TL.op (yq (y_move (ev_t rfl))) rfl rfl rfl ?_
            refine TL.callr (ι := Value) (vs := [va]) (fun i => i) (fun i => [rowI 3 i (F_laws_toIntS a)]) en_18 ⟨(ev_t rfl), trivial⟩ rfl (fun w hw => laws_toIntS_ok w va a ((ri_arg ha) w hw) (by first | assumption | omega | grind)) (fun r18_2 => ?_)
            refine TL.op (y_call (vs := [r11_1, r18_2]) (v := (.bool (F_laws_eqIntS (F_laws_toIntS a) (F_laws_toIntS a)))) en_21 ⟨(ev_t rfl), (ev_t rfl), trivial⟩ (fun w hw => laws_eqIntS_ok w r11_1 (F_laws_toIntS a) ((ri_row 3 rfl) w hw) r18_2 (F_laws_toIntS a) ((ri_row 0 rfl) w hw))) rfl rfl rfl ?_
            refine TL.op (yq (y_not (ev_t rfl))) rfl rfl rfl ?_
            refine TL.nil ?_
            refine TN.seq ?_
            refine TC.cond (b := !(F_laws_eqIntS (F_laws_toIntS a) (F_laws_toIntS a))) (ev_t rfl) (fun h25 => ?_) (fun h25 => ?_)
            · rw [bif_pos h25] at hF
              have q26 := (not_t h25)
              refine TC.seq ?_
              refine TC.region ?_
              refine TL.op (yq (y_assign ev_c)) rfl rfl rfl ?_
              refine TL.nil ?_
              refine TN.seq ?_
              refine TC.ret ?_
              refine TN.thenR ?_
              subst hF
              exact TN.ret1 rfl (ev_t rfl) (fun w' hw => ⟨rfl, Hp.sublist hw (List.nil_sublist _)⟩)
            · rw [bif_neg h25] at hF
              have q26 := (not_f h25)
              refine TC.skip ?_
              refine TN.seq ?_
              refine TC.seq ?_
              refine TC.seq ?_
              refine TC.region ?_
              refine TL.op (yq (y_move (ev_t rfl))) rfl rfl rfl ?_
              refine TL.op (yq (y_move (ev_t rfl))) rfl rfl rfl ?_
              refine TL.callr (ι := Value) (vs := [vb]) (fun i => i) (fun i => [rowI 3 i (F_laws_toIntS b)]) en_18 ⟨(ev_t rfl), trivial⟩ rfl (fun w hw => laws_toIntS_ok w vb b ((ri_arg hb) w hw) (by first | assumption | omega | grind)) (fun r20_2 => ?_)
              refine TL.op (y_call (vs := [r12_1, r20_2]) (v := (.bool (F_laws_eqIntS (F_laws_toIntS b) (F_laws_toIntS b)))) en_21 ⟨(ev_t rfl), (ev_t rfl), trivial⟩ (fun w hw => laws_eqIntS_ok w r12_1 (F_laws_toIntS b) ((ri_row 3 rfl) w hw) r20_2 (F_laws_toIntS b) ((ri_row 0 rfl) w hw))) rfl rfl rfl ?_
              refine TL.op (yq (y_not (ev_t rfl))) rfl rfl rfl ?_
              refine TL.nil ?_
              refine TN.seq ?_
              refine TC.cond (b := !(F_laws_eqIntS (F_laws_toIntS b) (F_laws_toIntS b))) (ev_t rfl) (fun h27 => ?_) (fun h27 => ?_)
              · rw [bif_pos h27] at hF
                have q28 := (not_t h27)
                refine TC.seq ?_
                refine TC.region ?_
                refine TL.op (yq (y_assign ev_c)) rfl rfl rfl ?_
                refine TL.nil ?_
                refine TN.seq ?_
                refine TC.ret ?_
                refine TN.thenR ?_
                subst hF
                exact TN.ret1 rfl (ev_t rfl) (fun w' hw => ⟨rfl, Hp.sublist hw (List.nil_sublist _)⟩)
              · rw [bif_neg h27] at hF
                have q28 := (not_f h27)
                refine TC.skip ?_
                refine TN.seq ?_
                refine TC.seq ?_
                refine TC.region ?_
                refine TL.op (yq (y_assign ev_c)) rfl rfl rfl ?_
                refine TL.nil ?_
                refine TN.seq ?_
                refine TC.ret ?_
                subst hF
                exact TN.ret1 rfl (ev_t rfl) (fun w' hw => ⟨rfl, Hp.sublist hw (List.nil_sublist _)⟩)

set_option maxRecDepth 4000 in
set_option maxHeartbeats 1000000 in
theorem laws_FnExactMatchConfigs_ok (w : World) (vm : Value) (um : List Value) (m : List (List Int)) (hm : RII w vm um m) (va : Value) (a : List Int) (ha : RI w va a) (vb : Value) (b : List Int) (hb : RI w vb b)  :
    Calls Try.prog 11 ([(.agg #[vm]), va, vb] : List Value).toArray w (Ret (.bool (F_laws_FnExactMatchConfigs m a b)) (Hp w [])) := by
  obtain ⟨rz, hF⟩ : ∃ rz, (F_laws_FnExactMatchConfigs m a b) = rz := ⟨_, rfl⟩
  rw [hF]
  unfold F_laws_FnExactMatchConfigs at hF
  have hta := toIntS_eq a
  have htb := toIntS_eq b
  have hml := markIntS_len a
  have hcl := matchConfigs_len (F_laws_toMetric m) (F_laws_toIntS a) (F_laws_toIntS b)
  have hmk := markIntS_len (F_impl_MatchConfigs (F_laws_toMetric m) (F_laws_toIntS a) (F_laws_toIntS b)).1 1
  have hk1 := markMetric_fst (F_laws_toMetric m) 1
  have hk2 := markIntS_fst (F_laws_toIntS a) (F_laws_markMetric (F_laws_toMetric m) 1).1
  have hlen_m := argT_len hm
  have hlen_a := arg_len ha
  have hlen_b := arg_len hb
  refine calls_tc Try.func11 rfl rfl rfl ?_
  change TC _ _ _ _ (Hp w []) [(0, (.agg #[vm])), (1, va), (2, vb)]
  refine TC.seq ?_
  refine TC.region ?_
  refine TL.box (ev_t rfl) rfl (fun g0_0 => ?_)
  refine TL.op (yq (y_assign ev_c)) rfl rfl rfl ?_
  refine TL.nil ?_
  refine TN.seq ?_
  refine TC.seq ?_
  refine TC.seq ?_
  refine TC.region ?_
  refine TL.op (yq (y_move (ev_t rfl))) rfl rfl rfl ?_
  refine TL.op (yq (y_len (ev_t rfl) Try.underlying25 (fun w hw => ((ri_arg ha) w hw).ln))) rfl rfl rfl ?_
  refine TL.op (yq (y_gtr (ev_t rfl) ev_c)) rfl rfl rfl ?_
  refine TL.nil ?_
  refine TN.seq ?_
  refine TC.cond (b := decide (1048576 < (a.length : Int))) (ev_t rfl) (fun h27 => ?_) (fun h27 => ?_)
  · rw [bif_pos h27] at hF
    have q28 := (of_decide_eq_true h27)
    refine TC.seq ?_
    refine TC.region ?_
    refine TL.op (yq (y_assign ev_c)) rfl rfl rfl ?_
    refine TL.nil ?_
    refine TN.seq ?_
    refine TC.ret ?_
    refine TN.thenR ?_
    subst hF
    exact TN.ret1 rfl (ev_t rfl) (fun w' hw => ⟨rfl, Hp.sublist hw (List.nil_sublist _)⟩)
  · rw [bif_neg h27] at hF
    have q28 := (of_decide_eq_false h27)
    refine TC.skip ?_
    refine TN.seq ?_
    refine TC.seq ?_
    refine TC.seq ?_
    refine TC.region ?_
    refine TL.op (yq (y_move (ev_t rfl))) rfl rfl rfl ?_
    refine TL.op (yq (y_len (ev_t rfl) Try.underlying25 (fun w hw => ((ri_arg hb) w hw).ln))) rfl rfl rfl ?_
    refine TL.op (yq (y_gtr (ev_t rfl) ev_c)) rfl rfl rfl ?_
    refine TL.nil ?_
    refine TN.seq ?_
    refine TC.cond (b := decide (1048576 < (b.length : Int))) (ev_t rfl) (fun h29 => ?_) (fun h29 => ?_)
    · rw [bif_pos h29] at hF
      have q30 := (of_decide_eq_true h29)
      refine TC.seq ?_
      refine TC.region ?_
      refine TL.op (yq (y_assign ev_c)) rfl rfl rfl ?_
      refine TL.nil ?_
      refine TN.seq ?_
      refine TC.ret ?_
      refine TN.thenR ?_
      subst hF
      exact TN.ret1 rfl (ev_t rfl) (fun w' hw => ⟨rfl, Hp.sublist hw (List.nil_sublist _)⟩)
    · rw [bif_neg h29] at hF
      have q30 := (of_decide_eq_false h29)
      refine TC.skip ?_
      refine TN.seq ?_
      refine TC.seq ?_
      refine TC.region ?_
      refine TL.op (yq (y_assign ev_c)) rfl rfl rfl ?_
      refine TL.nil ?_
      refine TN.seq ?_
      refine TC.seq ?_
      refine TC.region ?_
      refine TL.op (yq (y_ldagg (cs := [vm]) 0 (ev_t rfl) agg_24 rfl)) rfl rfl rfl ?_
      refine TL.op (yq (y_move (ev_t rfl))) rfl rfl rfl ?_
      refine TL.op (y_call (vs := [(.agg #[vm]), (.int .i64 1048576)]) (v := (.int .i64 (F_laws_szMetric m 1048576))) en_15 ⟨(ev_t rfl), (ev_t rfl), trivial⟩ (fun w hw => laws_szMetric_ok w vm um m ((rii_arg hm) w hw) 1048576 (by first | assumption | omega | grind) (by first | assumption | omega | grind))) rfl rfl rfl ?_
      refine TL.op (yq (y_assign (ev_t rfl))) rfl rfl rfl ?_
      refine TL.nil ?_
      refine TN.seq ?_
      refine TC.seq ?_
      refine TC.seq ?_
      refine TC.region ?_
      refine TL.op (yq (y_move (ev_t rfl))) rfl rfl rfl ?_
      refine TL.op (yq (y_lss (ev_t rfl) ev_c)) rfl rfl rfl ?_
      refine TL.nil ?_
      refine TN.seq ?_
      refine TC.cond (b := decide ((F_laws_szMetric m 1048576) < 0)) (ev_t rfl) (fun h31 => ?_) (fun h31 => ?_)
      · rw [bif_pos h31] at hF
        have q32 := (of_decide_eq_true h31)
        refine TC.seq ?_
        refine TC.region ?_
        refine TL.op (yq (y_assign ev_c)) rfl rfl rfl ?_
        refine TL.nil ?_
        refine TN.seq ?_
        refine TC.ret ?_
        refine TN.thenR ?_
        subst hF
        exact TN.ret1 rfl (ev_t rfl) (fun w' hw => ⟨rfl, Hp.sublist hw (List.nil_sublist _)⟩)
      · rw [bif_neg h31] at hF
        have q32 := (of_decide_eq_false h31)
        have hsz := szMetric_t (m := m) (left := 1048576) (by omega)
        have hsz1 : ∀ i, (m.getD i []).length ≤ 1048576 := fun i => by have := hsz.2 i; omega
        have hsz2 : m.length + total m ≤ 1048576 := by have := hsz.1; omega
        have htm := toMetric_eq m
        refine TC.skip ?_
        refine TN.seq ?_
        refine TC.seq ?_
        refine TC.region ?_
        refine TL.op (yq (y_ldagg (cs := [vm]) 0 (ev_t rfl) agg_24 rfl)) rfl rfl rfl ?_
        refine TL.callr (ι := Value × List Value) (vs := [(.agg #[vm])]) (fun i => (.agg #[i.1])) (fun i => [tabI 25 3 i.1 i.2 (F_laws_toMetric m)]) en_17 ⟨(ev_t rfl), trivial⟩ rfl (fun w hw => laws_toMetric_ok w vm um m ((rii_arg hm) w hw) (by first | assumption | omega | grind) (by first | assumption | omega | grind)) (fun r9_1 => ?_)
        refine TL.op (yq (y_move (ev_t rfl))) rfl rfl rfl ?_
        refine TL.callr (ι := Value) (vs := [va]) (fun i => i) (fun i => [rowI 3 i (F_laws_toIntS a)]) en_18 ⟨(ev_t rfl), trivial⟩ rfl (fun w hw => laws_toIntS_ok w va a ((ri_arg ha) w hw) (by first | assumption | omega | grind)) (fun r9_3 => ?_)
        refine TL.op (yq (y_move (ev_t rfl))) rfl rfl rfl ?_
        refine TL.callr (ι := Value) (vs := [vb]) (fun i => i) (fun i => [rowI 3 i (F_laws_toIntS b)]) en_18 ⟨(ev_t rfl), trivial⟩ rfl (fun w hw => laws_toIntS_ok w vb b ((ri_arg hb) w hw) (by first | assumption | omega | grind)) (fun r9_5 => ?_)
        refine TL.callr (ι := Value) (vs := [(.agg #[r9_1.1]), r9_3, r9_5]) (fun i => (.tuple #[i, (.bool ((F_spec_MatchConfigs (F_laws_toMetric m) (F_laws_toIntS a) (F_laws_toIntS b)).2))])) (fun i => [rowI 3 i ((F_spec_MatchConfigs (F_laws_toMetric m) (F_laws_toIntS a) (F_laws_toIntS b)).1)]) en_45 ⟨(ev_t rfl), (ev_t rfl), (ev_t rfl), trivial⟩ rfl (fun w hw => spec_MatchConfigs_ok w r9_1.1 r9_1.2 (F_laws_toMetric m) ((rii_tab 2 rfl) w hw) r9_3 (F_laws_toIntS a) ((ri_row 1 rfl) w hw) r9_5 (F_laws_toIntS b) ((ri_row 0 rfl) w hw)) (fun r9_6 => ?_)
        refine TL.op (yq (y_move (ev_t rfl))) rfl rfl rfl ?_
        refine TL.op (yq (y_extract (ev_t rfl) rfl)) rfl rfl rfl ?_
        refine TL.op (yq (y_extract (ev_t rfl) rfl)) rfl rfl rfl ?_
        refine TL.op (yq (y_assign (ev_t rfl))) rfl rfl rfl ?_
        refine TL.op (yq (y_assign (ev_t rfl))) rfl rfl rfl ?_
        refine TL.nil ?_
        refine TN.seq ?_
        refine TC.seq ?_
        refine TC.region ?_
        refine TL.op (yq (y_ldagg (cs := [vm]) 4 (ev_t rfl) agg_24 rfl)) rfl rfl rfl ?_
        refine TL.callr (ι := Value × List Value) (vs := [(.agg #[vm])]) (fun i => (.agg #[i.1])) (fun i => [tabI 25 3 i.1 i.2 (F_laws_toMetric m)]) en_17 ⟨(ev_t rfl), trivial⟩ rfl (fun w hw => laws_toMetric_ok w vm um m ((rii_arg hm) w hw) (by first | assumption | omega | grind) (by first | assumption | omega | grind)) (fun r10_1 => ?_)
        refine TL.alloc (u := (.agg #[(.slice none 0 0)])) (by kernel_rfl) rfl (fun g10_2 => ?_)
        refine TL.storeAgg (cs := [(.slice none 0 0)]) (us := [r10_1.1]) 0 (ev_t rfl) (ev_t rfl) agg_29 rfl rfl (fun w hw => (ocs_cons (ln_one ((fun w hw => ((rii_tab 1 rfl) w hw).1) w hw).ln) ocs_nil)) ?_
        refine TL.nil ?_
        refine TN.seq ?_
        refine TC.seq ?_
        refine TC.region ?_
        refine TL.op (yq (y_move (ev_t rfl))) rfl rfl rfl ?_
        refine TL.callr (ι := Value) (vs := [va]) (fun i => i) (fun i => [rowI 3 i (F_laws_toIntS a)]) en_18 ⟨(ev_t rfl), trivial⟩ rfl (fun w hw => laws_toIntS_ok w va a ((ri_arg ha) w hw) (by first | assumption | omega | grind)) (fun r11_1 => ?_)
        refine TL.op (yq (y_assign (ev_t rfl))) rfl rfl rfl ?_
        refine TL.nil ?_
        refine TN.seq ?_
        refine TC.seq ?_
        refine TC.region ?_
        refine TL.op (yq (y_move (ev_t rfl))) rfl rfl rfl ?_
        refine TL.callr (ι := Value) (vs := [vb]) (fun i => i) (fun i => [rowI 3 i (F_laws_toIntS b)]) en_18 ⟨(ev_t rfl), trivial⟩ rfl (fun w hw => laws_toIntS_ok w vb b ((ri_arg hb) w hw) (by first | assumption | omega | grind)) (fun r12_1 => ?_)
        refine TL.op (yq (y_assign (ev_t rfl))) rfl rfl rfl ?_
        refine TL.nil ?_
        refine TN.seq ?_
        refine TC.seq ?_
        refine TC.region ?_
        refine TL.op (yq (y_ldagg (cs := [r10_1.1]) 2 (ev_t rfl) agg_29 rfl)) rfl rfl rfl ?_
        refine TL.op (yq (y_move (ev_t rfl))) rfl rfl rfl ?_
        refine TL.op (yq (y_move (ev_t rfl))) rfl rfl rfl ?_
        refine TL.callr (ι := Value) (vs := [(.agg #[r10_1.1]), r11_1, r12_1]) (fun i => (.tuple #[i, (.bool ((F_impl_MatchConfigs (F_laws_toMetric m) (F_laws_toIntS a) (F_laws_toIntS b)).2))])) (fun i => [rowI 3 i ((F_impl_MatchConfigs (F_laws_toMetric m) (F_laws_toIntS a) (F_laws_toIntS b)).1)]) en_46 ⟨(ev_t rfl), (ev_t rfl), (ev_t rfl), trivial⟩ rfl (fun w hw => impl_MatchConfigs_ok w r10_1.1 r10_1.2 (F_laws_toMetric m) ((rii_tab 3 rfl) w hw) r11_1 (F_laws_toIntS a) ((ri_row 1 rfl) w hw) r12_1 (F_laws_toIntS b) ((ri_row 0 rfl) w hw)) (fun r13_3 => ?_)
        refine TL.op (yq (y_move (ev_t rfl))) rfl rfl rfl ?_
        refine TL.op (yq (y_extract (ev_t rfl) rfl)) rfl rfl rfl ?_
        refine TL.op (yq (y_extract (ev_t rfl) rfl)) rfl rfl rfl ?_
        refine TL.op (yq (y_assign (ev_t rfl))) rfl rfl rfl ?_
        refine TL.op (yq (y_assign (ev_t rfl))) rfl rfl rfl ?_
        refine TL.nil ?_
        refine TN.seq ?_
        refine TC.seq ?_
        refine TC.seq ?_
        refine TC.region ?_
        refine TL.op (yq (y_move (ev_t rfl))) rfl rfl rfl ?_
        refine TL.op (yq (y_move (ev_t rfl))) rfl rfl rfl ?_
        refine TL.op (y_call (vs := [r13_3, r9_6]) (v := (.bool (F_laws_eqIntS ((F_impl_MatchConfigs (F_laws_toMetric m) (F_laws_toIntS a) (F_laws_toIntS b)).1) ((F_spec_MatchConfigs (F_laws_toMetric m) (F_laws_toIntS a) (F_laws_toIntS b)).1)))) en_21 ⟨(ev_t rfl), (ev_t rfl), trivial⟩ (fun w hw => laws_eqIntS_ok w r13_3 ((F_impl_MatchConfigs (F_laws_toMetric m) (F_laws_toIntS a) (F_laws_toIntS b)).1) ((ri_row 0 rfl) w hw) r9_6 ((F_spec_MatchConfigs (F_laws_toMetric m) (F_laws_toIntS a) (F_laws_toIntS b)).1) ((ri_row 5 rfl) w hw))) rfl rfl rfl ?_
        refine TL.op (yq (y_not (ev_t rfl))) rfl rfl rfl ?_
        refine TL.op (yq (y_move (ev_t rfl))) rfl rfl rfl ?_
        refine TL.opw (w_f rfl rfl rfl) (fun hg => yq (y_move (ev_t rfl))) rfl rfl ?_
        refine TL.opw (w_f rfl rfl rfl) (fun hg => yq (y_move (ev_t rfl))) rfl rfl ?_
        refine TL.opw (w_f rfl rfl rfl) (fun hg => yq (y_bneq (ev_g rfl hg) (ev_g rfl hg) Try.underlying4)) rfl rfl ?_
        refine TL.op (yq (y_or (ev_t rfl) (fun hq => (ev_g rfl hq)))) rfl rfl rfl ?_
        refine TL.nil ?_
        refine TN.seq ?_
        refine TC.cond (b := ((!(F_laws_eqIntS ((F_impl_MatchConfigs (F_laws_toMetric m) (F_laws_toIntS a) (F_laws_toIntS b)).1) ((F_spec_MatchConfigs (F_laws_toMetric m) (F_laws_toIntS a) (F_laws_toIntS b)).1))) || (((F_impl_MatchConfigs (F_laws_toMetric m) (F_laws_toIntS a) (F_laws_toIntS b)).2) != ((F_spec_MatchConfigs (F_laws_toMetric m) (F_laws_toIntS a) (F_laws_toIntS b)).2)))) (ev_t rfl) (fun h33 => ?_) (fun h33 => ?_)
        · rw [bif_pos h33] at hF
          have q34 := ((or_t h33).imp (fun h => (not_t h)) (fun h => h))
          refine TC.seq ?_
          refine TC.region ?_
          refine TL.op (yq (y_assign ev_c)) rfl rfl rfl ?_
          refine TL.nil ?_
          refine TN.seq ?_
          refine TC.ret ?_
          refine TN.thenR ?_
          subst hF
          exact TN.ret1 rfl (ev_t rfl) (fun w' hw => ⟨rfl, Hp.sublist hw (List.nil_sublist _)⟩)
        · rw [bif_neg h33] at hF
          have q34 := (and_imp (or_f h33) (fun h => (not_f h)) (fun h => h))
          refine TC.skip ?_
          refine TN.seq ?_
          refine TC.seq ?_
          refine TC.seq ?_
          refine TC.regionH 5 (Hp w [rowI 3 r13_3 ((F_impl_MatchConfigs (F_laws_toMetric m) (F_laws_toIntS a) (F_laws_toIntS b)).1), rowI 3 r12_1 (F_laws_toIntS b), rowI 3 r11_1 (F_laws_toIntS a), .blk g10_2 29 [r10_1.1], tabI 25 3 r10_1.1 r10_1.2 (F_laws_toMetric m), rowI 3 r9_6 ((F_spec_MatchConfigs (F_laws_toMetric m) (F_laws_toIntS a) (F_laws_toIntS b)).1), rowI 3 r9_5 (F_laws_toIntS b), rowI 3 r9_3 (F_laws_toIntS a), tabI 25 3 r9_1.1 r9_1.2 (F_laws_toMetric m), .blk g0_0 24 [vm]]) rfl (by kernel_rfl) dr_hp (fun w hw => hw) ?_
          refine TH.take 0 rfl (by kernel_rfl) (y_ldagg (cs := [r10_1.1]) 3 (ev_t rfl) agg_29 rfl) rfl rfl rfl ?_
          refine TH.take 1 rfl (by kernel_rfl) (y_ldagg (cs := [vm]) 9 (ev_t rfl) agg_24 rfl) rfl rfl rfl ?_
          refine TH.loud 2 rfl (by kernel_rfl) ?_
          refine TL.callr (ι := Value × List Value) (vs := [(.agg #[vm])]) (fun i => (.agg #[i.1])) (fun i => [tabI 25 3 i.1 i.2 (F_laws_toMetric m)]) en_17 ⟨(ev_t rfl), trivial⟩ rfl (fun w hw => laws_toMetric_ok w vm um m ((rii_arg hm) w hw) (by first | assumption | omega | grind) (by first | assumption | omega | grind)) (fun r16_2 => ?_)
          refine TL.nil ?_
          refine TH.back (fun w hw => Hp.sublist hw (.cons _ (.cons_cons _ (.cons_cons _ (.cons_cons _ (.cons_cons _ (.cons_cons _ (.cons_cons _ (.cons_cons _ (.cons_cons _ (.cons_cons _ (.cons_cons _ .slnil)))))))))))) ?_
          refine TH.loud 3 rfl (by kernel_rfl) ?_
          refine TL.op (y_call (vs := [(.agg #[r10_1.1]), (.agg #[r16_2.1])]) (v := (.bool (F_laws_eqMetric (F_laws_toMetric m) (F_laws_toMetric m)))) en_20 ⟨(ev_t rfl), (ev_t rfl), trivial⟩ (fun w hw => laws_eqMetric_ok w r10_1.1 r10_1.2 (F_laws_toMetric m) ((rii_tab 5 rfl) w hw) r16_2.1 r16_2.2 (F_laws_toMetric m) ((rii_tab 0 rfl) w hw))) rfl rfl rfl ?_
          refine TL.nil ?_
          refine TH.back (fun w hw => Hp.sublist hw (.cons _ (.cons_cons _ (.cons_cons _ (.cons_cons _ (.cons_cons _ (.cons_cons _ (.cons_cons _ (.cons_cons _ (.cons_cons _ (.cons_cons _ (.cons_cons _ .slnil)))))))))))) ?_
          refine TH.take 4 rfl (by kernel_rfl) (y_not (ev_t rfl)) rfl rfl rfl ?_
          refine TH.done (by kernel_rfl) ?_
          refine TN.seq ?_
          refine TC.cond (b := !(F_laws_eqMetric (F_laws_toMetric m) (F_laws_toMetric m))) (ev_t rfl) (fun h35 => ?_) (fun h35 => ?_)
          · rw [bif_pos h35] at hF
            have q36 := (not_t h35)
            refine TC.seq ?_
            refine TC.region ?_
            refine TL.op (yq (y_assign ev_c)) rfl rfl rfl ?_
            refine TL.nil ?_
            refine TN.seq ?_
            refine TC.ret ?_
            refine TN.thenR ?_
            subst hF
            exact TN.ret1 rfl (ev_t rfl) (fun w' hw => ⟨rfl, Hp.sublist hw (List.nil_sublist _)⟩)
          · rw [bif_neg h35] at hF
            have q36 := (not_f h35)
            refine TC.skip ?_
            refine TN.seq ?_
            refine TC.seq ?_
            refine TC.seq ?_
            refine TC.region ?_
            refine TL.op (yq (y_move (ev_t rfl))) rfl rfl rfl ?_
            refine TL.op (yq (y_move (ev_t rfl))) rfl rfl rfl ?_
            refine TL.callr (ι := Value) (vs := [va]) (fun i => i) (fun i => [rowI 3 i (F_laws_toIntS a)]) en_18 ⟨(ev_t rfl), trivial⟩ rfl (fun w hw => laws_toIntS_ok w va a ((ri_arg ha) w hw) (by first | assumption | omega | grind)) (fun r18_2 => ?_)
            refine TL.op (y_call (vs := [r11_1, r18_2]) (v := (.bool (F_laws_eqIntS (F_laws_toIntS a) (F_laws_toIntS a)))) en_21 ⟨(ev_t rfl), (ev_t rfl), trivial⟩ (fun w hw => laws_eqIntS_ok w r11_1 (F_laws_toIntS a) ((ri_row 4 rfl) w hw) r18_2 (F_laws_toIntS a) ((ri_row 0 rfl) w hw))) rfl rfl rfl ?_
            refine TL.op (yq (y_not (ev_t rfl))) rfl rfl rfl ?_
            refine TL.nil ?_
            refine TN.seq ?_
            refine TC.cond (b := !(F_laws_eqIntS (F_laws_toIntS a) (F_laws_toIntS a))) (ev_t rfl) (fun h37 => ?_) (fun h37 => ?_)
            · rw [bif_pos h37] at hF
              have q38 := (not_t h37)
              refine TC.seq ?_
              refine TC.region ?_
              refine TL.op (yq (y_assign ev_c)) rfl rfl rfl ?_
              refine TL.nil ?_
              refine TN.seq ?_
              refine TC.ret ?_
              refine TN.thenR ?_
              subst hF
              exact TN.ret1 rfl (ev_t rfl) (fun w' hw => ⟨rfl, Hp.sublist hw (List.nil_sublist _)⟩)
            · rw [bif_neg h37] at hF
              have q38 := (not_f h37)
              refine TC.skip ?_
              refine TN.seq ?_
              refine TC.seq ?_
              refine TC.seq ?_
              refine TC.region ?_
              refine TL.op (yq (y_move (ev_t rfl))) rfl rfl rfl ?_
              refine TL.op (yq (y_move (ev_t rfl))) rfl rfl rfl ?_
              refine TL.callr (ι := Value) (vs := [vb]) (fun i => i) (fun i => [rowI 3 i (F_laws_toIntS b)]) en_18 ⟨(ev_t rfl), trivial⟩ rfl (fun w hw => laws_toIntS_ok w vb b ((ri_arg hb) w hw) (by first | assumption | omega | grind)) (fun r20_2 => ?_)
              refine TL.op (y_call (vs := [r12_1, r20_2]) (v := (.bool (F_laws_eqIntS (F_laws_toIntS b) (F_laws_toIntS b)))) en_21 ⟨(ev_t rfl), (ev_t rfl), trivial⟩ (fun w hw => laws_eqIntS_ok w r12_1 (F_laws_toIntS b) ((ri_row 4 rfl) w hw) r20_2 (F_laws_toIntS b) ((ri_row 0 rfl) w hw))) rfl rfl rfl ?_
              refine TL.op (yq (y_not (ev_t rfl))) rfl rfl rfl ?_
              refine TL.nil ?_
              refine TN.seq ?_
              refine TC.cond (b := !(F_laws_eqIntS (F_laws_toIntS b) (F_laws_toIntS b))) (ev_t rfl) (fun h39 => ?_) (fun h39 => ?_)
              · rw [bif_pos h39] at hF
                have q40 := (not_t h39)
                refine TC.seq ?_
                refine TC.region ?_
                refine TL.op (yq (y_assign ev_c)) rfl rfl rfl ?_
                refine TL.nil ?_
                refine TN.seq ?_
                refine TC.ret ?_
                refine TN.thenR ?_
                subst hF
                exact TN.ret1 rfl (ev_t rfl) (fun w' hw => ⟨rfl, Hp.sublist hw (List.nil_sublist _)⟩)
              · rw [bif_neg h39] at hF
                have q40 := (not_f h39)
                refine TC.skip ?_
                refine TN.seq ?_
                refine TC.seq ?_
                refine TC.region ?_
                refine TL.op (yq (y_assign ev_c)) rfl rfl rfl ?_
                refine TL.nil ?_
                refine TN.seq ?_
                refine TC.seq ?_
                refine TC.region ?_
                refine TL.op (yq (y_ldagg (cs := [r10_1.1]) 6 (ev_t rfl) agg_29 rfl)) rfl rfl rfl ?_
                refine TL.op (yq (y_move (ev_t rfl))) rfl rfl rfl ?_
                refine TL.callm (ι := Unit) 7 (vs := [(.agg #[r10_1.1]), (.int .i64 1)]) (fun _ => (.int .i64 ((F_laws_markMetric (F_laws_toMetric m) 1).1))) (fun _ => tabI 25 3 r10_1.1 r10_1.2 ((F_laws_markMetric (F_laws_toMetric m) 1).2)) en_26 ⟨(ev_t rfl), (ev_t rfl), trivial⟩ rfl rfl (fun w1 fr1 hw => laws_markMetric_ok w w1 fr1 r10_1.1 r10_1.2 (F_laws_toMetric m) hw 1 (by first | assumption | omega | grind) (by first | assumption | omega | grind)) (fun _ => ?_)
                refine TL.op (yq (y_assign (ev_t rfl))) rfl rfl rfl ?_
                refine TL.nil ?_
                refine TN.seq ?_
                refine TC.seq ?_
                refine TC.region ?_
                refine TL.op (yq (y_move (ev_t rfl))) rfl rfl rfl ?_
                refine TL.op (yq (y_move (ev_t rfl))) rfl rfl rfl ?_
                refine TL.callm (ι := Unit) 5 (vs := [r11_1, (.int .i64 ((F_laws_markMetric (F_laws_toMetric m) 1).1))]) (fun _ => (.int .i64 ((F_laws_markIntS (F_laws_toIntS a) ((F_laws_markMetric (F_laws_toMetric m) 1).1)).1))) (fun _ => rowI 3 r11_1 ((F_laws_markIntS (F_laws_toIntS a) ((F_laws_markMetric (F_laws_toMetric m) 1).1)).2)) en_27 ⟨(ev_t rfl), (ev_t rfl), trivial⟩ rfl rfl (fun w1 fr1 hw => laws_markIntS_ok w w1 fr1 r11_1 (F_laws_toIntS a) hw ((F_laws_markMetric (F_laws_toMetric m) 1).1) (by first | assumption | omega | grind) (by first | assumption | omega | grind)) (fun _ => ?_)
                refine TL.op (yq (y_assign (ev_t rfl))) rfl rfl rfl ?_
                refine TL.nil ?_
                refine TN.seq ?_
                refine TC.seq ?_
                refine TC.region ?_
                refine TL.op (yq (y_move (ev_t rfl))) rfl rfl rfl ?_
                refine TL.op (yq (y_move (ev_t rfl))) rfl rfl rfl ?_
                refine TL.callm (ι := Unit) 4 (vs := [r12_1, (.int .i64 ((F_laws_markIntS (F_laws_toIntS a) ((F_laws_markMetric (F_laws_toMetric m) 1).1)).1))]) (fun _ => (.int .i64 ((F_laws_markIntS (F_laws_toIntS b) ((F_laws_markIntS (F_laws_toIntS a) ((F_laws_markMetric (F_laws_toMetric m) 1).1)).1)).1))) (fun _ => rowI 3 r12_1 ((F_laws_markIntS (F_laws_toIntS b) ((F_laws_markIntS (F_laws_toIntS a) ((F_laws_markMetric (F_laws_toMetric m) 1).1)).1)).2)) en_27 ⟨(ev_t rfl), (ev_t rfl), trivial⟩ rfl rfl (fun w1 fr1 hw => laws_markIntS_ok w w1 fr1 r12_1 (F_laws_toIntS b) hw ((F_laws_markIntS (F_laws_toIntS a) ((F_laws_markMetric (F_laws_toMetric m) 1).1)).1) (by first | assumption | omega | grind) (by first | assumption | omega | grind)) (fun _ => ?_)
                refine TL.op (yq (y_assign (ev_t rfl))) rfl rfl rfl ?_
                refine TL.nil ?_
                refine TN.seq ?_
                refine TC.seq ?_
                refine TC.seq ?_
                refine TC.region ?_
                refine TL.op (yq (y_move (ev_t rfl))) rfl rfl rfl ?_
                refine TL.op (yq (y_lss (ev_t rfl) ev_c)) rfl rfl rfl ?_
                refine TL.op (yq (y_move (ev_t rfl))) rfl rfl rfl ?_
                refine TL.opw (w_f rfl rfl rfl) (fun hg => yq (y_move (ev_t rfl))) rfl rfl ?_
                refine TL.opw (w_f rfl rfl rfl) (fun hg => yq (y_move (ev_t rfl))) rfl rfl ?_
                refine TL.opw (w_f rfl rfl rfl) (fun hg => y_call (vs := [r13_3, r9_6]) (v := (.bool (F_laws_eqIntS ((F_impl_MatchConfigs (F_laws_toMetric m) (F_laws_toIntS a) (F_laws_toIntS b)).1) ((F_spec_MatchConfigs (F_laws_toMetric m) (F_laws_toIntS a) (F_laws_toIntS b)).1)))) en_21 ⟨(ev_g rfl hg), (ev_g rfl hg), trivial⟩ (fun w hw => laws_eqIntS_ok w r13_3 ((F_impl_MatchConfigs (F_laws_toMetric m) (F_laws_toIntS a) (F_laws_toIntS b)).1) ((ri_row 3 rfl) w hw) r9_6 ((F_spec_MatchConfigs (F_laws_toMetric m) (F_laws_toIntS a) (F_laws_toIntS b)).1) ((ri_row 8 rfl) w hw))) rfl rfl ?_
                refine TL.opw (w_f rfl rfl rfl) (fun hg => yq (y_not (ev_g rfl hg))) rfl rfl ?_
                refine TL.op (yq (y_or (ev_t rfl) (fun hq => (ev_g rfl hq)))) rfl rfl rfl ?_
                refine TL.op (yq (y_move (ev_t rfl))) rfl rfl rfl ?_
                refine TL.opw (w_f rfl rfl rfl) (fun hg => yq (y_move (ev_t rfl))) rfl rfl ?_
                refine TL.opw (w_f rfl rfl rfl) (fun hg => yq (y_move (ev_t rfl))) rfl rfl ?_
                refine TL.opw (w_f rfl rfl rfl) (fun hg => yq (y_bneq (ev_g rfl hg) (ev_g rfl hg) Try.underlying4)) rfl rfl ?_
                refine TL.op (yq (y_or (ev_t rfl) (fun hq => (ev_g rfl hq)))) rfl rfl rfl ?_
                refine TL.nil ?_
                refine TN.seq ?_
                refine TC.cond (b := (((decide ((F_laws_markIntS (F_laws_toIntS b) ((F_laws_markIntS (F_laws_toIntS a) ((F_laws_markMetric (F_laws_toMetric m) 1).1)).1)).1 < 0)) || (!(F_laws_eqIntS ((F_impl_MatchConfigs (F_laws_toMetric m) (F_laws_toIntS a) (F_laws_toIntS b)).1) ((F_spec_MatchConfigs (F_laws_toMetric m) (F_laws_toIntS a) (F_laws_toIntS b)).1)))) || (((F_impl_MatchConfigs (F_laws_toMetric m) (F_laws_toIntS a) (F_laws_toIntS b)).2) != ((F_spec_MatchConfigs (F_laws_toMetric m) (F_laws_toIntS a) (F_laws_toIntS b)).2)))) (ev_t rfl) (fun h41 => ?_) (fun h41 => ?_)
                · rw [bif_pos h41] at hF
                  have q42 := ((or_t h41).imp (fun h => ((or_t h).imp (fun h => (of_decide_eq_true h)) (fun h => (not_t h)))) (fun h => h))
                  refine TC.seq ?_
                  refine TC.region ?_
                  refine TL.op (yq (y_assign ev_c)) rfl rfl rfl ?_
                  refine TL.nil ?_
                  refine TN.seq ?_
                  refine TC.ret ?_
                  refine TN.thenR ?_
                  subst hF
                  exact TN.ret1 rfl (ev_t rfl) (fun w' hw => ⟨rfl, Hp.sublist hw (List.nil_sublist _)⟩)
                · rw [bif_neg h41] at hF
                  have q42 := (and_imp (or_f h41) (fun h => (and_imp (or_f h) (fun h => (of_decide_eq_false h)) (fun h => (not_f h)))) (fun h => h))
                  refine TC.skip ?_
                  refine TN.seq ?_
                  refine TC.seq ?_
                  refine TC.region ?_
                  refine TL.op (yq (y_assign ev_c)) rfl rfl rfl ?_
                  refine TL.nil ?_
                  refine TN.seq ?_
                  refine TC.seq ?_
                  refine TC.region ?_
                  refine TL.op (yq (y_move (ev_t rfl))) rfl rfl rfl ?_
                  refine TL.op (yq (y_move (ev_t rfl))) rfl rfl rfl ?_
                  refine TL.callm (ι := Unit) 3 (vs := [r13_3, (.int .i64 1)]) (fun _ => (.int .i64 ((F_laws_markIntS ((F_impl_MatchConfigs (F_laws_toMetric m) (F_laws_toIntS a) (F_laws_toIntS b)).1) 1).1))) (fun _ => rowI 3 r13_3 ((F_laws_markIntS ((F_impl_MatchConfigs (F_laws_toMetric m) (F_laws_toIntS a) (F_laws_toIntS b)).1) 1).2)) en_27 ⟨(ev_t rfl), (ev_t rfl), trivial⟩ rfl rfl (fun w1 fr1 hw => laws_markIntS_ok w w1 fr1 r13_3 ((F_impl_MatchConfigs (F_laws_toMetric m) (F_laws_toIntS a) (F_laws_toIntS b)).1) hw 1 (by first | assumption | omega | grind) (by first | assumption | omega | grind)) (fun _ => ?_)
                  refine TL.op (yq (y_assign (ev_t rfl))) rfl rfl rfl ?_
                  refine TL.nil ?_
                  refine TN.seq ?_
                  refine TC.seq ?_
                  refine TC.region ?_
                  refine TL.op (yq (y_assign ev_c)) rfl rfl rfl ?_
                  refine TL.nil ?_
                  refine TN.seq ?_
                  refine TC.seq ?_
                  refine TC.region ?_
                  refine TL.op (yq (y_move (ev_t rfl))) rfl rfl rfl ?_
                  refine TL.op (yq (y_move (ev_t rfl))) rfl rfl rfl ?_
                  refine TL.op (y_call (vs := [r13_3, (.int .i64 1)]) (v := (.int .i64 (F_laws_heldIntS ((F_laws_markIntS ((F_impl_MatchConfigs (F_laws_toMetric m) (F_laws_toIntS a) (F_laws_toIntS b)).1) 1).2) 1))) en_28 ⟨(ev_t rfl), (ev_t rfl), trivial⟩ (fun w hw => laws_heldIntS_ok w r13_3 ((F_laws_markIntS ((F_impl_MatchConfigs (F_laws_toMetric m) (F_laws_toIntS a) (F_laws_toIntS b)).1) 1).2) ((ri_row 3 rfl) w hw) 1 (by first | assumption | omega | grind) (by first | assumption | omega | grind))) rfl rfl rfl ?_
                  refine TL.op (yq (y_assign (ev_t rfl))) rfl rfl rfl ?_
                  refine TL.nil ?_
                  refine TN.seq ?_
                  refine TC.seq ?_
                  refine TC.seq ?_
                  refine TC.region ?_
                  refine TL.op (yq (y_move (ev_t rfl))) rfl rfl rfl ?_
                  refine TL.op (yq (y_lss (ev_t rfl) ev_c)) rfl rfl rfl ?_
                  refine TL.nil ?_
                  refine TN.seq ?_
                  refine TC.cond (b := decide ((F_laws_heldIntS ((F_laws_markIntS ((F_impl_MatchConfigs (F_laws_toMetric m) (F_laws_toIntS a) (F_laws_toIntS b)).1) 1).2) 1) < 0)) (ev_t rfl) (fun h43 => ?_) (fun h43 => ?_)
                  · rw [bif_pos h43] at hF
                    have q44 := (of_decide_eq_true h43)
                    refine TC.seq ?_
                    refine TC.region ?_
                    refine TL.op (yq (y_assign ev_c)) rfl rfl rfl ?_
                    refine TL.nil ?_
                    refine TN.seq ?_
                    refine TC.ret ?_
                    refine TN.thenR ?_
                    subst hF
                    exact TN.ret1 rfl (ev_t rfl) (fun w' hw => ⟨rfl, Hp.sublist hw (List.nil_sublist _)⟩)
                  · rw [bif_neg h43] at hF
                    have q44 := (of_decide_eq_false h43)
                    refine TC.skip ?_
                    refine TN.seq ?_
                    refine TC.seq ?_
                    refine TC.seq ?_
                    refine TC.region ?_
                    refine TL.op (yq (y_move (ev_t rfl))) rfl rfl rfl ?_
                    refine TL.op (yq (y_move (ev_t rfl))) rfl rfl rfl ?_
                    refine TL.op (yq (y_neq (ev_t rfl) (ev_t rfl))) rfl rfl rfl ?_
                    refine TL.nil ?_
                    refine TN.seq ?_
                    refine TC.cond (b := !decide ((F_laws_heldIntS ((F_laws_markIntS ((F_impl_MatchConfigs (F_laws_toMetric m) (F_laws_toIntS a) (F_laws_toIntS b)).1) 1).2) 1) = (F_laws_markIntS ((F_impl_MatchConfigs (F_laws_toMetric m) (F_laws_toIntS a) (F_laws_toIntS b)).1) 1).1)) (ev_t rfl) (fun h45 => ?_) (fun h45 => ?_)
                    · rw [bif_pos h45] at hF
                      have q46 := (of_decide_eq_false (not_t h45))
                      refine TC.seq ?_
                      refine TC.region ?_
                      refine TL.op (yq (y_assign ev_c)) rfl rfl rfl ?_
                      refine TL.nil ?_
                      refine TN.seq ?_
                      refine TC.ret ?_
                      refine TN.thenR ?_
                      subst hF
                      exact TN.ret1 rfl (ev_t rfl) (fun w' hw => ⟨rfl, Hp.sublist hw (List.nil_sublist _)⟩)
                    · rw [bif_neg h45] at hF
                      have q46 := (of_decide_eq_true (not_f h45))
                      refine TC.skip ?_
                      refine TN.seq ?_
                      refine TC.seq ?_
                      refine TC.region ?_
                      refine TL.op (yq (y_ldagg (cs := [vm]) 12 (ev_t rfl) agg_24 rfl)) rfl rfl rfl ?_
                      refine TL.callr (ι := Value × List Value) (vs := [(.agg #[vm])]) (fun i => (.agg #[i.1])) (fun i => [tabI 25 3 i.1 i.2 (F_laws_toMetric m)]) en_17 ⟨(ev_t rfl), trivial⟩ rfl (fun w hw => laws_toMetric_ok w vm um m ((rii_arg hm) w hw) (by first | assumption | omega | grind) (by first | assumption | omega | grind)) (fun r36_1 => ?_)
                      refine TL.op (yq (y_move (ev_t rfl))) rfl rfl rfl ?_
                      refine TL.callr (ι := Value) (vs := [va]) (fun i => i) (fun i => [rowI 3 i (F_laws_toIntS a)]) en_18 ⟨(ev_t rfl), trivial⟩ rfl (fun w hw => laws_toIntS_ok w va a ((ri_arg ha) w hw) (by first | assumption | omega | grind)) (fun r36_3 => ?_)
                      refine TL.op (yq (y_move (ev_t rfl))) rfl rfl rfl ?_
                      refine TL.callr (ι := Value) (vs := [vb]) (fun i => i) (fun i => [rowI 3 i (F_laws_toIntS b)]) en_18 ⟨(ev_t rfl), trivial⟩ rfl (fun w hw => laws_toIntS_ok w vb b ((ri_arg hb) w hw) (by first | assumption | omega | grind)) (fun r36_5 => ?_)
                      refine TL.callr (ι := Value) (vs := [(.agg #[r36_1.1]), r36_3, r36_5]) (fun i => (.tuple #[i, (.bool ((F_impl_MatchConfigs (F_laws_toMetric m) (F_laws_toIntS a) (F_laws_toIntS b)).2))])) (fun i => [rowI 3 i ((F_impl_MatchConfigs (F_laws_toMetric m) (F_laws_toIntS a) (F_laws_toIntS b)).1)]) en_46 ⟨(ev_t rfl), (ev_t rfl), (ev_t rfl), trivial⟩ rfl (fun w hw => impl_MatchConfigs_ok w r36_1.1 r36_1.2 (F_laws_toMetric m) ((rii_tab 2 rfl) w hw) r36_3 (F_laws_toIntS a) ((ri_row 1 rfl) w hw) r36_5 (F_laws_toIntS b) ((ri_row 0 rfl) w hw)) (fun r36_6 => ?_)
                      refine TL.op (yq (y_move (ev_t rfl))) rfl rfl rfl ?_
                      refine TL.op (yq (y_extract (ev_t rfl) rfl)) rfl rfl rfl ?_
                      refine TL.op (yq (y_extract (ev_t rfl) rfl)) rfl rfl rfl ?_
                      refine TL.op (yq (y_assign (ev_t rfl))) rfl rfl rfl ?_
                      refine TL.op (yq (y_assign (ev_t rfl))) rfl rfl rfl ?_
                      refine TL.nil ?_
                      refine TN.seq ?_
                      refine TC.seq ?_
                      refine TC.seq ?_
                      refine TC.region ?_
                      refine TL.op (yq (y_move (ev_t rfl))) rfl rfl rfl ?_
                      refine TL.op (yq (y_move (ev_t rfl))) rfl rfl rfl ?_
                      refine TL.op (y_call (vs := [r36_6, r9_6]) (v := (.bool (F_laws_eqIntS ((F_impl_MatchConfigs (F_laws_toMetric m) (F_laws_toIntS a) (F_laws_toIntS b)).1) ((F_spec_MatchConfigs (F_laws_toMetric m) (F_laws_toIntS a) (F_laws_toIntS b)).1)))) en_21 ⟨(ev_t rfl), (ev_t rfl), trivial⟩ (fun w hw => laws_eqIntS_ok w r36_6 ((F_impl_MatchConfigs (F_laws_toMetric m) (F_laws_toIntS a) (F_laws_toIntS b)).1) ((ri_row 0 rfl) w hw) r9_6 ((F_spec_MatchConfigs (F_laws_toMetric m) (F_laws_toIntS a) (F_laws_toIntS b)).1) ((ri_row 12 rfl) w hw))) rfl rfl rfl ?_
                      refine TL.op (yq (y_not (ev_t rfl))) rfl rfl rfl ?_
                      refine TL.op (yq (y_move (ev_t rfl))) rfl rfl rfl ?_
                      refine TL.opw (w_f rfl rfl rfl) (fun hg => yq (y_move (ev_t rfl))) rfl rfl ?_
                      refine TL.opw (w_f rfl rfl rfl) (fun hg => yq (y_move (ev_t rfl))) rfl rfl ?_
                      refine TL.opw (w_f rfl rfl rfl) (fun hg => yq (y_bneq (ev_g rfl hg) (ev_g rfl hg) Try.underlying4)) rfl rfl ?_
                      refine TL.op (yq (y_or (ev_t rfl) (fun hq => (ev_g rfl hq)))) rfl rfl rfl ?_
                      refine TL.nil ?_
                      refine TN.seq ?_
                      refine TC.condF (ev_t rfl) h33 ?_
                      refine TC.skip ?_
                      refine TN.seq ?_
                      refine TC.seq ?_
                      refine TC.region ?_
                      refine TL.op (yq (y_assign ev_c)) rfl rfl rfl ?_
                      refine TL.nil ?_
                      refine TN.seq ?_
                      refine TC.seq ?_
                      refine TC.region ?_
                      refine TL.op (yq (y_move (ev_t rfl))) rfl rfl rfl ?_
                      refine TL.op (yq (y_move (ev_t rfl))) rfl rfl rfl ?_
                      refine TL.op (y_call (vs := [r13_3, (.int .i64 1)]) (v := (.int .i64 (F_laws_heldIntS ((F_laws_markIntS ((F_impl_MatchConfigs (F_laws_toMetric m) (F_laws_toIntS a) (F_laws_toIntS b)).1) 1).2) 1))) en_28 ⟨(ev_t rfl), (ev_t rfl), trivial⟩ (fun w hw => laws_heldIntS_ok w r13_3 ((F_laws_markIntS ((F_impl_MatchConfigs (F_laws_toMetric m) (F_laws_toIntS a) (F_laws_toIntS b)).1) 1).2) ((ri_row 7 rfl) w hw) 1 (by first | assumption | omega | grind) (by first | assumption | omega | grind))) rfl rfl rfl ?_
                      refine TL.op (yq (y_assign (ev_t rfl))) rfl rfl rfl ?_
                      refine TL.nil ?_
                      refine TN.seq ?_
                      refine TC.seq ?_
                      refine TC.seq ?_
                      refine TC.region ?_
                      refine TL.op (yq (y_move (ev_t rfl))) rfl rfl rfl ?_
                      refine TL.op (yq (y_lss (ev_t rfl) ev_c)) rfl rfl rfl ?_
                      refine TL.nil ?_
                      refine TN.seq ?_
                      refine TC.condF (ev_t rfl) h43 ?_
                      refine TC.skip ?_
                      refine TN.seq ?_
                      refine TC.seq ?_
                      refine TC.seq ?_
                      refine TC.region ?_
                      refine TL.op (yq (y_move (ev_t rfl))) rfl rfl rfl ?_
                      refine TL.op (yq (y_move (ev_t rfl))) rfl rfl rfl ?_
                      refine TL.op (yq (y_neq (ev_t rfl) (ev_t rfl))) rfl rfl rfl ?_
                      refine TL.nil ?_
                      refine TN.seq ?_
                      refine TC.condF (ev_t rfl) h45 ?_
                      refine TC.skip ?_
                      refine TN.seq ?_
                      refine TC.seq ?_
                      refine TC.region ?_
                      refine TL.op (yq (y_assign ev_c)) rfl rfl rfl ?_
                      refine TL.nil ?_
                      refine TN.seq ?_
                      refine TC.ret ?_
                      subst hF
                      exact TN.ret1 rfl (ev_t rfl) (fun w' hw => ⟨rfl, Hp.sublist hw (List.nil_sublist _)⟩)


end Go.Proofs.Ytcfjjnajeccbhaa
