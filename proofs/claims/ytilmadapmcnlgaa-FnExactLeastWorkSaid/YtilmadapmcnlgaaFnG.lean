/-
  Walks of functions of the program: each computes its plain function. No condition but the bounds that are typed.
-/
import Derived.Test.YtilmadapmcnlgaaFnF
import Derived.Test.YtilmadapmcnlgaaDefG
import Derived.Test.YtilmadapmcnlgaaLawMatch
namespace Go.Proofs.Ytilmadapmcnlgaa
open Go Go.RowKit

set_option maxRecDepth 4000 in
set_option maxHeartbeats 1000000 in
theorem slices_Index_Sint_int_ok (w : World) (vs : Value) (s : List Int) (hs : RI w vs s) (v : Int)  :
    Calls Try.prog 121 ([vs, (.int .i64 v)] : List Value).toArray w (Ret (.int .i64 (F_slices_Index_Sint_int s v)) (Hp w [])) := by
  obtain ⟨rz, hF⟩ : ∃ rz, (F_slices_Index_Sint_int s v) = rz := ⟨_, rfl⟩
  rw [hF]
  unfold F_slices_Index_Sint_int at hF
  have hlen_s := arg_len hs
  refine calls_tc Try.func121 rfl rfl rfl ?_
  change TC _ _ _ _ (Hp w []) [(0, vs), (1, (.int .i64 v))]
  refine TC.seq ?_
  refine TC.region ?_
  refine TL.op (yq (y_assign ev_c)) rfl rfl rfl ?_
  refine TL.nil ?_
  refine TN.seq ?_
  refine TC.seq ?_
  refine TC.seq ?_
  refine TC.region ?_
  refine TL.op (yq (y_move (ev_t rfl))) rfl rfl rfl ?_
  refine TL.op (yq (y_len (ev_t rfl) Try.underlying25 (fun w hw => ((ri_arg hs) w hw).ln))) rfl rfl rfl ?_
  refine TL.op (yq (y_move ev_c)) rfl rfl rfl ?_
  refine TL.nil ?_
  refine TN.seq ?_
  refine TC.block ?_
  obtain ⟨c11, hc12⟩ : ∃ c, F_slices_Index_Sint_int_L1 s v ((s.length - 0) + 1) 0 = c := ⟨_, rfl⟩
  rw [hc12] at hF
  refine TC.loop (ι := Nat × Nat) (fun (fu1, k8_1) => [(0, vs), (1, (.int .i64 v)), (7, (.int .i64 (s.length : Int))), (8, (.int .i64 (k8_1 : Int)))]) (fun (fu1, k8_1) => Hp w []) (fun (fu1, k8_1) => (k8_1 ≤ s.length) ∧ s.length - k8_1 < fu1 ∧ F_slices_Index_Sint_int_L1 s v fu1 k8_1 = c11) (fun (fu1, k8_1) => fu1) ((s.length - 0) + 1, 0) ⟨(by first | omega | (simp [-List.getD_eq_getElem?_getD] <;> omega)), (by omega), hc12⟩ ⟨rfl, rfl, rfl, rfl, trivial⟩ (fun w hw => hw) ?_
  rintro ⟨fu1, k8_1⟩ hJ1
  obtain ⟨hi1_0, hmu1, hL1⟩ : (k8_1 ≤ s.length) ∧ s.length - k8_1 < fu1 ∧ F_slices_Index_Sint_int_L1 s v fu1 k8_1 = c11 := hJ1
  change TC _ _ _ _ (Hp w []) [(0, vs), (1, (.int .i64 v)), (7, (.int .i64 (s.length : Int))), (8, (.int .i64 (k8_1 : Int)))]
  obtain ⟨mf1, rfl⟩ : ∃ m, fu1 = m + 1 := ⟨fu1 - 1, by omega⟩
  rw [F_slices_Index_Sint_int_L1_s] at hL1
  refine TC.seq ?_
  refine TC.region ?_
  refine TL.op (yq (y_lss (ev_t rfl) (ev_t rfl))) rfl rfl rfl ?_
  refine TL.nil ?_
  refine TN.seq ?_
  refine TC.seq ?_
  refine TC.cond (b := decide ((k8_1 : Int) < (s.length : Int))) (ev_t rfl) (fun h13 => ?_) (fun h13 => ?_)
  · rw [bif_pos h13] at hL1
    have q14 := (of_decide_eq_true h13)
    refine TC.skip ?_
    refine TN.seq ?_
    refine TC.seq ?_
    refine TC.block ?_
    refine TC.seq ?_
    refine TC.region ?_
    refine TL.op (yq (y_move (ev_t rfl))) rfl rfl rfl ?_
    refine TL.op (yq (y_assign (ev_t rfl))) rfl rfl rfl ?_
    refine TL.nil ?_
    refine TN.seq ?_
    refine TC.seq ?_
    refine TC.region ?_
    refine TL.op (yq (y_move (ev_t rfl))) rfl rfl rfl ?_
    refine TL.op (yq (y_move (ev_t rfl))) rfl rfl rfl ?_
    refine TL.op (yq (y_move (ev_t rfl))) rfl rfl rfl ?_
    have hb15 : k8_1 < s.length := (by first | omega | (simp only [List.length_set, List.length_append, List.length_cons, List.length_nil, List.length_replicate]; omega) | (rw [sortI_length]; simp only [List.length_cons, List.length_nil]; omega))
    refine TL.op (yq (y_idx (k := k8_1) (ev_t rfl) (ev_t rfl) (by first | omega | simp) slT_25 (ri_arg hs) hb15)) rfl rfl rfl ?_
    refine TL.op (yq (y_ldi (ev_t rfl) one_3 (ri_arg hs) hb15)) rfl rfl rfl ?_
    refine TL.op (yq (y_eql (ev_t rfl) (ev_t rfl))) rfl rfl rfl ?_
    refine TL.nil ?_
    refine TN.seq ?_
    refine TC.cond (b := decide (v = (s.getD k8_1 0))) (ev_t rfl) (fun h16 => ?_) (fun h16 => ?_)
    · rw [bif_pos h16] at hL1
      have q17 := (of_decide_eq_true h16)
      refine TC.seq ?_
      refine TC.region ?_
      refine TL.op (yq (y_move (ev_t rfl))) rfl rfl rfl ?_
      refine TL.op (yq (y_assign (ev_t rfl))) rfl rfl rfl ?_
      refine TL.nil ?_
      refine TN.seq ?_
      refine TC.ret ?_
      refine TN.blockR ?_
      refine TN.thenR ?_
      refine TN.thenR ?_
      rw [← hL1, elim_ret] at hF
      refine TN.blockR ?_
      refine TN.thenR ?_
      subst hF
      exact TN.ret1 rfl (ev_t rfl) (fun w' hw => ⟨rfl, hw⟩)
    · rw [bif_neg h16] at hL1
      have q17 := (of_decide_eq_false h16)
      refine TC.skip ?_
      refine TN.blockN ?_
      refine TN.seq ?_
      refine TC.region ?_
      refine TL.op (yq (y_add (ev_t rfl) ev_c (by unfold In64; omega))) rfl rfl rfl ?_
      refine TL.op (yq (y_move (ev_t rfl))) rfl rfl rfl ?_
      refine TL.nil ?_
      exact TN.hand (mf1, (k8_1 + 1)) ⟨(by first | omega | (simp [-List.getD_eq_getElem?_getD] <;> omega)), (by omega), hL1⟩ (Nat.lt_succ_self _) ⟨rfl, rfl, rfl, rfl, trivial⟩ (fun w hw => hw)
  · rw [bif_neg h13] at hL1
    have q14 := (of_decide_eq_false h13)
    refine TC.exit ?_
    refine TN.thenE ?_
    refine TN.thenE ?_
    rw [← hL1, elim_next] at hF
    try dsimp only at hF
    refine TN.blockH ?_
    refine TN.seq ?_
    refine TC.seq ?_
    refine TC.region ?_
    refine TL.op (yq (y_assign ev_c)) rfl rfl rfl ?_
    refine TL.nil ?_
    refine TN.seq ?_
    refine TC.ret ?_
    subst hF
    exact TN.ret1 rfl (ev_t rfl) (fun w' hw => ⟨rfl, hw⟩)

set_option maxRecDepth 4000 in
set_option maxHeartbeats 1000000 in
theorem slices_Contains_Sint_int_ok (w : World) (vs : Value) (s : List Int) (hs : RI w vs s) (v : Int)  :
    Calls Try.prog 92 ([vs, (.int .i64 v)] : List Value).toArray w (Ret (.bool (F_slices_Contains_Sint_int s v)) (Hp w [])) := by
  obtain ⟨rz, hF⟩ : ∃ rz, (F_slices_Contains_Sint_int s v) = rz := ⟨_, rfl⟩
  rw [hF]
  unfold F_slices_Contains_Sint_int at hF
  have hlen_s := arg_len hs
  refine calls_tc Try.func92 rfl rfl rfl ?_
  change TC _ _ _ _ (Hp w []) [(0, vs), (1, (.int .i64 v))]
  refine TC.seq ?_
  refine TC.region ?_
  refine TL.op (yq (y_assign ev_c)) rfl rfl rfl ?_
  refine TL.nil ?_
  refine TN.seq ?_
  refine TC.seq ?_
  refine TC.region ?_
  refine TL.op (yq (y_move (ev_t rfl))) rfl rfl rfl ?_
  refine TL.op (yq (y_move (ev_t rfl))) rfl rfl rfl ?_
  refine TL.op (y_call (vs := [vs, (.int .i64 v)]) (v := (.int .i64 (F_slices_Index_Sint_int s v))) en_121 ⟨(ev_t rfl), (ev_t rfl), trivial⟩ (fun w hw => slices_Index_Sint_int_ok w vs s ((ri_arg hs) w hw) v)) rfl rfl rfl ?_
  refine TL.op (yq (y_geq (ev_t rfl) ev_c)) rfl rfl rfl ?_
  refine TL.op (yq (y_assign (ev_t rfl))) rfl rfl rfl ?_
  refine TL.nil ?_
  refine TN.seq ?_
  refine TC.ret ?_
  subst hF
  exact TN.ret1 rfl (ev_t rfl) (fun w' hw => ⟨rfl, hw⟩)

set_option maxRecDepth 4000 in
set_option maxHeartbeats 1000000 in
theorem impl_orders_ok (w : World) (k : Int) (hp0 : k ≤ 3) :
    Calls Try.prog 138 ([(.int .i64 k)] : List Value).toArray w (fun e w' => ∃ i : Value × List Value, e = .returned i.1 ∧ Hp w [tabI 25 3 i.1 i.2 (F_impl_orders k)] w') := by
  obtain ⟨rz, hF⟩ : ∃ rz, (F_impl_orders k) = rz := ⟨_, rfl⟩
  rw [hF]
  unfold F_impl_orders at hF
  refine calls_tc Try.func138 rfl rfl rfl ?_
  change TC _ _ _ _ (Hp w []) [(0, (.int .i64 k))]
  refine TC.seq ?_
  refine TC.region ?_
  refine TL.op (yq (y_assign ev_c)) rfl rfl rfl ?_
  refine TL.nil ?_
  refine TN.seq ?_
  refine TC.seq ?_
  refine TC.region ?_
  refine TL.buildI (zs := []) (qs := []) slT_25 rfl trivial rfl (by decide) rfl (fun v1_0 => ?_)
  refine TL.buildU slT_22 (ev_t rfl) (fun w hw => ((ri_row 0 rfl) w hw).ln) rfl (fun v1_1 => ?_)
  refine TL.cls (fun w hw => hw.uniTab 0 1 rfl rfl rfl) ?_
  refine TL.op (yq (y_assign (ev_t rfl))) rfl rfl rfl ?_
  refine TL.nil ?_
  refine TN.seq ?_
  refine TC.seq ?_
  refine TC.seq ?_
  refine TC.region ?_
  refine TL.op (yq (y_move (ev_t rfl))) rfl rfl rfl ?_
  refine TL.op (yq (y_move ev_c)) rfl rfl rfl ?_
  refine TL.nil ?_
  refine TN.seq ?_
  refine TC.block ?_
  obtain ⟨c30, hc31⟩ : ∃ c, F_impl_orders_L1 k ((((k).toNat) - 0) + 1) (([([] : List Int)]), 0) = c := ⟨_, rfl⟩
  rw [hc31] at hF
  refine TC.loop (ι := Nat × List (List Int) × Nat × Value × List Value) (fun (fu1, out1, k11_1, vout1, uout1) => [(0, (.int .i64 k)), (3, vout1), (10, (.int .i64 k)), (11, (.int .i64 (k11_1 : Int)))]) (fun (fu1, out1, k11_1, vout1, uout1) => Hp w [tabI 25 3 vout1 uout1 out1]) (fun (fu1, out1, k11_1, vout1, uout1) => (k11_1 ≤ ((k).toNat)) ∧ (out1.length ≤ 3 ^ k11_1) ∧ (∀ j, (out1.getD j []).length ≤ k11_1) ∧ ((k).toNat) - k11_1 < fu1 ∧ F_impl_orders_L1 k fu1 (out1, k11_1) = c30) (fun (fu1, out1, k11_1, vout1, uout1) => fu1) ((((k).toNat) - 0) + 1, [([] : List Int)], 0, v1_1, [v1_0]) ⟨(by first | omega | (simp [-List.getD_eq_getElem?_getD] <;> omega)), (by simp), (fun j => by cases j <;> simp), (by omega), hc31⟩ ⟨rfl, rfl, rfl, rfl, trivial⟩ (fun w hw => Hp.sublist hw (.cons_cons _ (.cons _ .slnil))) ?_
  rintro ⟨fu1, out1, k11_1, vout1, uout1⟩ hJ1
  obtain ⟨hi1_0, hi1_1, hi1_2, hmu1, hL1⟩ : (k11_1 ≤ ((k).toNat)) ∧ (out1.length ≤ 3 ^ k11_1) ∧ (∀ j, (out1.getD j []).length ≤ k11_1) ∧ ((k).toNat) - k11_1 < fu1 ∧ F_impl_orders_L1 k fu1 (out1, k11_1) = c30 := hJ1
  change TC _ _ _ _ (Hp w [tabI 25 3 vout1 uout1 out1]) [(0, (.int .i64 k)), (3, vout1), (10, (.int .i64 k)), (11, (.int .i64 (k11_1 : Int)))]
  obtain ⟨mf1, rfl⟩ : ∃ m, fu1 = m + 1 := ⟨fu1 - 1, by omega⟩
  rw [F_impl_orders_L1_s] at hL1
  have hpw : 3 ^ k11_1 ≤ 3 ^ 3 := Nat.pow_le_pow_right (by decide) (by omega)
  refine TC.seq ?_
  refine TC.region ?_
  refine TL.op (yq (y_lss (ev_t rfl) (ev_t rfl))) rfl rfl rfl ?_
  refine TL.nil ?_
  refine TN.seq ?_
  refine TC.seq ?_
  refine TC.cond (b := decide ((k11_1 : Int) < k)) (ev_t rfl) (fun h32 => ?_) (fun h32 => ?_)
  · rw [bif_pos h32] at hL1
    have q33 := (of_decide_eq_true h32)
    refine TC.skip ?_
    refine TN.seq ?_
    refine TC.seq ?_
    refine TC.block ?_
    refine TC.seq ?_
    refine TC.region ?_
    refine TL.buildSlice (zs := []) (vs := []) slT_22 rfl trivial (by simp) rfl (by decide) rfl (fun v4_0 => ?_)
    refine TL.cls (fun w hw => hw.emptyTab 3) ?_
    refine TL.op (yq (y_assign (ev_t rfl))) rfl rfl rfl ?_
    refine TL.nil ?_
    refine TN.seq ?_
    refine TC.seq ?_
    refine TC.seq ?_
    refine TC.region ?_
    refine TL.op (yq (y_move (ev_t rfl))) rfl rfl rfl ?_
    refine TL.op (yq (y_len (ev_t rfl) Try.underlying22 (fun w hw => ((fun w hw => ((rii_tab 1 rfl) w hw).1) w hw).ln))) rfl rfl rfl ?_
    refine TL.op (yq (y_move ev_c)) rfl rfl rfl ?_
    refine TL.nil ?_
    refine TN.seq ?_
    refine TC.block ?_
    obtain ⟨c34, hc35⟩ : ∃ c, F_impl_orders_L2 k out1 ((out1.length - 0) + 1) (([]), 0) = c := ⟨_, rfl⟩
    rw [hc35] at hL1
    refine TC.loop (ι := Nat × List (List Int) × Nat × Value × List Value) (fun (fu2, next2, k16_2, vnext2, unext2) => [(0, (.int .i64 k)), (4, vnext2), (10, (.int .i64 k)), (11, (.int .i64 (k11_1 : Int))), (14, vout1), (15, (.int .i64 (out1.length : Int))), (16, (.int .i64 (k16_2 : Int)))]) (fun (fu2, next2, k16_2, vnext2, unext2) => Hp w [tabI 25 3 vnext2 unext2 next2, tabI 25 3 vout1 uout1 out1]) (fun (fu2, next2, k16_2, vnext2, unext2) => (k16_2 ≤ out1.length) ∧ (next2.length ≤ 3 * k16_2) ∧ (∀ j, (next2.getD j []).length ≤ k11_1 + 1) ∧ out1.length - k16_2 < fu2 ∧ F_impl_orders_L2 k out1 fu2 (next2, k16_2) = c34) (fun (fu2, next2, k16_2, vnext2, unext2) => fu2) ((out1.length - 0) + 1, [], 0, v4_0, []) ⟨(by first | omega | (simp [-List.getD_eq_getElem?_getD] <;> omega)), (by first | omega | (simp [-List.getD_eq_getElem?_getD] <;> omega)), (fun j => by simp), (by omega), hc35⟩ ⟨rfl, rfl, rfl, rfl, rfl, rfl, rfl, trivial⟩ (fun w hw => hw) ?_
    rintro ⟨fu2, next2, k16_2, vnext2, unext2⟩ hJ2
    obtain ⟨hi2_0, hi2_1, hi2_2, hmu2, hL2⟩ : (k16_2 ≤ out1.length) ∧ (next2.length ≤ 3 * k16_2) ∧ (∀ j, (next2.getD j []).length ≤ k11_1 + 1) ∧ out1.length - k16_2 < fu2 ∧ F_impl_orders_L2 k out1 fu2 (next2, k16_2) = c34 := hJ2
    change TC _ _ _ _ (Hp w [tabI 25 3 vnext2 unext2 next2, tabI 25 3 vout1 uout1 out1]) [(0, (.int .i64 k)), (4, vnext2), (10, (.int .i64 k)), (11, (.int .i64 (k11_1 : Int))), (14, vout1), (15, (.int .i64 (out1.length : Int))), (16, (.int .i64 (k16_2 : Int)))]
    obtain ⟨mf2, rfl⟩ : ∃ m, fu2 = m + 1 := ⟨fu2 - 1, by omega⟩
    rw [F_impl_orders_L2_s] at hL2
    have hol := hi1_2 k16_2
    refine TC.seq ?_
    refine TC.region ?_
    refine TL.op (yq (y_lss (ev_t rfl) (ev_t rfl))) rfl rfl rfl ?_
    refine TL.nil ?_
    refine TN.seq ?_
    refine TC.seq ?_
    refine TC.cond (b := decide ((k16_2 : Int) < (out1.length : Int))) (ev_t rfl) (fun h36 => ?_) (fun h36 => ?_)
    · rw [bif_pos h36] at hL2
      have q37 := (of_decide_eq_true h36)
      refine TC.skip ?_
      refine TN.seq ?_
      refine TC.seq ?_
      refine TC.block ?_
      refine TC.seq ?_
      refine TC.region ?_
      have hb38 : k16_2 < out1.length := (by first | omega | (simp only [List.length_set, List.length_append, List.length_cons, List.length_nil, List.length_replicate]; omega) | (rw [sortI_length]; simp only [List.length_cons, List.length_nil]; omega))
      refine TL.op (yq (y_idx (k := k16_2) (ev_t rfl) (ev_t rfl) (by first | omega | simp) slT_22 (fun w hw => ((rii_tab 1 rfl) w hw).1) hb38)) rfl rfl rfl ?_
      refine TL.op (yq (y_ldT 1 (ev_t rfl) one_25 rfl hb38)) rfl rfl rfl ?_
      refine TL.op (yq (y_assign (ev_t rfl))) rfl rfl rfl ?_
      refine TL.nil ?_
      refine TN.seq ?_
      refine TC.seq ?_
      refine TC.region ?_
      refine TL.op (yq (y_move (ev_t rfl))) rfl rfl rfl ?_
      refine TL.op (yq (y_move ev_c)) rfl rfl rfl ?_
      refine TL.nil ?_
      refine TN.seq ?_
      refine TC.block ?_
      obtain ⟨c39, hc40⟩ : ∃ c, F_impl_orders_L3 k out1 k16_2 ((((k).toNat) - 0) + 1) (next2, 0) = c := ⟨_, rfl⟩
      rw [hc40] at hL2
      refine TC.loop (ι := Nat × List (List Int) × Nat × Value × List Value) (fun (fu3, next3, k21_3, vnext3, unext3) => [(0, (.int .i64 k)), (4, vnext3), (6, (uout1.getD k16_2 undef)), (10, (.int .i64 k)), (11, (.int .i64 (k11_1 : Int))), (14, vout1), (15, (.int .i64 (out1.length : Int))), (16, (.int .i64 (k16_2 : Int))), (20, (.int .i64 k)), (21, (.int .i64 (k21_3 : Int)))]) (fun (fu3, next3, k21_3, vnext3, unext3) => Hp w [tabI 25 3 vnext3 unext3 next3, tabI 25 3 vout1 uout1 out1]) (fun (fu3, next3, k21_3, vnext3, unext3) => (k21_3 ≤ ((k).toNat)) ∧ (next3.length ≤ next2.length + k21_3) ∧ (∀ j, (next3.getD j []).length ≤ k11_1 + 1) ∧ ((k).toNat) - k21_3 < fu3 ∧ F_impl_orders_L3 k out1 k16_2 fu3 (next3, k21_3) = c39) (fun (fu3, next3, k21_3, vnext3, unext3) => fu3) ((((k).toNat) - 0) + 1, next2, 0, vnext2, unext2) ⟨(by first | omega | (simp [-List.getD_eq_getElem?_getD] <;> omega)), (by first | omega | (simp [-List.getD_eq_getElem?_getD] <;> omega)), hi2_2, (by omega), hc40⟩ ⟨rfl, rfl, rfl, rfl, rfl, rfl, rfl, rfl, rfl, rfl, trivial⟩ (fun w hw => hw) ?_
      rintro ⟨fu3, next3, k21_3, vnext3, unext3⟩ hJ3
      obtain ⟨hi3_0, hi3_1, hi3_2, hmu3, hL3⟩ : (k21_3 ≤ ((k).toNat)) ∧ (next3.length ≤ next2.length + k21_3) ∧ (∀ j, (next3.getD j []).length ≤ k11_1 + 1) ∧ ((k).toNat) - k21_3 < fu3 ∧ F_impl_orders_L3 k out1 k16_2 fu3 (next3, k21_3) = c39 := hJ3
      change TC _ _ _ _ (Hp w [tabI 25 3 vnext3 unext3 next3, tabI 25 3 vout1 uout1 out1]) [(0, (.int .i64 k)), (4, vnext3), (6, (uout1.getD k16_2 undef)), (10, (.int .i64 k)), (11, (.int .i64 (k11_1 : Int))), (14, vout1), (15, (.int .i64 (out1.length : Int))), (16, (.int .i64 (k16_2 : Int))), (20, (.int .i64 k)), (21, (.int .i64 (k21_3 : Int)))]
      obtain ⟨mf3, rfl⟩ : ∃ m, fu3 = m + 1 := ⟨fu3 - 1, by omega⟩
      rw [F_impl_orders_L3_s] at hL3
      refine TC.seq ?_
      refine TC.region ?_
      refine TL.op (yq (y_lss (ev_t rfl) (ev_t rfl))) rfl rfl rfl ?_
      refine TL.nil ?_
      refine TN.seq ?_
      refine TC.seq ?_
      refine TC.cond (b := decide ((k21_3 : Int) < k)) (ev_t rfl) (fun h41 => ?_) (fun h41 => ?_)
      · rw [bif_pos h41] at hL3
        have q42 := (of_decide_eq_true h41)
        refine TC.skip ?_
        refine TN.seq ?_
        refine TC.seq ?_
        refine TC.block ?_
        refine TC.seq ?_
        refine TC.region ?_
        refine TL.op (yq (y_move (ev_t rfl))) rfl rfl rfl ?_
        refine TL.op (yq (y_assign (ev_t rfl))) rfl rfl rfl ?_
        refine TL.nil ?_
        refine TN.seq ?_
        refine TC.seq ?_
        refine TC.region ?_
        refine TL.op (yq (y_move (ev_t rfl))) rfl rfl rfl ?_
        refine TL.op (yq (y_move (ev_t rfl))) rfl rfl rfl ?_
        refine TL.op (y_call (vs := [(uout1.getD k16_2 undef), (.int .i64 (k21_3 : Int))]) (v := (.bool (F_slices_Contains_Sint_int (out1.getD k16_2 []) (k21_3 : Int)))) en_92 ⟨(ev_t rfl), (ev_t rfl), trivial⟩ (fun w hw => slices_Contains_Sint_int_ok w (uout1.getD k16_2 undef) (out1.getD k16_2 []) ((ri_tab 1 k16_2 rfl hb38) w hw) (k21_3 : Int))) rfl rfl rfl ?_
        refine TL.op (yq (y_not (ev_t rfl))) rfl rfl rfl ?_
        refine TL.nil ?_
        refine TN.seq ?_
        refine TC.cond (b := !(F_slices_Contains_Sint_int (out1.getD k16_2 []) (k21_3 : Int))) (ev_t rfl) (fun h43 => ?_) (fun h43 => ?_)
        · rw [bif_pos h43] at hL3
          have q44 := (not_t h43)
          refine TC.region ?_
          refine TL.op (yq (y_move (ev_t rfl))) rfl rfl rfl ?_
          refine TL.op (yq (y_move (ev_t rfl))) rfl rfl rfl ?_
          refine TL.callr (ι := Value) (vs := [(uout1.getD k16_2 undef)]) (fun i => i) (fun i => [rowI 3 i (out1.getD k16_2 [])]) en_62 ⟨(ev_t rfl), trivial⟩ rfl (fun w hw => slices_Clone_Sint_int_ok w (uout1.getD k16_2 undef) (out1.getD k16_2 []) ((ri_tab 1 k16_2 rfl hb38) w hw) (by first | assumption | omega | grind)) (fun r12_2 => ?_)
          refine TL.op (yq (y_move (ev_t rfl))) rfl rfl rfl ?_
          refine TL.buildI (zs := [.tmp 31]) (qs := [(k21_3 : Int)]) slT_25 rfl ⟨(ev_t rfl), trivial⟩ rfl (by decide) rfl (fun v12_4 => ?_)
          refine TL.appendI 1 (ev_t rfl) (ev_t rfl) rfl slT_25 (ri_row 0 rfl) (by first | omega | (simp [-List.getD_eq_getElem?_getD] <;> omega)) rfl (fun v12_5 => ?_)
          refine TL.buildU slT_22 (ev_t rfl) (fun w hw => ((ri_row 1 rfl) w hw).ln) rfl (fun v12_6 => ?_)
          refine TL.appendT 3 2 rfl (ev_t rfl) (ev_t rfl) rfl rfl slT_22 (rd_row 0 rfl) (by first | omega | (simp [-List.getD_eq_getElem?_getD] <;> omega)) rfl (fun v12_7 => ?_)
          refine TL.op (yq (y_assign (ev_t rfl))) rfl rfl rfl ?_
          refine TL.nil ?_
          refine TN.blockN ?_
          refine TN.seq ?_
          refine TC.region ?_
          refine TL.op (yq (y_add (ev_t rfl) ev_c (by unfold In64; omega))) rfl rfl rfl ?_
          refine TL.op (yq (y_move (ev_t rfl))) rfl rfl rfl ?_
          refine TL.nil ?_
          exact TN.hand (mf3, (next3 ++ [((out1.getD k16_2 []) ++ ([(k21_3 : Int)]))]), (k21_3 + 1), v12_7, (unext3 ++ [v12_5])) ⟨(by first | omega | (simp [-List.getD_eq_getElem?_getD] <;> omega)), (by first | omega | (simp [-List.getD_eq_getElem?_getD] <;> omega)), (by first | exact hi3_2 | exact push_len hi3_2 (by simp only [List.length_append, List.length_cons, List.length_nil]; omega)), (by omega), hL3⟩ (Nat.lt_succ_self _) ⟨rfl, rfl, rfl, rfl, rfl, rfl, rfl, rfl, rfl, rfl, trivial⟩ (fun w hw => Hp.sublist hw (.cons _ (.cons _ (.cons _ (.cons_cons _ (.cons_cons _ .slnil))))))
        · rw [bif_neg h43] at hL3
          have q44 := (not_f h43)
          refine TC.skip ?_
          refine TN.blockN ?_
          refine TN.seq ?_
          refine TC.region ?_
          refine TL.op (yq (y_add (ev_t rfl) ev_c (by unfold In64; omega))) rfl rfl rfl ?_
          refine TL.op (yq (y_move (ev_t rfl))) rfl rfl rfl ?_
          refine TL.nil ?_
          exact TN.hand (mf3, next3, (k21_3 + 1), vnext3, unext3) ⟨(by first | omega | (simp [-List.getD_eq_getElem?_getD] <;> omega)), (by first | omega | (simp [-List.getD_eq_getElem?_getD] <;> omega)), (by first | exact hi3_2 | exact push_len hi3_2 (by simp only [List.length_append, List.length_cons, List.length_nil]; omega)), (by omega), hL3⟩ (Nat.lt_succ_self _) ⟨rfl, rfl, rfl, rfl, rfl, rfl, rfl, rfl, rfl, rfl, trivial⟩ (fun w hw => hw)
      · rw [bif_neg h41] at hL3
        have q42 := (of_decide_eq_false h41)
        refine TC.exit ?_
        refine TN.thenE ?_
        refine TN.thenE ?_
        rw [← hL3, elim_next] at hL2
        try dsimp only at hL2
        refine TN.blockH ?_
        refine TN.blockN ?_
        refine TN.seq ?_
        refine TC.region ?_
        refine TL.op (yq (y_add (ev_t rfl) ev_c (by unfold In64; omega))) rfl rfl rfl ?_
        refine TL.op (yq (y_move (ev_t rfl))) rfl rfl rfl ?_
        refine TL.nil ?_
        exact TN.hand (mf2, next3, (k16_2 + 1), vnext3, unext3) ⟨(by first | omega | (simp [-List.getD_eq_getElem?_getD] <;> omega)), (by first | omega | (simp [-List.getD_eq_getElem?_getD] <;> omega)), hi3_2, (by omega), hL2⟩ (Nat.lt_succ_self _) ⟨rfl, rfl, rfl, rfl, rfl, rfl, rfl, trivial⟩ (fun w hw => hw)
    · rw [bif_neg h36] at hL2
      have q37 := (of_decide_eq_false h36)
      refine TC.exit ?_
      refine TN.thenE ?_
      refine TN.thenE ?_
      rw [← hL2, elim_next] at hL1
      try dsimp only at hL1
      refine TN.blockH ?_
      refine TN.seq ?_
      refine TC.region ?_
      refine TL.op (yq (y_move (ev_t rfl))) rfl rfl rfl ?_
      refine TL.op (yq (y_assign (ev_t rfl))) rfl rfl rfl ?_
      refine TL.nil ?_
      refine TN.blockN ?_
      refine TN.seq ?_
      refine TC.region ?_
      refine TL.op (yq (y_add (ev_t rfl) ev_c (by unfold In64; omega))) rfl rfl rfl ?_
      refine TL.op (yq (y_move (ev_t rfl))) rfl rfl rfl ?_
      refine TL.nil ?_
      exact TN.hand (mf1, next2, (k11_1 + 1), vnext2, unext2) ⟨(by first | omega | (simp [-List.getD_eq_getElem?_getD] <;> omega)), (by rw [Nat.pow_succ]; omega), hi2_2, (by omega), hL1⟩ (Nat.lt_succ_self _) ⟨rfl, rfl, rfl, rfl, trivial⟩ (fun w hw => Hp.sublist hw (.cons_cons _ (.cons _ .slnil)))
  · rw [bif_neg h32] at hL1
    have q33 := (of_decide_eq_false h32)
    refine TC.exit ?_
    refine TN.thenE ?_
    refine TN.thenE ?_
    rw [← hL1, elim_next] at hF
    try dsimp only at hF
    refine TN.blockH ?_
    refine TN.seq ?_
    refine TC.seq ?_
    refine TC.region ?_
    refine TL.op (yq (y_move (ev_t rfl))) rfl rfl rfl ?_
    refine TL.op (yq (y_assign (ev_t rfl))) rfl rfl rfl ?_
    refine TL.nil ?_
    refine TN.seq ?_
    refine TC.ret ?_
    subst hF
    exact TN.ret1 rfl (ev_t rfl) (fun w' hw => ⟨(vout1, uout1), rfl, hw⟩)

set_option maxRecDepth 4000 in
set_option maxHeartbeats 1000000 in
theorem spec_l6Perms_ok (w : World) (k : Int) (hp0 : k ≤ 3) :
    Calls Try.prog 131 ([(.int .i64 k)] : List Value).toArray w (fun e w' => ∃ i : Value × List Value, e = .returned i.1 ∧ Hp w [tabI 25 3 i.1 i.2 (F_spec_l6Perms k)] w') := by
  obtain ⟨rz, hF⟩ : ∃ rz, (F_spec_l6Perms k) = rz := ⟨_, rfl⟩
  rw [hF]
  unfold F_spec_l6Perms at hF
  refine calls_tc Try.func131 rfl rfl rfl ?_
  change TC _ _ _ _ (Hp w []) [(0, (.int .i64 k))]
  refine TC.seq ?_
  refine TC.region ?_
  refine TL.op (yq (y_assign ev_c)) rfl rfl rfl ?_
  refine TL.nil ?_
  refine TN.seq ?_
  refine TC.seq ?_
  refine TC.region ?_
  refine TL.buildI (zs := []) (qs := []) slT_25 rfl trivial rfl (by decide) rfl (fun v1_0 => ?_)
  refine TL.buildU slT_22 (ev_t rfl) (fun w hw => ((ri_row 0 rfl) w hw).ln) rfl (fun v1_1 => ?_)
  refine TL.cls (fun w hw => hw.uniTab 0 1 rfl rfl rfl) ?_
  refine TL.op (yq (y_assign (ev_t rfl))) rfl rfl rfl ?_
  refine TL.nil ?_
  refine TN.seq ?_
  refine TC.seq ?_
  refine TC.seq ?_
  refine TC.region ?_
  refine TL.op (yq (y_assign ev_c)) rfl rfl rfl ?_
  refine TL.nil ?_
  refine TN.seq ?_
  refine TC.block ?_
  obtain ⟨c35, hc36⟩ : ∃ c, F_spec_l6Perms_L1 k ((((k).toNat) - 0) + 1) (([([] : List Int)]), 0) = c := ⟨_, rfl⟩
  rw [hc36] at hF
  refine TC.loop (ι := Nat × List (List Int) × Nat × Value × List Value) (fun (fu1, now1, i1, vnow1, unow1) => [(0, (.int .i64 k)), (3, vnow1), (4, (.int .i64 (i1 : Int)))]) (fun (fu1, now1, i1, vnow1, unow1) => Hp w [tabI 25 3 vnow1 unow1 now1]) (fun (fu1, now1, i1, vnow1, unow1) => (i1 ≤ ((k).toNat)) ∧ (now1.length ≤ 3 ^ i1) ∧ (∀ j, (now1.getD j []).length ≤ i1) ∧ ((k).toNat) - i1 < fu1 ∧ F_spec_l6Perms_L1 k fu1 (now1, i1) = c35) (fun (fu1, now1, i1, vnow1, unow1) => fu1) ((((k).toNat) - 0) + 1, [([] : List Int)], 0, v1_1, [v1_0]) ⟨(by first | omega | (simp [-List.getD_eq_getElem?_getD] <;> omega)), (by simp), (fun j => by cases j <;> simp), (by omega), hc36⟩ ⟨rfl, rfl, rfl, trivial⟩ (fun w hw => Hp.sublist hw (.cons_cons _ (.cons _ .slnil))) ?_
  rintro ⟨fu1, now1, i1, vnow1, unow1⟩ hJ1
  obtain ⟨hi1_0, hi1_1, hi1_2, hmu1, hL1⟩ : (i1 ≤ ((k).toNat)) ∧ (now1.length ≤ 3 ^ i1) ∧ (∀ j, (now1.getD j []).length ≤ i1) ∧ ((k).toNat) - i1 < fu1 ∧ F_spec_l6Perms_L1 k fu1 (now1, i1) = c35 := hJ1
  change TC _ _ _ _ (Hp w [tabI 25 3 vnow1 unow1 now1]) [(0, (.int .i64 k)), (3, vnow1), (4, (.int .i64 (i1 : Int)))]
  obtain ⟨mf1, rfl⟩ : ∃ m, fu1 = m + 1 := ⟨fu1 - 1, by omega⟩
  rw [F_spec_l6Perms_L1_s] at hL1
  have hpw : 3 ^ i1 ≤ 3 ^ 3 := Nat.pow_le_pow_right (by decide) (by omega)
  refine TC.seq ?_
  refine TC.seq ?_
  refine TC.region ?_
  refine TL.op (yq (y_move (ev_t rfl))) rfl rfl rfl ?_
  refine TL.op (yq (y_move (ev_t rfl))) rfl rfl rfl ?_
  refine TL.op (yq (y_lss (ev_t rfl) (ev_t rfl))) rfl rfl rfl ?_
  refine TL.nil ?_
  refine TN.seq ?_
  refine TC.cond (b := decide ((i1 : Int) < k)) (ev_t rfl) (fun h37 => ?_) (fun h37 => ?_)
  · rw [bif_pos h37] at hL1
    have q38 := (of_decide_eq_true h37)
    refine TC.skip ?_
    refine TN.seq ?_
    refine TC.seq ?_
    refine TC.block ?_
    refine TC.seq ?_
    refine TC.region ?_
    refine TL.buildSlice (zs := []) (vs := []) slT_22 rfl trivial (by simp) rfl (by decide) rfl (fun v5_0 => ?_)
    refine TL.cls (fun w hw => hw.emptyTab 3) ?_
    refine TL.op (yq (y_assign (ev_t rfl))) rfl rfl rfl ?_
    refine TL.nil ?_
    refine TN.seq ?_
    refine TC.seq ?_
    refine TC.seq ?_
    refine TC.region ?_
    refine TL.op (yq (y_assign ev_c)) rfl rfl rfl ?_
    refine TL.nil ?_
    refine TN.seq ?_
    refine TC.block ?_
    obtain ⟨c39, hc40⟩ : ∃ c, F_spec_l6Perms_L2 k now1 ((now1.length - 0) + 1) (([]), 0) = c := ⟨_, rfl⟩
    rw [hc40] at hL1
    refine TC.loop (ι := Nat × List (List Int) × Nat × Value × List Value) (fun (fu2, next2, j2, vnext2, unext2) => [(0, (.int .i64 k)), (3, vnow1), (4, (.int .i64 (i1 : Int))), (5, vnext2), (6, (.int .i64 (j2 : Int)))]) (fun (fu2, next2, j2, vnext2, unext2) => Hp w [tabI 25 3 vnext2 unext2 next2, tabI 25 3 vnow1 unow1 now1]) (fun (fu2, next2, j2, vnext2, unext2) => (j2 ≤ now1.length) ∧ (next2.length ≤ 3 * j2) ∧ (∀ j, (next2.getD j []).length ≤ i1 + 1) ∧ now1.length - j2 < fu2 ∧ F_spec_l6Perms_L2 k now1 fu2 (next2, j2) = c39) (fun (fu2, next2, j2, vnext2, unext2) => fu2) ((now1.length - 0) + 1, [], 0, v5_0, []) ⟨(by first | omega | (simp [-List.getD_eq_getElem?_getD] <;> omega)), (by first | omega | (simp [-List.getD_eq_getElem?_getD] <;> omega)), (fun j => by simp), (by omega), hc40⟩ ⟨rfl, rfl, rfl, rfl, rfl, trivial⟩ (fun w hw => hw) ?_
    rintro ⟨fu2, next2, j2, vnext2, unext2⟩ hJ2
    obtain ⟨hi2_0, hi2_1, hi2_2, hmu2, hL2⟩ : (j2 ≤ now1.length) ∧ (next2.length ≤ 3 * j2) ∧ (∀ j, (next2.getD j []).length ≤ i1 + 1) ∧ now1.length - j2 < fu2 ∧ F_spec_l6Perms_L2 k now1 fu2 (next2, j2) = c39 := hJ2
    change TC _ _ _ _ (Hp w [tabI 25 3 vnext2 unext2 next2, tabI 25 3 vnow1 unow1 now1]) [(0, (.int .i64 k)), (3, vnow1), (4, (.int .i64 (i1 : Int))), (5, vnext2), (6, (.int .i64 (j2 : Int)))]
    obtain ⟨mf2, rfl⟩ : ∃ m, fu2 = m + 1 := ⟨fu2 - 1, by omega⟩
    rw [F_spec_l6Perms_L2_s] at hL2
    have hol := hi1_2 j2
    refine TC.seq ?_
    refine TC.seq ?_
    refine TC.region ?_
    refine TL.op (yq (y_move (ev_t rfl))) rfl rfl rfl ?_
    refine TL.op (yq (y_move (ev_t rfl))) rfl rfl rfl ?_
    refine TL.op (yq (y_len (ev_t rfl) Try.underlying22 (fun w hw => ((fun w hw => ((rii_tab 1 rfl) w hw).1) w hw).ln))) rfl rfl rfl ?_
    refine TL.op (yq (y_lss (ev_t rfl) (ev_t rfl))) rfl rfl rfl ?_
    refine TL.nil ?_
    refine TN.seq ?_
    refine TC.cond (b := decide ((j2 : Int) < (now1.length : Int))) (ev_t rfl) (fun h41 => ?_) (fun h41 => ?_)
    · rw [bif_pos h41] at hL2
      have q42 := (of_decide_eq_true h41)
      refine TC.skip ?_
      refine TN.seq ?_
      refine TC.seq ?_
      refine TC.block ?_
      refine TC.seq ?_
      refine TC.region ?_
      refine TL.op (yq (y_assign ev_c)) rfl rfl rfl ?_
      refine TL.nil ?_
      refine TN.seq ?_
      refine TC.block ?_
      obtain ⟨c43, hc44⟩ : ∃ c, F_spec_l6Perms_L3 k now1 j2 ((((k).toNat) - 0) + 1) (next2, 0) = c := ⟨_, rfl⟩
      rw [hc44] at hL2
      refine TC.loop (ι := Nat × List (List Int) × Nat × Value × List Value) (fun (fu3, next3, x3, vnext3, unext3) => [(0, (.int .i64 k)), (3, vnow1), (4, (.int .i64 (i1 : Int))), (5, vnext3), (6, (.int .i64 (j2 : Int))), (7, (.int .i64 (x3 : Int)))]) (fun (fu3, next3, x3, vnext3, unext3) => Hp w [tabI 25 3 vnext3 unext3 next3, tabI 25 3 vnow1 unow1 now1]) (fun (fu3, next3, x3, vnext3, unext3) => (x3 ≤ ((k).toNat)) ∧ (next3.length ≤ next2.length + x3) ∧ (∀ j, (next3.getD j []).length ≤ i1 + 1) ∧ ((k).toNat) - x3 < fu3 ∧ F_spec_l6Perms_L3 k now1 j2 fu3 (next3, x3) = c43) (fun (fu3, next3, x3, vnext3, unext3) => fu3) ((((k).toNat) - 0) + 1, next2, 0, vnext2, unext2) ⟨(by first | omega | (simp [-List.getD_eq_getElem?_getD] <;> omega)), (by first | omega | (simp [-List.getD_eq_getElem?_getD] <;> omega)), hi2_2, (by omega), hc44⟩ ⟨rfl, rfl, rfl, rfl, rfl, rfl, trivial⟩ (fun w hw => hw) ?_
      rintro ⟨fu3, next3, x3, vnext3, unext3⟩ hJ3
      obtain ⟨hi3_0, hi3_1, hi3_2, hmu3, hL3⟩ : (x3 ≤ ((k).toNat)) ∧ (next3.length ≤ next2.length + x3) ∧ (∀ j, (next3.getD j []).length ≤ i1 + 1) ∧ ((k).toNat) - x3 < fu3 ∧ F_spec_l6Perms_L3 k now1 j2 fu3 (next3, x3) = c43 := hJ3
      change TC _ _ _ _ (Hp w [tabI 25 3 vnext3 unext3 next3, tabI 25 3 vnow1 unow1 now1]) [(0, (.int .i64 k)), (3, vnow1), (4, (.int .i64 (i1 : Int))), (5, vnext3), (6, (.int .i64 (j2 : Int))), (7, (.int .i64 (x3 : Int)))]
      obtain ⟨mf3, rfl⟩ : ∃ m, fu3 = m + 1 := ⟨fu3 - 1, by omega⟩
      rw [F_spec_l6Perms_L3_s] at hL3
      refine TC.seq ?_
      refine TC.seq ?_
      refine TC.region ?_
      refine TL.op (yq (y_move (ev_t rfl))) rfl rfl rfl ?_
      refine TL.op (yq (y_move (ev_t rfl))) rfl rfl rfl ?_
      refine TL.op (yq (y_lss (ev_t rfl) (ev_t rfl))) rfl rfl rfl ?_
      refine TL.nil ?_
      refine TN.seq ?_
      refine TC.cond (b := decide ((x3 : Int) < k)) (ev_t rfl) (fun h45 => ?_) (fun h45 => ?_)
      · rw [bif_pos h45] at hL3
        have q46 := (of_decide_eq_true h45)
        refine TC.skip ?_
        refine TN.seq ?_
        refine TC.seq ?_
        refine TC.block ?_
        refine TC.seq ?_
        refine TC.region ?_
        refine TL.op (yq (y_move (ev_t rfl))) rfl rfl rfl ?_
        refine TL.op (yq (y_move (ev_t rfl))) rfl rfl rfl ?_
        have hb47 : j2 < now1.length := (by first | omega | (simp only [List.length_set, List.length_append, List.length_cons, List.length_nil, List.length_replicate]; omega) | (rw [sortI_length]; simp only [List.length_cons, List.length_nil]; omega))
        refine TL.op (yq (y_idx (k := j2) (ev_t rfl) (ev_t rfl) (by first | omega | simp) slT_22 (fun w hw => ((rii_tab 1 rfl) w hw).1) hb47)) rfl rfl rfl ?_
        refine TL.op (yq (y_ldT 1 (ev_t rfl) one_25 rfl hb47)) rfl rfl rfl ?_
        refine TL.op (yq (y_move (ev_t rfl))) rfl rfl rfl ?_
        refine TL.op (y_call (vs := [(unow1.getD j2 undef), (.int .i64 (x3 : Int))]) (v := (.bool (F_spec_l1Has (now1.getD j2 []) (x3 : Int)))) en_120 ⟨(ev_t rfl), (ev_t rfl), trivial⟩ (fun w hw => spec_l1Has_ok w (unow1.getD j2 undef) (now1.getD j2 []) ((ri_tab 1 j2 rfl hb47) w hw) (x3 : Int))) rfl rfl rfl ?_
        refine TL.op (yq (y_not (ev_t rfl))) rfl rfl rfl ?_
        refine TL.nil ?_
        refine TN.seq ?_
        refine TC.cond (b := !(F_spec_l1Has (now1.getD j2 []) (x3 : Int))) (ev_t rfl) (fun h48 => ?_) (fun h48 => ?_)
        · rw [bif_pos h48] at hL3
          have q49 := (l1Has_f (not_t h48))
          refine TC.region ?_
          refine TL.op (yq (y_move (ev_t rfl))) rfl rfl rfl ?_
          refine TL.buildI (zs := []) (qs := []) slT_25 rfl trivial rfl (by decide) rfl (fun v13_1 => ?_)
          refine TL.op (yq (y_move (ev_t rfl))) rfl rfl rfl ?_
          refine TL.op (yq (y_move (ev_t rfl))) rfl rfl rfl ?_
          have hb50 : j2 < now1.length := (by first | omega | (simp only [List.length_set, List.length_append, List.length_cons, List.length_nil, List.length_replicate]; omega) | (rw [sortI_length]; simp only [List.length_cons, List.length_nil]; omega))
          refine TL.op (yq (y_idx (k := j2) (ev_t rfl) (ev_t rfl) (by first | omega | simp) slT_22 (fun w hw => ((rii_tab 2 rfl) w hw).1) hb50)) rfl rfl rfl ?_
          refine TL.op (yq (y_ldT 2 (ev_t rfl) one_25 rfl hb50)) rfl rfl rfl ?_
          refine TL.appendI 0 (ev_t rfl) (ev_t rfl) rfl slT_25 (ri_tab 2 j2 rfl hb50) (by first | omega | (simp [-List.getD_eq_getElem?_getD] <;> omega)) rfl (fun v13_6 => ?_)
          refine TL.op (yq (y_move (ev_t rfl))) rfl rfl rfl ?_
          refine TL.buildI (zs := [.tmp 41]) (qs := [(x3 : Int)]) slT_25 rfl ⟨(ev_t rfl), trivial⟩ rfl (by decide) rfl (fun v13_8 => ?_)
          refine TL.appendI 1 (ev_t rfl) (ev_t rfl) rfl slT_25 (ri_row 0 rfl) (by first | omega | (simp [-List.getD_eq_getElem?_getD] <;> omega)) rfl (fun v13_9 => ?_)
          refine TL.buildU slT_22 (ev_t rfl) (fun w hw => ((ri_row 1 rfl) w hw).ln) rfl (fun v13_10 => ?_)
          refine TL.appendT 3 2 rfl (ev_t rfl) (ev_t rfl) rfl rfl slT_22 (rd_row 0 rfl) (by first | omega | (simp [-List.getD_eq_getElem?_getD] <;> omega)) rfl (fun v13_11 => ?_)
          refine TL.op (yq (y_assign (ev_t rfl))) rfl rfl rfl ?_
          refine TL.nil ?_
          refine TN.blockN ?_
          refine TN.seq ?_
          refine TC.region ?_
          refine TL.op (yq (y_move (ev_t rfl))) rfl rfl rfl ?_
          refine TL.op (yq (y_add (ev_t rfl) ev_c (by unfold In64; omega))) rfl rfl rfl ?_
          refine TL.op (yq (y_assign (ev_t rfl))) rfl rfl rfl ?_
          refine TL.nil ?_
          exact TN.hand (mf3, (next3 ++ [((([] : List Int) ++ (now1.getD j2 [])) ++ ([(x3 : Int)]))]), (x3 + 1), v13_11, (unext3 ++ [v13_9])) ⟨(by first | omega | (simp [-List.getD_eq_getElem?_getD] <;> omega)), (by first | omega | (simp [-List.getD_eq_getElem?_getD] <;> omega)), (by first | exact hi3_2 | exact push_len hi3_2 (by simp only [List.length_append, List.length_cons, List.length_nil]; omega)), (by omega), hL3⟩ (Nat.lt_succ_self _) ⟨rfl, rfl, rfl, rfl, rfl, rfl, trivial⟩ (fun w hw => Hp.sublist hw (.cons _ (.cons _ (.cons _ (.cons_cons _ (.cons_cons _ .slnil))))))
        · rw [bif_neg h48] at hL3
          have q49 := (not_f h48)
          refine TC.skip ?_
          refine TN.blockN ?_
          refine TN.seq ?_
          refine TC.region ?_
          refine TL.op (yq (y_move (ev_t rfl))) rfl rfl rfl ?_
          refine TL.op (yq (y_add (ev_t rfl) ev_c (by unfold In64; omega))) rfl rfl rfl ?_
          refine TL.op (yq (y_assign (ev_t rfl))) rfl rfl rfl ?_
          refine TL.nil ?_
          exact TN.hand (mf3, next3, (x3 + 1), vnext3, unext3) ⟨(by first | omega | (simp [-List.getD_eq_getElem?_getD] <;> omega)), (by first | omega | (simp [-List.getD_eq_getElem?_getD] <;> omega)), (by first | exact hi3_2 | exact push_len hi3_2 (by simp only [List.length_append, List.length_cons, List.length_nil]; omega)), (by omega), hL3⟩ (Nat.lt_succ_self _) ⟨rfl, rfl, rfl, rfl, rfl, rfl, trivial⟩ (fun w hw => hw)
      · rw [bif_neg h45] at hL3
        have q46 := (of_decide_eq_false h45)
        refine TC.exit ?_
        refine TN.thenE ?_
        refine TN.thenE ?_
        rw [← hL3, elim_next] at hL2
        try dsimp only at hL2
        refine TN.blockH ?_
        refine TN.blockN ?_
        refine TN.seq ?_
        refine TC.region ?_
        refine TL.op (yq (y_move (ev_t rfl))) rfl rfl rfl ?_
        refine TL.op (yq (y_add (ev_t rfl) ev_c (by unfold In64; omega))) rfl rfl rfl ?_
        refine TL.op (yq (y_assign (ev_t rfl))) rfl rfl rfl ?_
        refine TL.nil ?_
        exact TN.hand (mf2, next3, (j2 + 1), vnext3, unext3) ⟨(by first | omega | (simp [-List.getD_eq_getElem?_getD] <;> omega)), (by first | omega | (simp [-List.getD_eq_getElem?_getD] <;> omega)), hi3_2, (by omega), hL2⟩ (Nat.lt_succ_self _) ⟨rfl, rfl, rfl, rfl, rfl, trivial⟩ (fun w hw => hw)
    · rw [bif_neg h41] at hL2
      have q42 := (of_decide_eq_false h41)
      refine TC.exit ?_
      refine TN.thenE ?_
      refine TN.thenE ?_
      rw [← hL2, elim_next] at hL1
      try dsimp only at hL1
      refine TN.blockH ?_
      refine TN.seq ?_
      refine TC.region ?_
      refine TL.op (yq (y_move (ev_t rfl))) rfl rfl rfl ?_
      refine TL.op (yq (y_assign (ev_t rfl))) rfl rfl rfl ?_
      refine TL.nil ?_
      refine TN.blockN ?_
      refine TN.seq ?_
      refine TC.region ?_
      refine TL.op (yq (y_move (ev_t rfl))) rfl rfl rfl ?_
      refine TL.op (yq (y_add (ev_t rfl) ev_c (by unfold In64; omega))) rfl rfl rfl ?_
      refine TL.op (yq (y_assign (ev_t rfl))) rfl rfl rfl ?_
      refine TL.nil ?_
      exact TN.hand (mf1, next2, (i1 + 1), vnext2, unext2) ⟨(by first | omega | (simp [-List.getD_eq_getElem?_getD] <;> omega)), (by rw [Nat.pow_succ]; omega), hi2_2, (by omega), hL1⟩ (Nat.lt_succ_self _) ⟨rfl, rfl, rfl, trivial⟩ (fun w hw => Hp.sublist hw (.cons_cons _ (.cons _ .slnil)))
  · rw [bif_neg h37] at hL1
    have q38 := (of_decide_eq_false h37)
    refine TC.exit ?_
    refine TN.thenE ?_
    refine TN.thenE ?_
    rw [← hL1, elim_next] at hF
    try dsimp only at hF
    refine TN.blockH ?_
    refine TN.seq ?_
    refine TC.seq ?_
    refine TC.region ?_
    refine TL.op (yq (y_move (ev_t rfl))) rfl rfl rfl ?_
    refine TL.op (yq (y_assign (ev_t rfl))) rfl rfl rfl ?_
    refine TL.nil ?_
    refine TN.seq ?_
    refine TC.ret ?_
    subst hF
    exact TN.ret1 rfl (ev_t rfl) (fun w' hw => ⟨(vnow1, unow1), rfl, hw⟩)

set_option maxRecDepth 4000 in
set_option maxHeartbeats 1000000 in
theorem impl_Metric_matched_ok (w : World) (vm : Value) (um : List Value) (m : List (List Int)) (hm : RII w vm um m) (va : Value) (a : List Int) (ha : RI w va a) (vb : Value) (b : List Int) (hb : RI w vb b) (hp0 : Tab m) (hp1 : Cf m.length a) (hp2 : Cf m.length b) (hp3 : a.length = b.length) :
    Calls Try.prog 124 ([(.agg #[vm]), va, vb] : List Value).toArray w (fun e w' => ∃ i : Value, e = .returned (.tuple #[i, (.int .i64 ((F_impl_Metric_matched m a b).2))]) ∧ Hp w [rowI 3 i ((F_impl_Metric_matched m a b).1)] w') := by
  obtain ⟨rz, hF⟩ : ∃ rz, (F_impl_Metric_matched m a b) = rz := ⟨_, rfl⟩
  rw [hF]
  unfold F_impl_Metric_matched at hF
  have hn3 := hp1.n3
  have hor := orders_row a.length hp1.n1 hp1.n3
  have hlen_m := argT_len hm
  have hlen_a := arg_len ha
  have hlen_b := arg_len hb
  refine calls_tc Try.func124 rfl rfl rfl ?_
  change TC _ _ _ _ (Hp w []) [(0, (.agg #[vm])), (1, va), (2, vb)]
  refine TC.seq ?_
  refine TC.region ?_
  refine TL.box (ev_t rfl) rfl (fun g0_0 => ?_)
  refine TL.op (yq (y_assign ev_c)) rfl rfl rfl ?_
  refine TL.op (yq (y_assign ev_c)) rfl rfl rfl ?_
  refine TL.nil ?_
  refine TN.seq ?_
  refine TC.seq ?_
  refine TC.region ?_
  refine TL.op (yq (y_assign ev_c)) rfl rfl rfl ?_
  refine TL.nil ?_
  refine TN.seq ?_
  refine TC.seq ?_
  refine TC.region ?_
  refine TL.op (yq (y_assign ev_c)) rfl rfl rfl ?_
  refine TL.nil ?_
  refine TN.seq ?_
  refine TC.seq ?_
  refine TC.seq ?_
  refine TC.region ?_
  refine TL.op (yq (y_move (ev_t rfl))) rfl rfl rfl ?_
  refine TL.op (yq (y_len (ev_t rfl) Try.underlying25 (fun w hw => ((ri_arg ha) w hw).ln))) rfl rfl rfl ?_
  refine TL.callr (ι := Value × List Value) (vs := [(.int .i64 (a.length : Int))]) (fun i => i.1) (fun i => [tabI 25 3 i.1 i.2 (F_impl_orders (a.length : Int))]) en_138 ⟨(ev_t rfl), trivial⟩ rfl (fun w hw => impl_orders_ok w (a.length : Int) (by first | assumption | omega | grind)) (fun r3_2 => ?_)
  refine TL.op (yq (y_len (ev_t rfl) Try.underlying22 (fun w hw => ((fun w hw => ((rii_tab 0 rfl) w hw).1) w hw).ln))) rfl rfl rfl ?_
  refine TL.op (yq (y_move ev_c)) rfl rfl rfl ?_
  refine TL.nil ?_
  refine TN.seq ?_
  refine TC.block ?_
  obtain ⟨c56, hc57⟩ : ∃ c, F_impl_Metric_matched_L1 m a b ((((F_impl_orders (a.length : Int)).length) - 0) + 1) (([]), 1073741824, 0) = c := ⟨_, rfl⟩
  rw [hc57] at hF
  refine TC.loop (ι := Nat × List Int × Int × Nat × Value) (fun (fu1, best1, least1, k19_1, vbest1) => [(1, va), (2, vb), (3, (.pointer (some ⟨g0_0, 0, none⟩))), (8, vbest1), (9, (.int .i64 least1)), (17, r3_2.1), (18, (.int .i64 ((F_impl_orders (a.length : Int)).length : Int))), (19, (.int .i64 (k19_1 : Int)))]) (fun (fu1, best1, least1, k19_1, vbest1) => Hp w [tabI 25 3 r3_2.1 r3_2.2 (F_impl_orders (a.length : Int)), .blk g0_0 29 [vm]]) (fun (fu1, best1, least1, k19_1, vbest1) => (k19_1 ≤ ((F_impl_orders (a.length : Int)).length)) ∧ (∀ w', Hp w [tabI 25 3 r3_2.1 r3_2.2 (F_impl_orders (a.length : Int))] w' → Hp w [rowI 3 vbest1 best1] w') ∧ ((F_impl_orders (a.length : Int)).length) - k19_1 < fu1 ∧ F_impl_Metric_matched_L1 m a b fu1 (best1, least1, k19_1) = c56) (fun (fu1, best1, least1, k19_1, vbest1) => fu1) ((((F_impl_orders (a.length : Int)).length) - 0) + 1, [], 1073741824, 0, (.slice none 0 0)) ⟨(by first | omega | (simp [-List.getD_eq_getElem?_getD] <;> omega)), (fun w hw => (Hp.sublist hw (List.nil_sublist _)).nil _ _), (by omega), hc57⟩ ⟨rfl, rfl, rfl, rfl, rfl, rfl, rfl, rfl, trivial⟩ (fun w hw => hw) ?_
  rintro ⟨fu1, best1, least1, k19_1, vbest1⟩ hJ1
  obtain ⟨hi1_0, hrbest1, hmu1, hL1⟩ : (k19_1 ≤ ((F_impl_orders (a.length : Int)).length)) ∧ (∀ w', Hp w [tabI 25 3 r3_2.1 r3_2.2 (F_impl_orders (a.length : Int))] w' → Hp w [rowI 3 vbest1 best1] w') ∧ ((F_impl_orders (a.length : Int)).length) - k19_1 < fu1 ∧ F_impl_Metric_matched_L1 m a b fu1 (best1, least1, k19_1) = c56 := hJ1
  change TC _ _ _ _ (Hp w [tabI 25 3 r3_2.1 r3_2.2 (F_impl_orders (a.length : Int)), .blk g0_0 29 [vm]]) [(1, va), (2, vb), (3, (.pointer (some ⟨g0_0, 0, none⟩))), (8, vbest1), (9, (.int .i64 least1)), (17, r3_2.1), (18, (.int .i64 ((F_impl_orders (a.length : Int)).length : Int))), (19, (.int .i64 (k19_1 : Int)))]
  obtain ⟨mf1, rfl⟩ : ∃ m, fu1 = m + 1 := ⟨fu1 - 1, by omega⟩
  rw [F_impl_Metric_matched_L1_s] at hL1
  have hoj := hor.2.2 k19_1
  refine TC.seq ?_
  refine TC.region ?_
  refine TL.op (yq (y_lss (ev_t rfl) (ev_t rfl))) rfl rfl rfl ?_
  refine TL.nil ?_
  refine TN.seq ?_
  refine TC.seq ?_
  refine TC.cond (b := decide ((k19_1 : Int) < ((F_impl_orders (a.length : Int)).length : Int))) (ev_t rfl) (fun h58 => ?_) (fun h58 => ?_)
  · rw [bif_pos h58] at hL1
    have q59 := (of_decide_eq_true h58)
    refine TC.skip ?_
    refine TN.seq ?_
    refine TC.seq ?_
    refine TC.block ?_
    refine TC.seq ?_
    refine TC.region ?_
    have hb60 : k19_1 < (F_impl_orders (a.length : Int)).length := (by first | omega | (simp only [List.length_set, List.length_append, List.length_cons, List.length_nil, List.length_replicate]; omega) | (rw [sortI_length]; simp only [List.length_cons, List.length_nil]; omega))
    refine TL.op (yq (y_idx (k := k19_1) (ev_t rfl) (ev_t rfl) (by first | omega | simp) slT_22 (fun w hw => ((rii_tab 0 rfl) w hw).1) hb60)) rfl rfl rfl ?_
    refine TL.op (yq (y_ldT 0 (ev_t rfl) one_25 rfl hb60)) rfl rfl rfl ?_
    refine TL.op (yq (y_assign (ev_t rfl))) rfl rfl rfl ?_
    refine TL.nil ?_
    refine TN.seq ?_
    refine TC.seq ?_
    refine TC.region ?_
    refine TL.op (yq (y_assign ev_c)) rfl rfl rfl ?_
    refine TL.nil ?_
    refine TN.seq ?_
    refine TC.seq ?_
    refine TC.seq ?_
    refine TC.region ?_
    refine TL.op (yq (y_move (ev_t rfl))) rfl rfl rfl ?_
    refine TL.op (yq (y_len (ev_t rfl) Try.underlying25 (fun w hw => ((ri_tab 0 k19_1 rfl hb60) w hw).ln))) rfl rfl rfl ?_
    refine TL.op (yq (y_move ev_c)) rfl rfl rfl ?_
    refine TL.nil ?_
    refine TN.seq ?_
    refine TC.block ?_
    obtain ⟨c61, hc62⟩ : ∃ c, F_impl_Metric_matched_L2 m a b k19_1 (((((F_impl_orders (a.length : Int)).getD k19_1 []).length) - 0) + 1) (0, 0) = c := ⟨_, rfl⟩
    rw [hc62] at hL1
    refine TC.loop (ι := Nat × Int × Nat) (fun (fu2, cost2, k25_2) => [(1, va), (2, vb), (3, (.pointer (some ⟨g0_0, 0, none⟩))), (8, vbest1), (9, (.int .i64 least1)), (11, (r3_2.2.getD k19_1 undef)), (12, (.int .i64 cost2)), (17, r3_2.1), (18, (.int .i64 ((F_impl_orders (a.length : Int)).length : Int))), (19, (.int .i64 (k19_1 : Int))), (23, (r3_2.2.getD k19_1 undef)), (24, (.int .i64 (((F_impl_orders (a.length : Int)).getD k19_1 []).length : Int))), (25, (.int .i64 (k25_2 : Int)))]) (fun (fu2, cost2, k25_2) => Hp w [tabI 25 3 r3_2.1 r3_2.2 (F_impl_orders (a.length : Int)), .blk g0_0 29 [vm]]) (fun (fu2, cost2, k25_2) => (k25_2 ≤ (((F_impl_orders (a.length : Int)).getD k19_1 []).length)) ∧ (-99 * (k25_2 : Int) ≤ cost2) ∧ (cost2 ≤ 99 * (k25_2 : Int)) ∧ (((F_impl_orders (a.length : Int)).getD k19_1 []).length) - k25_2 < fu2 ∧ F_impl_Metric_matched_L2 m a b k19_1 fu2 (cost2, k25_2) = c61) (fun (fu2, cost2, k25_2) => fu2) (((((F_impl_orders (a.length : Int)).getD k19_1 []).length) - 0) + 1, 0, 0) ⟨(by first | omega | (simp [-List.getD_eq_getElem?_getD] <;> omega)), (by first | omega | (simp [-List.getD_eq_getElem?_getD] <;> omega)), (by first | omega | (simp [-List.getD_eq_getElem?_getD] <;> omega)), (by omega), hc62⟩ ⟨rfl, rfl, rfl, rfl, rfl, rfl, rfl, rfl, rfl, rfl, rfl, rfl, rfl, trivial⟩ (fun w hw => hw) ?_
    rintro ⟨fu2, cost2, k25_2⟩ hJ2
    obtain ⟨hi2_0, hi2_1, hi2_2, hmu2, hL2⟩ : (k25_2 ≤ (((F_impl_orders (a.length : Int)).getD k19_1 []).length)) ∧ (-99 * (k25_2 : Int) ≤ cost2) ∧ (cost2 ≤ 99 * (k25_2 : Int)) ∧ (((F_impl_orders (a.length : Int)).getD k19_1 []).length) - k25_2 < fu2 ∧ F_impl_Metric_matched_L2 m a b k19_1 fu2 (cost2, k25_2) = c61 := hJ2
    change TC _ _ _ _ (Hp w [tabI 25 3 r3_2.1 r3_2.2 (F_impl_orders (a.length : Int)), .blk g0_0 29 [vm]]) [(1, va), (2, vb), (3, (.pointer (some ⟨g0_0, 0, none⟩))), (8, vbest1), (9, (.int .i64 least1)), (11, (r3_2.2.getD k19_1 undef)), (12, (.int .i64 cost2)), (17, r3_2.1), (18, (.int .i64 ((F_impl_orders (a.length : Int)).length : Int))), (19, (.int .i64 (k19_1 : Int))), (23, (r3_2.2.getD k19_1 undef)), (24, (.int .i64 (((F_impl_orders (a.length : Int)).getD k19_1 []).length : Int))), (25, (.int .i64 (k25_2 : Int)))]
    obtain ⟨mf2, rfl⟩ : ∃ m, fu2 = m + 1 := ⟨fu2 - 1, by omega⟩
    rw [F_impl_Metric_matched_L2_s] at hL2
    have hoe := hoj (by omega)
    have hoe2 := hoe.2 k25_2
    have ha1 := hp1.el k25_2
    have hb1 := hp2.el ((((F_impl_orders (a.length : Int)).getD k19_1 []).getD k25_2 0).toNat)
    have hrw := hp0.rows ((a.getD k25_2 0).toNat)
    have hme := hp0.el ((a.getD k25_2 0).toNat) ((b.getD ((((F_impl_orders (a.length : Int)).getD k19_1 []).getD k25_2 0).toNat) 0).toNat)
    refine TC.seq ?_
    refine TC.region ?_
    refine TL.op (yq (y_lss (ev_t rfl) (ev_t rfl))) rfl rfl rfl ?_
    refine TL.nil ?_
    refine TN.seq ?_
    refine TC.seq ?_
    refine TC.cond (b := decide ((k25_2 : Int) < (((F_impl_orders (a.length : Int)).getD k19_1 []).length : Int))) (ev_t rfl) (fun h63 => ?_) (fun h63 => ?_)
    · rw [bif_pos h63] at hL2
      have q64 := (of_decide_eq_true h63)
      refine TC.skip ?_
      refine TN.seq ?_
      refine TC.seq ?_
      refine TC.block ?_
      refine TC.seq ?_
      refine TC.region ?_
      refine TL.op (yq (y_move (ev_t rfl))) rfl rfl rfl ?_
      have hb65 : k25_2 < ((F_impl_orders (a.length : Int)).getD k19_1 []).length := (by first | omega | (simp only [List.length_set, List.length_append, List.length_cons, List.length_nil, List.length_replicate]; omega) | (rw [sortI_length]; simp only [List.length_cons, List.length_nil]; omega))
      refine TL.op (yq (y_idx (k := k25_2) (ev_t rfl) (ev_t rfl) (by first | omega | simp) slT_25 (ri_tab 0 k19_1 rfl hb60) hb65)) rfl rfl rfl ?_
      refine TL.op (yq (y_ldi (ev_t rfl) one_3 (ri_tab 0 k19_1 rfl hb60) hb65)) rfl rfl rfl ?_
      refine TL.op (yq (y_assign (ev_t rfl))) rfl rfl rfl ?_
      refine TL.op (yq (y_assign (ev_t rfl))) rfl rfl rfl ?_
      refine TL.nil ?_
      refine TN.seq ?_
      refine TC.regionQ (by kernel_rfl) (by kernel_rfl) dr_hp ?_
      refine TQ.op (yq (y_move (ev_t rfl))) rfl rfl rfl ?_
      refine TQ.op (yq (y_fa (fa_29_0 g0_0) (ev_t rfl))) rfl rfl rfl ?_
      refine TQ.op (yq (y_ldb 1 (ev_t rfl) one_22 rfl rfl)) rfl rfl rfl ?_
      refine TQ.op (yq (y_move (ev_t rfl))) rfl rfl rfl ?_
      refine TQ.op (yq (y_move (ev_t rfl))) rfl rfl rfl ?_
      have hb66 : k25_2 < a.length := (by first | omega | (simp only [List.length_set, List.length_append, List.length_cons, List.length_nil, List.length_replicate]; omega) | (rw [sortI_length]; simp only [List.length_cons, List.length_nil]; omega))
      refine TQ.op (yq (y_idx (k := k25_2) (ev_t rfl) (ev_t rfl) (by first | omega | simp) slT_25 (ri_arg ha) hb66)) rfl rfl rfl ?_
      refine TQ.op (yq (y_ldi (ev_t rfl) one_3 (ri_arg ha) hb66)) rfl rfl rfl ?_
      have hb67 : ((a.getD k25_2 0)).toNat < m.length := (by first | omega | (simp only [List.length_set, List.length_append, List.length_cons, List.length_nil, List.length_replicate]; omega) | (rw [sortI_length]; simp only [List.length_cons, List.length_nil]; omega))
      refine TQ.op (yq (y_idx (k := ((a.getD k25_2 0)).toNat) (ev_t rfl) (ev_t rfl) (by first | omega | simp) slT_22 (fun w hw => ((rii_arg hm) w hw).1) hb67)) rfl rfl rfl ?_
      have ha68 := hm.row (i := ((a.getD k25_2 0)).toNat) hb67
      refine TQ.op (yq (y_ldA (ev_t rfl) one_25 (rii_arg hm) hb67)) rfl rfl rfl ?_
      refine TQ.op (yq (y_move (ev_t rfl))) rfl rfl rfl ?_
      refine TQ.op (yq (y_move (ev_t rfl))) rfl rfl rfl ?_
      have hb69 : ((((F_impl_orders (a.length : Int)).getD k19_1 []).getD k25_2 0)).toNat < b.length := (by first | omega | (simp only [List.length_set, List.length_append, List.length_cons, List.length_nil, List.length_replicate]; omega) | (rw [sortI_length]; simp only [List.length_cons, List.length_nil]; omega))
      refine TQ.op (yq (y_idx (k := ((((F_impl_orders (a.length : Int)).getD k19_1 []).getD k25_2 0)).toNat) (ev_t rfl) (ev_t rfl) (by first | omega | simp) slT_25 (ri_arg hb) hb69)) rfl rfl rfl ?_
      refine TQ.op (yq (y_ldi (ev_t rfl) one_3 (ri_arg hb) hb69)) rfl rfl rfl ?_
      have hb70 : ((b.getD (((((F_impl_orders (a.length : Int)).getD k19_1 []).getD k25_2 0)).toNat) 0)).toNat < (m.getD (((a.getD k25_2 0)).toNat) []).length := (by first | omega | (simp only [List.length_set, List.length_append, List.length_cons, List.length_nil, List.length_replicate]; omega) | (rw [sortI_length]; simp only [List.length_cons, List.length_nil]; omega))
      refine TQ.op (yq (y_idx (k := ((b.getD (((((F_impl_orders (a.length : Int)).getD k19_1 []).getD k25_2 0)).toNat) 0)).toNat) (ev_t rfl) (ev_t rfl) (by first | omega | simp) slT_25 (ri_arg ha68) hb70)) rfl rfl rfl ?_
      refine TQ.op (yq (y_ldi (ev_t rfl) one_3 (ri_arg ha68) hb70)) rfl rfl rfl ?_
      refine TQ.op (yq (y_add (ev_t rfl) (ev_t rfl) (by unfold In64; omega))) rfl rfl rfl ?_
      refine TQ.op (yq (y_assign (ev_t rfl))) rfl rfl rfl ?_
      refine TQ.nil ?_
      refine TN.blockN ?_
      refine TN.seq ?_
      refine TC.region ?_
      refine TL.op (yq (y_add (ev_t rfl) ev_c (by unfold In64; omega))) rfl rfl rfl ?_
      refine TL.op (yq (y_move (ev_t rfl))) rfl rfl rfl ?_
      refine TL.nil ?_
      exact TN.hand (mf2, cost2 + ((m.getD (((a.getD k25_2 0)).toNat) []).getD (((b.getD (((((F_impl_orders (a.length : Int)).getD k19_1 []).getD k25_2 0)).toNat) 0)).toNat) 0), (k25_2 + 1)) ⟨(by first | omega | (simp [-List.getD_eq_getElem?_getD] <;> omega)), (by first | omega | (simp [-List.getD_eq_getElem?_getD] <;> omega)), (by first | omega | (simp [-List.getD_eq_getElem?_getD] <;> omega)), (by omega), hL2⟩ (Nat.lt_succ_self _) ⟨rfl, rfl, rfl, rfl, rfl, rfl, rfl, rfl, rfl, rfl, rfl, rfl, rfl, trivial⟩ (fun w hw => hw)
    · rw [bif_neg h63] at hL2
      have q64 := (of_decide_eq_false h63)
      refine TC.exit ?_
      refine TN.thenE ?_
      refine TN.thenE ?_
      rw [← hL2, elim_next] at hL1
      try dsimp only at hL1
      refine TN.blockH ?_
      refine TN.seq ?_
      refine TC.seq ?_
      refine TC.region ?_
      refine TL.op (yq (y_move (ev_t rfl))) rfl rfl rfl ?_
      refine TL.op (yq (y_move (ev_t rfl))) rfl rfl rfl ?_
      refine TL.op (yq (y_lss (ev_t rfl) (ev_t rfl))) rfl rfl rfl ?_
      refine TL.nil ?_
      refine TN.seq ?_
      refine TC.cond (b := decide (cost2 < least1)) (ev_t rfl) (fun h71 => ?_) (fun h71 => ?_)
      · rw [bif_pos h71] at hL1
        have q72 := (of_decide_eq_true h71)
        refine TC.region ?_
        refine TL.op (yq (y_move (ev_t rfl))) rfl rfl rfl ?_
        refine TL.op (yq (y_move (ev_t rfl))) rfl rfl rfl ?_
        refine TL.op (yq (y_assign (ev_t rfl))) rfl rfl rfl ?_
        refine TL.op (yq (y_assign (ev_t rfl))) rfl rfl rfl ?_
        refine TL.nil ?_
        refine TN.blockN ?_
        refine TN.seq ?_
        refine TC.region ?_
        refine TL.op (yq (y_add (ev_t rfl) ev_c (by unfold In64; omega))) rfl rfl rfl ?_
        refine TL.op (yq (y_move (ev_t rfl))) rfl rfl rfl ?_
        refine TL.nil ?_
        exact TN.hand (mf1, ((F_impl_orders (a.length : Int)).getD k19_1 []), cost2, (k19_1 + 1), (r3_2.2.getD k19_1 undef)) ⟨(by first | omega | (simp [-List.getD_eq_getElem?_getD] <;> omega)), (fun w hw => ext_row 0 rfl hb60 hw), (by omega), hL1⟩ (Nat.lt_succ_self _) ⟨rfl, rfl, rfl, rfl, rfl, rfl, rfl, rfl, trivial⟩ (fun w hw => hw)
      · rw [bif_neg h71] at hL1
        have q72 := (of_decide_eq_false h71)
        refine TC.skip ?_
        refine TN.blockN ?_
        refine TN.seq ?_
        refine TC.region ?_
        refine TL.op (yq (y_add (ev_t rfl) ev_c (by unfold In64; omega))) rfl rfl rfl ?_
        refine TL.op (yq (y_move (ev_t rfl))) rfl rfl rfl ?_
        refine TL.nil ?_
        exact TN.hand (mf1, best1, least1, (k19_1 + 1), vbest1) ⟨(by first | omega | (simp [-List.getD_eq_getElem?_getD] <;> omega)), hrbest1, (by omega), hL1⟩ (Nat.lt_succ_self _) ⟨rfl, rfl, rfl, rfl, rfl, rfl, rfl, rfl, trivial⟩ (fun w hw => hw)
  · rw [bif_neg h58] at hL1
    have q59 := (of_decide_eq_false h58)
    refine TC.exit ?_
    refine TN.thenE ?_
    refine TN.thenE ?_
    rw [← hL1, elim_next] at hF
    try dsimp only at hF
    refine TN.blockH ?_
    refine TN.seq ?_
    refine TC.seq ?_
    refine TC.region ?_
    refine TL.op (yq (y_move (ev_t rfl))) rfl rfl rfl ?_
    refine TL.op (yq (y_move (ev_t rfl))) rfl rfl rfl ?_
    refine TL.op (yq (y_assign (ev_t rfl))) rfl rfl rfl ?_
    refine TL.op (yq (y_assign (ev_t rfl))) rfl rfl rfl ?_
    refine TL.nil ?_
    refine TN.seq ?_
    refine TC.ret ?_
    subst hF
    refine TN.cls (fun w hw => hrbest1 w (Hp.sublist hw (.cons_cons _ (.cons _ .slnil)))) ?_
    exact TN.ret2 rfl (ev_t rfl) (ev_t rfl) (fun w' hw => ⟨vbest1, rfl, hw⟩)

set_option maxRecDepth 4000 in
set_option maxHeartbeats 1000000 in
theorem impl_Metric_moveCost_ok (w : World) (vm : Value) (um : List Value) (m : List (List Int)) (hm : RII w vm um m) (va : Value) (a : List Int) (ha : RI w va a) (vb : Value) (b : List Int) (hb : RI w vb b) (hp0 : Tab m) (hp1 : Cf m.length a) (hp2 : Cf m.length b) (hp3 : a.length = b.length) :
    Calls Try.prog 100 ([(.agg #[vm]), va, vb] : List Value).toArray w (Ret (.int .i64 (F_impl_Metric_moveCost m a b)) (Hp w [])) := by
  obtain ⟨rz, hF⟩ : ∃ rz, (F_impl_Metric_moveCost m a b) = rz := ⟨_, rfl⟩
  rw [hF]
  unfold F_impl_Metric_moveCost at hF
  have hlen_m := argT_len hm
  have hlen_a := arg_len ha
  have hlen_b := arg_len hb
  refine calls_tc Try.func100 rfl rfl rfl ?_
  change TC _ _ _ _ (Hp w []) [(0, (.agg #[vm])), (1, va), (2, vb)]
  refine TC.seq ?_
  refine TC.region ?_
  refine TL.box (ev_t rfl) rfl (fun g0_0 => ?_)
  refine TL.op (yq (y_assign ev_c)) rfl rfl rfl ?_
  refine TL.nil ?_
  refine TN.seq ?_
  refine TC.seq ?_
  refine TC.region ?_
  refine TL.op (yq (y_ldagg (cs := [vm]) 0 (ev_t rfl) agg_29 rfl)) rfl rfl rfl ?_
  refine TL.op (yq (y_move (ev_t rfl))) rfl rfl rfl ?_
  refine TL.op (yq (y_move (ev_t rfl))) rfl rfl rfl ?_
  refine TL.callr (ι := Value) (vs := [(.agg #[vm]), va, vb]) (fun i => (.tuple #[i, (.int .i64 ((F_impl_Metric_matched m a b).2))])) (fun i => [rowI 3 i ((F_impl_Metric_matched m a b).1)]) en_124 ⟨(ev_t rfl), (ev_t rfl), (ev_t rfl), trivial⟩ rfl (fun w hw => impl_Metric_matched_ok w vm um m ((rii_arg hm) w hw) va a ((ri_arg ha) w hw) vb b ((ri_arg hb) w hw) (by first | assumption | omega | grind) (by first | assumption | omega | grind) (by first | assumption | omega | grind) (by first | assumption | omega | grind)) (fun r1_3 => ?_)
  refine TL.op (yq (y_move (ev_t rfl))) rfl rfl rfl ?_
  refine TL.op (yq (y_extract (ev_t rfl) rfl)) rfl rfl rfl ?_
  refine TL.op (yq (y_extract (ev_t rfl) rfl)) rfl rfl rfl ?_
  refine TL.op (yq (y_assign (ev_t rfl))) rfl rfl rfl ?_
  refine TL.op (yq (y_assign (ev_t rfl))) rfl rfl rfl ?_
  refine TL.nil ?_
  refine TN.seq ?_
  refine TC.seq ?_
  refine TC.region ?_
  refine TL.op (yq (y_move (ev_t rfl))) rfl rfl rfl ?_
  refine TL.op (yq (y_assign (ev_t rfl))) rfl rfl rfl ?_
  refine TL.nil ?_
  refine TN.seq ?_
  refine TC.ret ?_
  subst hF
  exact TN.ret1 rfl (ev_t rfl) (fun w' hw => ⟨rfl, Hp.sublist hw (List.nil_sublist _)⟩)

set_option maxRecDepth 4000 in
set_option maxHeartbeats 1000000 in
theorem spec_l6Match_ok (w : World) (vm : Value) (um : List Value) (m : List (List Int)) (hm : RII w vm um m) (va : Value) (a : List Int) (ha : RI w va a) (vb : Value) (b : List Int) (hb : RI w vb b) (hp0 : Tab m) (hp1 : Cf m.length a) (hp2 : Cf m.length b) (hp3 : a.length = b.length) :
    Calls Try.prog 113 ([(.agg #[vm]), va, vb] : List Value).toArray w (fun e w' => ∃ i : Value, e = .returned (.tuple #[i, (.int .i64 ((F_spec_l6Match m a b).2))]) ∧ Hp w [rowI 3 i ((F_spec_l6Match m a b).1)] w') := by
  obtain ⟨rz, hF⟩ : ∃ rz, (F_spec_l6Match m a b) = rz := ⟨_, rfl⟩
  rw [hF]
  unfold F_spec_l6Match at hF
  have hn3 := hp1.n3
  have hor := perms_row a.length hp1.n1 hp1.n3
  have hlen_m := argT_len hm
  have hlen_a := arg_len ha
  have hlen_b := arg_len hb
  refine calls_tc Try.func113 rfl rfl rfl ?_
  change TC _ _ _ _ (Hp w []) [(0, (.agg #[vm])), (1, va), (2, vb)]
  refine TC.seq ?_
  refine TC.region ?_
  refine TL.box (ev_t rfl) rfl (fun g0_0 => ?_)
  refine TL.op (yq (y_assign ev_c)) rfl rfl rfl ?_
  refine TL.op (yq (y_assign ev_c)) rfl rfl rfl ?_
  refine TL.nil ?_
  refine TN.seq ?_
  refine TC.seq ?_
  refine TC.region ?_
  refine TL.op (yq (y_move (ev_t rfl))) rfl rfl rfl ?_
  refine TL.op (yq (y_len (ev_t rfl) Try.underlying25 (fun w hw => ((ri_arg ha) w hw).ln))) rfl rfl rfl ?_
  refine TL.callr (ι := Value × List Value) (vs := [(.int .i64 (a.length : Int))]) (fun i => i.1) (fun i => [tabI 25 3 i.1 i.2 (F_spec_l6Perms (a.length : Int))]) en_131 ⟨(ev_t rfl), trivial⟩ rfl (fun w hw => spec_l6Perms_ok w (a.length : Int) (by first | assumption | omega | grind)) (fun r1_2 => ?_)
  refine TL.buildI (zs := []) (qs := []) slT_25 rfl trivial rfl (by decide) rfl (fun v1_3 => ?_)
  refine TL.op (yq (y_assign (ev_t rfl))) rfl rfl rfl ?_
  refine TL.op (yq (y_assign (ev_t rfl))) rfl rfl rfl ?_
  refine TL.op (yq (y_assign ev_c)) rfl rfl rfl ?_
  refine TL.nil ?_
  refine TN.seq ?_
  refine TC.seq ?_
  refine TC.seq ?_
  refine TC.region ?_
  refine TL.op (yq (y_assign ev_c)) rfl rfl rfl ?_
  refine TL.nil ?_
  refine TN.seq ?_
  refine TC.block ?_
  obtain ⟨c61, hc62⟩ : ∃ c, F_spec_l6Match_L1 m a b ((((F_spec_l6Perms (a.length : Int)).length) - 0) + 1) (([] : List Int), (-1), 0) = c := ⟨_, rfl⟩
  rw [hc62] at hF
  refine TC.loop (ι := Nat × List Int × Int × Nat × Value) (fun (fu1, k9_1, k10_1, k11_1, vk9_1) => [(1, va), (2, vb), (3, (.pointer (some ⟨g0_0, 0, none⟩))), (8, r1_2.1), (9, vk9_1), (10, (.int .i64 k10_1)), (11, (.int .i64 (k11_1 : Int)))]) (fun (fu1, k9_1, k10_1, k11_1, vk9_1) => Hp w [rowI 3 v1_3 ([] : List Int), tabI 25 3 r1_2.1 r1_2.2 (F_spec_l6Perms (a.length : Int)), .blk g0_0 29 [vm]]) (fun (fu1, k9_1, k10_1, k11_1, vk9_1) => (k11_1 ≤ ((F_spec_l6Perms (a.length : Int)).length)) ∧ (∀ w', Hp w [rowI 3 v1_3 ([] : List Int), tabI 25 3 r1_2.1 r1_2.2 (F_spec_l6Perms (a.length : Int))] w' → Hp w [rowI 3 vk9_1 k9_1] w') ∧ ((F_spec_l6Perms (a.length : Int)).length) - k11_1 < fu1 ∧ F_spec_l6Match_L1 m a b fu1 (k9_1, k10_1, k11_1) = c61) (fun (fu1, k9_1, k10_1, k11_1, vk9_1) => fu1) ((((F_spec_l6Perms (a.length : Int)).length) - 0) + 1, ([] : List Int), -1, 0, v1_3) ⟨(by first | omega | (simp [-List.getD_eq_getElem?_getD] <;> omega)), (fun w hw => Hp.sublist hw (.cons_cons _ (.cons _ .slnil))), (by omega), hc62⟩ ⟨rfl, rfl, rfl, rfl, rfl, rfl, rfl, trivial⟩ (fun w hw => hw) ?_
  rintro ⟨fu1, k9_1, k10_1, k11_1, vk9_1⟩ hJ1
  obtain ⟨hi1_0, hrk9_1, hmu1, hL1⟩ : (k11_1 ≤ ((F_spec_l6Perms (a.length : Int)).length)) ∧ (∀ w', Hp w [rowI 3 v1_3 ([] : List Int), tabI 25 3 r1_2.1 r1_2.2 (F_spec_l6Perms (a.length : Int))] w' → Hp w [rowI 3 vk9_1 k9_1] w') ∧ ((F_spec_l6Perms (a.length : Int)).length) - k11_1 < fu1 ∧ F_spec_l6Match_L1 m a b fu1 (k9_1, k10_1, k11_1) = c61 := hJ1
  change TC _ _ _ _ (Hp w [rowI 3 v1_3 ([] : List Int), tabI 25 3 r1_2.1 r1_2.2 (F_spec_l6Perms (a.length : Int)), .blk g0_0 29 [vm]]) [(1, va), (2, vb), (3, (.pointer (some ⟨g0_0, 0, none⟩))), (8, r1_2.1), (9, vk9_1), (10, (.int .i64 k10_1)), (11, (.int .i64 (k11_1 : Int)))]
  obtain ⟨mf1, rfl⟩ : ∃ m, fu1 = m + 1 := ⟨fu1 - 1, by omega⟩
  rw [F_spec_l6Match_L1_s] at hL1
  have hoj := hor.2.2 k11_1
  refine TC.seq ?_
  refine TC.seq ?_
  refine TC.region ?_
  refine TL.op (yq (y_move (ev_t rfl))) rfl rfl rfl ?_
  refine TL.op (yq (y_move (ev_t rfl))) rfl rfl rfl ?_
  refine TL.op (yq (y_len (ev_t rfl) Try.underlying22 (fun w hw => ((fun w hw => ((rii_tab 1 rfl) w hw).1) w hw).ln))) rfl rfl rfl ?_
  refine TL.op (yq (y_lss (ev_t rfl) (ev_t rfl))) rfl rfl rfl ?_
  refine TL.nil ?_
  refine TN.seq ?_
  refine TC.cond (b := decide ((k11_1 : Int) < ((F_spec_l6Perms (a.length : Int)).length : Int))) (ev_t rfl) (fun h63 => ?_) (fun h63 => ?_)
  · rw [bif_pos h63] at hL1
    have q64 := (of_decide_eq_true h63)
    refine TC.skip ?_
    refine TN.seq ?_
    refine TC.seq ?_
    refine TC.block ?_
    refine TC.seq ?_
    refine TC.region ?_
    refine TL.op (yq (y_assign ev_c)) rfl rfl rfl ?_
    refine TL.nil ?_
    refine TN.seq ?_
    refine TC.seq ?_
    refine TC.seq ?_
    refine TC.region ?_
    refine TL.op (yq (y_assign ev_c)) rfl rfl rfl ?_
    refine TL.nil ?_
    refine TN.seq ?_
    refine TC.block ?_
    obtain ⟨c65, hc66⟩ : ∃ c, F_spec_l6Match_L2 m a b k11_1 ((a.length - 0) + 1) (0, 0) = c := ⟨_, rfl⟩
    rw [hc66] at hL1
    refine TC.loop (ι := Nat × Int × Nat) (fun (fu2, k12_2, k13_2) => [(1, va), (2, vb), (3, (.pointer (some ⟨g0_0, 0, none⟩))), (8, r1_2.1), (9, vk9_1), (10, (.int .i64 k10_1)), (11, (.int .i64 (k11_1 : Int))), (12, (.int .i64 k12_2)), (13, (.int .i64 (k13_2 : Int)))]) (fun (fu2, k12_2, k13_2) => Hp w [rowI 3 v1_3 ([] : List Int), tabI 25 3 r1_2.1 r1_2.2 (F_spec_l6Perms (a.length : Int)), .blk g0_0 29 [vm]]) (fun (fu2, k12_2, k13_2) => (k13_2 ≤ a.length) ∧ (-99 * (k13_2 : Int) ≤ k12_2) ∧ (k12_2 ≤ 99 * (k13_2 : Int)) ∧ a.length - k13_2 < fu2 ∧ F_spec_l6Match_L2 m a b k11_1 fu2 (k12_2, k13_2) = c65) (fun (fu2, k12_2, k13_2) => fu2) ((a.length - 0) + 1, 0, 0) ⟨(by first | omega | (simp [-List.getD_eq_getElem?_getD] <;> omega)), (by first | omega | (simp [-List.getD_eq_getElem?_getD] <;> omega)), (by first | omega | (simp [-List.getD_eq_getElem?_getD] <;> omega)), (by omega), hc66⟩ ⟨rfl, rfl, rfl, rfl, rfl, rfl, rfl, rfl, rfl, trivial⟩ (fun w hw => hw) ?_
    rintro ⟨fu2, k12_2, k13_2⟩ hJ2
    obtain ⟨hi2_0, hi2_1, hi2_2, hmu2, hL2⟩ : (k13_2 ≤ a.length) ∧ (-99 * (k13_2 : Int) ≤ k12_2) ∧ (k12_2 ≤ 99 * (k13_2 : Int)) ∧ a.length - k13_2 < fu2 ∧ F_spec_l6Match_L2 m a b k11_1 fu2 (k12_2, k13_2) = c65 := hJ2
    change TC _ _ _ _ (Hp w [rowI 3 v1_3 ([] : List Int), tabI 25 3 r1_2.1 r1_2.2 (F_spec_l6Perms (a.length : Int)), .blk g0_0 29 [vm]]) [(1, va), (2, vb), (3, (.pointer (some ⟨g0_0, 0, none⟩))), (8, r1_2.1), (9, vk9_1), (10, (.int .i64 k10_1)), (11, (.int .i64 (k11_1 : Int))), (12, (.int .i64 k12_2)), (13, (.int .i64 (k13_2 : Int)))]
    obtain ⟨mf2, rfl⟩ : ∃ m, fu2 = m + 1 := ⟨fu2 - 1, by omega⟩
    rw [F_spec_l6Match_L2_s] at hL2
    have hoe := hoj (by omega)
    have hoe2 := hoe.2 k13_2
    have ha1 := hp1.el k13_2
    have hb1 := hp2.el ((((F_spec_l6Perms (a.length : Int)).getD k11_1 []).getD k13_2 0).toNat)
    have hrw := hp0.rows ((a.getD k13_2 0).toNat)
    have hme := hp0.el ((a.getD k13_2 0).toNat) ((b.getD ((((F_spec_l6Perms (a.length : Int)).getD k11_1 []).getD k13_2 0).toNat) 0).toNat)
    refine TC.seq ?_
    refine TC.seq ?_
    refine TC.region ?_
    refine TL.op (yq (y_move (ev_t rfl))) rfl rfl rfl ?_
    refine TL.op (yq (y_move (ev_t rfl))) rfl rfl rfl ?_
    refine TL.op (yq (y_len (ev_t rfl) Try.underlying25 (fun w hw => ((ri_arg ha) w hw).ln))) rfl rfl rfl ?_
    refine TL.op (yq (y_lss (ev_t rfl) (ev_t rfl))) rfl rfl rfl ?_
    refine TL.nil ?_
    refine TN.seq ?_
    refine TC.cond (b := decide ((k13_2 : Int) < (a.length : Int))) (ev_t rfl) (fun h67 => ?_) (fun h67 => ?_)
    · rw [bif_pos h67] at hL2
      have q68 := (of_decide_eq_true h67)
      refine TC.skip ?_
      refine TN.seq ?_
      refine TC.seq ?_
      refine TC.block ?_
      refine TC.regionQ (by kernel_rfl) (by kernel_rfl) dr_hp ?_
      refine TQ.op (yq (y_move (ev_t rfl))) rfl rfl rfl ?_
      refine TQ.op (yq (y_fa (fa_29_0 g0_0) (ev_t rfl))) rfl rfl rfl ?_
      refine TQ.op (yq (y_ldb 2 (ev_t rfl) one_22 rfl rfl)) rfl rfl rfl ?_
      refine TQ.op (yq (y_move (ev_t rfl))) rfl rfl rfl ?_
      refine TQ.op (yq (y_move (ev_t rfl))) rfl rfl rfl ?_
      have hb69 : k13_2 < a.length := (by first | omega | (simp only [List.length_set, List.length_append, List.length_cons, List.length_nil, List.length_replicate]; omega) | (rw [sortI_length]; simp only [List.length_cons, List.length_nil]; omega))
      refine TQ.op (yq (y_idx (k := k13_2) (ev_t rfl) (ev_t rfl) (by first | omega | simp) slT_25 (ri_arg ha) hb69)) rfl rfl rfl ?_
      refine TQ.op (yq (y_ldi (ev_t rfl) one_3 (ri_arg ha) hb69)) rfl rfl rfl ?_
      have hb70 : ((a.getD k13_2 0)).toNat < m.length := (by first | omega | (simp only [List.length_set, List.length_append, List.length_cons, List.length_nil, List.length_replicate]; omega) | (rw [sortI_length]; simp only [List.length_cons, List.length_nil]; omega))
      refine TQ.op (yq (y_idx (k := ((a.getD k13_2 0)).toNat) (ev_t rfl) (ev_t rfl) (by first | omega | simp) slT_22 (fun w hw => ((rii_arg hm) w hw).1) hb70)) rfl rfl rfl ?_
      have ha71 := hm.row (i := ((a.getD k13_2 0)).toNat) hb70
      refine TQ.op (yq (y_ldA (ev_t rfl) one_25 (rii_arg hm) hb70)) rfl rfl rfl ?_
      refine TQ.op (yq (y_move (ev_t rfl))) rfl rfl rfl ?_
      refine TQ.op (yq (y_move (ev_t rfl))) rfl rfl rfl ?_
      refine TQ.op (yq (y_move (ev_t rfl))) rfl rfl rfl ?_
      have hb72 : k11_1 < (F_spec_l6Perms (a.length : Int)).length := (by first | omega | (simp only [List.length_set, List.length_append, List.length_cons, List.length_nil, List.length_replicate]; omega) | (rw [sortI_length]; simp only [List.length_cons, List.length_nil]; omega))
      refine TQ.op (yq (y_idx (k := k11_1) (ev_t rfl) (ev_t rfl) (by first | omega | simp) slT_22 (fun w hw => ((rii_tab 1 rfl) w hw).1) hb72)) rfl rfl rfl ?_
      refine TQ.op (yq (y_ldT 1 (ev_t rfl) one_25 rfl hb72)) rfl rfl rfl ?_
      refine TQ.op (yq (y_move (ev_t rfl))) rfl rfl rfl ?_
      have hb73 : k13_2 < ((F_spec_l6Perms (a.length : Int)).getD k11_1 []).length := (by first | omega | (simp only [List.length_set, List.length_append, List.length_cons, List.length_nil, List.length_replicate]; omega) | (rw [sortI_length]; simp only [List.length_cons, List.length_nil]; omega))
      refine TQ.op (yq (y_idx (k := k13_2) (ev_t rfl) (ev_t rfl) (by first | omega | simp) slT_25 (ri_tab 1 k11_1 rfl hb72) hb73)) rfl rfl rfl ?_
      refine TQ.op (yq (y_ldi (ev_t rfl) one_3 (ri_tab 1 k11_1 rfl hb72) hb73)) rfl rfl rfl ?_
      have hb74 : ((((F_spec_l6Perms (a.length : Int)).getD k11_1 []).getD k13_2 0)).toNat < b.length := (by first | omega | (simp only [List.length_set, List.length_append, List.length_cons, List.length_nil, List.length_replicate]; omega) | (rw [sortI_length]; simp only [List.length_cons, List.length_nil]; omega))
      refine TQ.op (yq (y_idx (k := ((((F_spec_l6Perms (a.length : Int)).getD k11_1 []).getD k13_2 0)).toNat) (ev_t rfl) (ev_t rfl) (by first | omega | simp) slT_25 (ri_arg hb) hb74)) rfl rfl rfl ?_
      refine TQ.op (yq (y_ldi (ev_t rfl) one_3 (ri_arg hb) hb74)) rfl rfl rfl ?_
      have hb75 : ((b.getD (((((F_spec_l6Perms (a.length : Int)).getD k11_1 []).getD k13_2 0)).toNat) 0)).toNat < (m.getD (((a.getD k13_2 0)).toNat) []).length := (by first | omega | (simp only [List.length_set, List.length_append, List.length_cons, List.length_nil, List.length_replicate]; omega) | (rw [sortI_length]; simp only [List.length_cons, List.length_nil]; omega))
      refine TQ.op (yq (y_idx (k := ((b.getD (((((F_spec_l6Perms (a.length : Int)).getD k11_1 []).getD k13_2 0)).toNat) 0)).toNat) (ev_t rfl) (ev_t rfl) (by first | omega | simp) slT_25 (ri_arg ha71) hb75)) rfl rfl rfl ?_
      refine TQ.op (yq (y_ldi (ev_t rfl) one_3 (ri_arg ha71) hb75)) rfl rfl rfl ?_
      refine TQ.op (yq (y_add (ev_t rfl) (ev_t rfl) (by unfold In64; omega))) rfl rfl rfl ?_
      refine TQ.op (yq (y_assign (ev_t rfl))) rfl rfl rfl ?_
      refine TQ.nil ?_
      refine TN.blockN ?_
      refine TN.seq ?_
      refine TC.region ?_
      refine TL.op (yq (y_move (ev_t rfl))) rfl rfl rfl ?_
      refine TL.op (yq (y_add (ev_t rfl) ev_c (by unfold In64; omega))) rfl rfl rfl ?_
      refine TL.op (yq (y_assign (ev_t rfl))) rfl rfl rfl ?_
      refine TL.nil ?_
      exact TN.hand (mf2, k12_2 + ((m.getD (((a.getD k13_2 0)).toNat) []).getD (((b.getD (((((F_spec_l6Perms (a.length : Int)).getD k11_1 []).getD k13_2 0)).toNat) 0)).toNat) 0), (k13_2 + 1)) ⟨(by first | omega | (simp [-List.getD_eq_getElem?_getD] <;> omega)), (by first | omega | (simp [-List.getD_eq_getElem?_getD] <;> omega)), (by first | omega | (simp [-List.getD_eq_getElem?_getD] <;> omega)), (by omega), hL2⟩ (Nat.lt_succ_self _) ⟨rfl, rfl, rfl, rfl, rfl, rfl, rfl, rfl, rfl, trivial⟩ (fun w hw => hw)
    · rw [bif_neg h67] at hL2
      have q68 := (of_decide_eq_false h67)
      refine TC.exit ?_
      refine TN.thenE ?_
      refine TN.thenE ?_
      rw [← hL2, elim_next] at hL1
      try dsimp only at hL1
      refine TN.blockH ?_
      refine TN.seq ?_
      refine TC.seq ?_
      refine TC.region ?_
      refine TL.op (yq (y_move (ev_t rfl))) rfl rfl rfl ?_
      refine TL.op (yq (y_lss (ev_t rfl) ev_c)) rfl rfl rfl ?_
      refine TL.op (yq (y_move (ev_t rfl))) rfl rfl rfl ?_
      refine TL.opw (w_f rfl rfl rfl) (fun hg => yq (y_move (ev_t rfl))) rfl rfl ?_
      refine TL.opw (w_f rfl rfl rfl) (fun hg => yq (y_move (ev_t rfl))) rfl rfl ?_
      refine TL.opw (w_f rfl rfl rfl) (fun hg => yq (y_lss (ev_g rfl hg) (ev_g rfl hg))) rfl rfl ?_
      refine TL.op (yq (y_or (ev_t rfl) (fun hq => (ev_g rfl hq)))) rfl rfl rfl ?_
      refine TL.nil ?_
      refine TN.seq ?_
      refine TC.cond (b := ((decide (k10_1 < 0)) || (decide (k12_2 < k10_1)))) (ev_t rfl) (fun h76 => ?_) (fun h76 => ?_)
      · rw [bif_pos h76] at hL1
        have q77 := ((or_t h76).imp (fun h => (of_decide_eq_true h)) (fun h => (of_decide_eq_true h)))
        refine TC.seq ?_
        refine TC.region ?_
        refine TL.op (yq (y_move (ev_t rfl))) rfl rfl rfl ?_
        refine TL.op (yq (y_move (ev_t rfl))) rfl rfl rfl ?_
        have hb78 : k11_1 < (F_spec_l6Perms (a.length : Int)).length := (by first | omega | (simp only [List.length_set, List.length_append, List.length_cons, List.length_nil, List.length_replicate]; omega) | (rw [sortI_length]; simp only [List.length_cons, List.length_nil]; omega))
        refine TL.op (yq (y_idx (k := k11_1) (ev_t rfl) (ev_t rfl) (by first | omega | simp) slT_22 (fun w hw => ((rii_tab 1 rfl) w hw).1) hb78)) rfl rfl rfl ?_
        refine TL.op (yq (y_ldT 1 (ev_t rfl) one_25 rfl hb78)) rfl rfl rfl ?_
        refine TL.op (yq (y_assign (ev_t rfl))) rfl rfl rfl ?_
        refine TL.nil ?_
        refine TN.seq ?_
        refine TC.region ?_
        refine TL.op (yq (y_move (ev_t rfl))) rfl rfl rfl ?_
        refine TL.op (yq (y_assign (ev_t rfl))) rfl rfl rfl ?_
        refine TL.nil ?_
        refine TN.blockN ?_
        refine TN.seq ?_
        refine TC.region ?_
        refine TL.op (yq (y_move (ev_t rfl))) rfl rfl rfl ?_
        refine TL.op (yq (y_add (ev_t rfl) ev_c (by unfold In64; omega))) rfl rfl rfl ?_
        refine TL.op (yq (y_assign (ev_t rfl))) rfl rfl rfl ?_
        refine TL.nil ?_
        exact TN.hand (mf1, ((F_spec_l6Perms (a.length : Int)).getD k11_1 []), k12_2, (k11_1 + 1), (r1_2.2.getD k11_1 undef)) ⟨(by first | omega | (simp [-List.getD_eq_getElem?_getD] <;> omega)), (fun w hw => ext_row 1 rfl hb78 hw), (by omega), hL1⟩ (Nat.lt_succ_self _) ⟨rfl, rfl, rfl, rfl, rfl, rfl, rfl, trivial⟩ (fun w hw => hw)
      · rw [bif_neg h76] at hL1
        have q77 := (and_imp (or_f h76) (fun h => (of_decide_eq_false h)) (fun h => (of_decide_eq_false h)))
        refine TC.skip ?_
        refine TN.blockN ?_
        refine TN.seq ?_
        refine TC.region ?_
        refine TL.op (yq (y_move (ev_t rfl))) rfl rfl rfl ?_
        refine TL.op (yq (y_add (ev_t rfl) ev_c (by unfold In64; omega))) rfl rfl rfl ?_
        refine TL.op (yq (y_assign (ev_t rfl))) rfl rfl rfl ?_
        refine TL.nil ?_
        exact TN.hand (mf1, k9_1, k10_1, (k11_1 + 1), vk9_1) ⟨(by first | omega | (simp [-List.getD_eq_getElem?_getD] <;> omega)), hrk9_1, (by omega), hL1⟩ (Nat.lt_succ_self _) ⟨rfl, rfl, rfl, rfl, rfl, rfl, rfl, trivial⟩ (fun w hw => hw)
  · rw [bif_neg h63] at hL1
    have q64 := (of_decide_eq_false h63)
    refine TC.exit ?_
    refine TN.thenE ?_
    refine TN.thenE ?_
    rw [← hL1, elim_next] at hF
    try dsimp only at hF
    refine TN.blockH ?_
    refine TN.seq ?_
    refine TC.seq ?_
    refine TC.region ?_
    refine TL.op (yq (y_move (ev_t rfl))) rfl rfl rfl ?_
    refine TL.op (yq (y_move (ev_t rfl))) rfl rfl rfl ?_
    refine TL.op (yq (y_assign (ev_t rfl))) rfl rfl rfl ?_
    refine TL.op (yq (y_assign (ev_t rfl))) rfl rfl rfl ?_
    refine TL.nil ?_
    refine TN.seq ?_
    refine TC.ret ?_
    subst hF
    refine TN.cls (fun w hw => hrk9_1 w (Hp.sublist hw (.cons_cons _ (.cons_cons _ (.cons _ .slnil))))) ?_
    exact TN.ret2 rfl (ev_t rfl) (ev_t rfl) (fun w' hw => ⟨vk9_1, rfl, hw⟩)

set_option maxRecDepth 4000 in
set_option maxHeartbeats 1000000 in
theorem spec_l6Move_ok (w : World) (vm : Value) (um : List Value) (m : List (List Int)) (hm : RII w vm um m) (va : Value) (a : List Int) (ha : RI w va a) (vb : Value) (b : List Int) (hb : RI w vb b) (hp0 : Tab m) (hp1 : Cf m.length a) (hp2 : Cf m.length b) (hp3 : a.length = b.length) :
    Calls Try.prog 76 ([(.agg #[vm]), va, vb] : List Value).toArray w (Ret (.int .i64 (F_spec_l6Move m a b)) (Hp w [])) := by
  obtain ⟨rz, hF⟩ : ∃ rz, (F_spec_l6Move m a b) = rz := ⟨_, rfl⟩
  rw [hF]
  unfold F_spec_l6Move at hF
  have hlen_m := argT_len hm
  have hlen_a := arg_len ha
  have hlen_b := arg_len hb
  refine calls_tc Try.func76 rfl rfl rfl ?_
  change TC _ _ _ _ (Hp w []) [(0, (.agg #[vm])), (1, va), (2, vb)]
  refine TC.seq ?_
  refine TC.region ?_
  refine TL.box (ev_t rfl) rfl (fun g0_0 => ?_)
  refine TL.op (yq (y_assign ev_c)) rfl rfl rfl ?_
  refine TL.nil ?_
  refine TN.seq ?_
  refine TC.seq ?_
  refine TC.region ?_
  refine TL.op (yq (y_ldagg (cs := [vm]) 0 (ev_t rfl) agg_29 rfl)) rfl rfl rfl ?_
  refine TL.op (yq (y_move (ev_t rfl))) rfl rfl rfl ?_
  refine TL.op (yq (y_move (ev_t rfl))) rfl rfl rfl ?_
  refine TL.callr (ι := Value) (vs := [(.agg #[vm]), va, vb]) (fun i => (.tuple #[i, (.int .i64 ((F_spec_l6Match m a b).2))])) (fun i => [rowI 3 i ((F_spec_l6Match m a b).1)]) en_113 ⟨(ev_t rfl), (ev_t rfl), (ev_t rfl), trivial⟩ rfl (fun w hw => spec_l6Match_ok w vm um m ((rii_arg hm) w hw) va a ((ri_arg ha) w hw) vb b ((ri_arg hb) w hw) (by first | assumption | omega | grind) (by first | assumption | omega | grind) (by first | assumption | omega | grind) (by first | assumption | omega | grind)) (fun r1_3 => ?_)
  refine TL.op (yq (y_move (ev_t rfl))) rfl rfl rfl ?_
  refine TL.op (yq (y_extract (ev_t rfl) rfl)) rfl rfl rfl ?_
  refine TL.op (yq (y_extract (ev_t rfl) rfl)) rfl rfl rfl ?_
  refine TL.op (yq (y_assign (ev_t rfl))) rfl rfl rfl ?_
  refine TL.op (yq (y_assign (ev_t rfl))) rfl rfl rfl ?_
  refine TL.nil ?_
  refine TN.seq ?_
  refine TC.seq ?_
  refine TC.region ?_
  refine TL.op (yq (y_move (ev_t rfl))) rfl rfl rfl ?_
  refine TL.op (yq (y_assign (ev_t rfl))) rfl rfl rfl ?_
  refine TL.nil ?_
  refine TN.seq ?_
  refine TC.ret ?_
  subst hF
  exact TN.ret1 rfl (ev_t rfl) (fun w' hw => ⟨rfl, Hp.sublist hw (List.nil_sublist _)⟩)


end Go.Proofs.Ytilmadapmcnlgaa
