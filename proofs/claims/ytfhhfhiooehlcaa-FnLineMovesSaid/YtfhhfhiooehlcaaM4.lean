/-
  Walks of functions of the program: each computes its plain function. No condition but the bounds that are typed.
-/
import Derived.Test.YtfhhfhiooehlcaaM3
namespace Go.Proofs.Ytfhhfhiooehlcaa
open Go Go.RowKit
set_option linter.unusedVariables false

set_option maxRecDepth 4000 in
set_option maxHeartbeats 1000000 in
theorem impl_orders_ok (w : World) (k : Int) (hp0 : k ≤ 3) :
    Calls Try.prog 113 ([(.int .i64 k)] : List Value).toArray w (fun e w' => ∃ i : Value × List Value, e = .returned i.1 ∧ Hp w [tabI 34 3 i.1 i.2 (F_impl_orders k)] w') := by
  obtain ⟨rz, hF⟩ : ∃ rz, (F_impl_orders k) = rz := ⟨_, rfl⟩
  rw [hF]
  unfold F_impl_orders at hF
  refine calls_tc Try.func113 rfl rfl rfl ?_
  change TC _ _ _ _ (Hp w []) [(0, (.int .i64 k))]
  refine TC.seq ?_
  refine TC.region ?_
  refine TL.op (yq (y_assign ev_c)) rfl rfl rfl ?_
  refine TL.nil ?_
  refine TN.seq ?_
  refine TC.seq ?_
  refine TC.region ?_
  refine TL.buildI (zs := []) (qs := []) slT_34 rfl trivial rfl (by decide) rfl (fun v1_0 => ?_)
  refine TL.buildU slT_43 (ev_t rfl) (fun w hw => ((ri_row 0 rfl) w hw).ln) rfl (fun v1_1 => ?_)
  refine TL.cls (fun w hw => hw.uniTab 0 1 rfl rfl rfl) ?_
  refine TL.op (yq (y_assign (ev_t rfl))) rfl rfl rfl ?_
  refine TL.nil ?_
  refine TN.seq ?_
  refine TC.seq ?_
  refine TC.seq ?_
  refine TC.region ?_
  refine TL.op (yq (y_move (ev_t rfl))) rfl rfl rfl ?_
  refine TL.op (yq (y_move ev_c)) rfl rfl rfl ?_
  refine TL.nil ?_
  refine TN.seq ?_
  refine TC.block ?_
  obtain ⟨c30, hc31⟩ : ∃ c, F_impl_orders_L1 k ((((k).toNat) - 0) + 1) (([([] : List Int)]), 0) = c := ⟨_, rfl⟩
  rw [hc31] at hF
  refine TC.loop (ι := Nat × List (List Int) × Nat × Value × List Value) (fun (fu1, out1, k11_1, vout1, uout1) => [(0, (.int .i64 k)), (3, vout1), (10, (.int .i64 k)), (11, (.int .i64 (k11_1 : Int)))]) (fun (fu1, out1, k11_1, vout1, uout1) => Hp w [tabI 34 3 vout1 uout1 out1]) (fun (fu1, out1, k11_1, vout1, uout1) => (k11_1 ≤ ((k).toNat)) ∧ (out1.length ≤ 3 ^ k11_1) ∧ (∀ j, (out1.getD j []).length ≤ k11_1) ∧ ((k).toNat) - k11_1 < fu1 ∧ F_impl_orders_L1 k fu1 (out1, k11_1) = c30) (fun (fu1, out1, k11_1, vout1, uout1) => fu1) ((((k).toNat) - 0) + 1, [([] : List Int)], 0, v1_1, [v1_0]) ⟨(by first | omega | (simp [-List.getD_eq_getElem?_getD] <;> omega)), (by simp), (fun j => by cases j <;> simp), (by omega), hc31⟩ ⟨rfl, rfl, rfl, rfl, trivial⟩ (fun w hw => Hp.sublist hw (.cons_cons _ (.cons _ .slnil))) ?_
  rintro ⟨fu1, out1, k11_1, vout1, uout1⟩ hJ1
  obtain ⟨hi1_0, hi1_1, hi1_2, hmu1, hL1⟩ : (k11_1 ≤ ((k).toNat)) ∧ (out1.length ≤ 3 ^ k11_1) ∧ (∀ j, (out1.getD j []).length ≤ k11_1) ∧ ((k).toNat) - k11_1 < fu1 ∧ F_impl_orders_L1 k fu1 (out1, k11_1) = c30 := hJ1
  change TC _ _ _ _ (Hp w [tabI 34 3 vout1 uout1 out1]) [(0, (.int .i64 k)), (3, vout1), (10, (.int .i64 k)), (11, (.int .i64 (k11_1 : Int)))]
  obtain ⟨mf1, rfl⟩ : ∃ m, fu1 = m + 1 := ⟨fu1 - 1, by omega⟩
  rw [F_impl_orders_L1_s] at hL1
  have hpw : 3 ^ k11_1 ≤ 3 ^ 3 := Nat.pow_le_pow_right (by decide) (by omega)
  refine TC.seq ?_
  refine TC.region ?_
  refine TL.op (yq (y_lss (ev_t rfl) (ev_t rfl))) rfl rfl rfl ?_
  refine TL.nil ?_
  refine TN.seq ?_
  refine TC.seq ?_
  refine TC.cond (b := decide ((k11_1 : Int) < k)) (ev_t rfl) (fun h32 => ?_) (fun h32 => ?_)
  · rw [bif_pos h32] at hL1
    have q33 := (of_decide_eq_true h32)
    refine TC.skip ?_
    refine TN.seq ?_
    refine TC.seq ?_
    refine TC.block ?_
    refine TC.seq ?_
    refine TC.region ?_
    refine TL.buildSlice (zs := []) (vs := []) slT_43 rfl trivial (by simp) rfl (by decide) rfl (fun v4_0 => ?_)
    refine TL.cls (fun w hw => hw.emptyTab 3) ?_
    refine TL.op (yq (y_assign (ev_t rfl))) rfl rfl rfl ?_
    refine TL.nil ?_
    refine TN.seq ?_
    refine TC.seq ?_
    refine TC.seq ?_
    refine TC.region ?_
    refine TL.op (yq (y_move (ev_t rfl))) rfl rfl rfl ?_
    refine TL.op (yq (y_len (ev_t rfl) Try.underlying43 (fun w hw => ((fun w hw => ((rii_tab 1 rfl) w hw).1) w hw).ln))) rfl rfl rfl ?_
    refine TL.op (yq (y_move ev_c)) rfl rfl rfl ?_
    refine TL.nil ?_
    refine TN.seq ?_
    refine TC.block ?_
    obtain ⟨c34, hc35⟩ : ∃ c, F_impl_orders_L2 k out1 ((out1.length - 0) + 1) (([]), 0) = c := ⟨_, rfl⟩
    rw [hc35] at hL1
    refine TC.loop (ι := Nat × List (List Int) × Nat × Value × List Value) (fun (fu2, next2, k16_2, vnext2, unext2) => [(0, (.int .i64 k)), (4, vnext2), (10, (.int .i64 k)), (11, (.int .i64 (k11_1 : Int))), (14, vout1), (15, (.int .i64 (out1.length : Int))), (16, (.int .i64 (k16_2 : Int)))]) (fun (fu2, next2, k16_2, vnext2, unext2) => Hp w [tabI 34 3 vnext2 unext2 next2, tabI 34 3 vout1 uout1 out1]) (fun (fu2, next2, k16_2, vnext2, unext2) => (k16_2 ≤ out1.length) ∧ (next2.length ≤ 3 * k16_2) ∧ (∀ j, (next2.getD j []).length ≤ k11_1 + 1) ∧ out1.length - k16_2 < fu2 ∧ F_impl_orders_L2 k out1 fu2 (next2, k16_2) = c34) (fun (fu2, next2, k16_2, vnext2, unext2) => fu2) ((out1.length - 0) + 1, [], 0, v4_0, []) ⟨(by first | omega | (simp [-List.getD_eq_getElem?_getD] <;> omega)), (by first | omega | (simp [-List.getD_eq_getElem?_getD] <;> omega)), (fun j => by simp), (by omega), hc35⟩ ⟨rfl, rfl, rfl, rfl, rfl, rfl, rfl, trivial⟩ (fun w hw => hw) ?_
    rintro ⟨fu2, next2, k16_2, vnext2, unext2⟩ hJ2
    obtain ⟨hi2_0, hi2_1, hi2_2, hmu2, hL2⟩ : (k16_2 ≤ out1.length) ∧ (next2.length ≤ 3 * k16_2) ∧ (∀ j, (next2.getD j []).length ≤ k11_1 + 1) ∧ out1.length - k16_2 < fu2 ∧ F_impl_orders_L2 k out1 fu2 (next2, k16_2) = c34 := hJ2
    change TC _ _ _ _ (Hp w [tabI 34 3 vnext2 unext2 next2, tabI 34 3 vout1 uout1 out1]) [(0, (.int .i64 k)), (4, vnext2), (10, (.int .i64 k)), (11, (.int .i64 (k11_1 : Int))), (14, vout1), (15, (.int .i64 (out1.length : Int))), (16, (.int .i64 (k16_2 : Int)))]
    obtain ⟨mf2, rfl⟩ : ∃ m, fu2 = m + 1 := ⟨fu2 - 1, by omega⟩
    rw [F_impl_orders_L2_s] at hL2
    have hol := hi1_2 k16_2
    refine TC.seq ?_
    refine TC.region ?_
    refine TL.op (yq (y_lss (ev_t rfl) (ev_t rfl))) rfl rfl rfl ?_
    refine TL.nil ?_
    refine TN.seq ?_
    refine TC.seq ?_
    refine TC.cond (b := decide ((k16_2 : Int) < (out1.length : Int))) (ev_t rfl) (fun h36 => ?_) (fun h36 => ?_)
    · rw [bif_pos h36] at hL2
      have q37 := (of_decide_eq_true h36)
      refine TC.skip ?_
      refine TN.seq ?_
      refine TC.seq ?_
      refine TC.block ?_
      refine TC.seq ?_
      refine TC.region ?_
      have hb38 : k16_2 < out1.length := (by first | omega | (simp only [List.length_set, List.length_append, List.length_cons, List.length_nil, List.length_replicate]; omega) | (rw [sortI_length]; simp only [List.length_cons, List.length_nil]; omega))
      refine TL.op (yq (y_idx (k := k16_2) (ev_t rfl) (ev_t rfl) (by first | omega | simp) slT_43 (fun w hw => ((rii_tab 1 rfl) w hw).1) hb38)) rfl rfl rfl ?_
      refine TL.op (yq (y_ldT 1 (ev_t rfl) one_34 rfl hb38)) rfl rfl rfl ?_
      refine TL.op (yq (y_assign (ev_t rfl))) rfl rfl rfl ?_
      refine TL.nil ?_
      refine TN.seq ?_
      refine TC.seq ?_
      refine TC.region ?_
      refine TL.op (yq (y_move (ev_t rfl))) rfl rfl rfl ?_
      refine TL.op (yq (y_move ev_c)) rfl rfl rfl ?_
      refine TL.nil ?_
      refine TN.seq ?_
      refine TC.block ?_
      obtain ⟨c39, hc40⟩ : ∃ c, F_impl_orders_L3 k out1 k16_2 ((((k).toNat) - 0) + 1) (next2, 0) = c := ⟨_, rfl⟩
      rw [hc40] at hL2
      refine TC.loop (ι := Nat × List (List Int) × Nat × Value × List Value) (fun (fu3, next3, k21_3, vnext3, unext3) => [(0, (.int .i64 k)), (4, vnext3), (6, (uout1.getD k16_2 undef)), (10, (.int .i64 k)), (11, (.int .i64 (k11_1 : Int))), (14, vout1), (15, (.int .i64 (out1.length : Int))), (16, (.int .i64 (k16_2 : Int))), (20, (.int .i64 k)), (21, (.int .i64 (k21_3 : Int)))]) (fun (fu3, next3, k21_3, vnext3, unext3) => Hp w [tabI 34 3 vnext3 unext3 next3, tabI 34 3 vout1 uout1 out1]) (fun (fu3, next3, k21_3, vnext3, unext3) => (k21_3 ≤ ((k).toNat)) ∧ (next3.length ≤ next2.length + k21_3) ∧ (∀ j, (next3.getD j []).length ≤ k11_1 + 1) ∧ ((k).toNat) - k21_3 < fu3 ∧ F_impl_orders_L3 k out1 k16_2 fu3 (next3, k21_3) = c39) (fun (fu3, next3, k21_3, vnext3, unext3) => fu3) ((((k).toNat) - 0) + 1, next2, 0, vnext2, unext2) ⟨(by first | omega | (simp [-List.getD_eq_getElem?_getD] <;> omega)), (by first | omega | (simp [-List.getD_eq_getElem?_getD] <;> omega)), hi2_2, (by omega), hc40⟩ ⟨rfl, rfl, rfl, rfl, rfl, rfl, rfl, rfl, rfl, rfl, trivial⟩ (fun w hw => hw) ?_
      rintro ⟨fu3, next3, k21_3, vnext3, unext3⟩ hJ3
      obtain ⟨hi3_0, hi3_1, hi3_2, hmu3, hL3⟩ : (k21_3 ≤ ((k).toNat)) ∧ (next3.length ≤ next2.length + k21_3) ∧ (∀ j, (next3.getD j []).length ≤ k11_1 + 1) ∧ ((k).toNat) - k21_3 < fu3 ∧ F_impl_orders_L3 k out1 k16_2 fu3 (next3, k21_3) = c39 := hJ3
      change TC _ _ _ _ (Hp w [tabI 34 3 vnext3 unext3 next3, tabI 34 3 vout1 uout1 out1]) [(0, (.int .i64 k)), (4, vnext3), (6, (uout1.getD k16_2 undef)), (10, (.int .i64 k)), (11, (.int .i64 (k11_1 : Int))), (14, vout1), (15, (.int .i64 (out1.length : Int))), (16, (.int .i64 (k16_2 : Int))), (20, (.int .i64 k)), (21, (.int .i64 (k21_3 : Int)))]
      obtain ⟨mf3, rfl⟩ : ∃ m, fu3 = m + 1 := ⟨fu3 - 1, by omega⟩
      rw [F_impl_orders_L3_s] at hL3
      refine TC.seq ?_
      refine TC.region ?_
      refine TL.op (yq (y_lss (ev_t rfl) (ev_t rfl))) rfl rfl rfl ?_
      refine TL.nil ?_
      refine TN.seq ?_
      refine TC.seq ?_
      refine TC.cond (b := decide ((k21_3 : Int) < k)) (ev_t rfl) (fun h41 => ?_) (fun h41 => ?_)
      · rw [bif_pos h41] at hL3
        have q42 := (of_decide_eq_true h41)
        refine TC.skip ?_
        refine TN.seq ?_
        refine TC.seq ?_
        refine TC.block ?_
        refine TC.seq ?_
        refine TC.region ?_
        refine TL.op (yq (y_move (ev_t rfl))) rfl rfl rfl ?_
        refine TL.op (yq (y_assign (ev_t rfl))) rfl rfl rfl ?_
        refine TL.nil ?_
        refine TN.seq ?_
        refine TC.seq ?_
        refine TC.region ?_
        refine TL.op (yq (y_move (ev_t rfl))) rfl rfl rfl ?_
        refine TL.op (yq (y_move (ev_t rfl))) rfl rfl rfl ?_
        refine TL.op (y_call (vs := [(uout1.getD k16_2 undef), (.int .i64 (k21_3 : Int))]) (v := (.bool (F_slices_Contains_Sint_int (out1.getD k16_2 []) (k21_3 : Int)))) en_118 ⟨(ev_t rfl), (ev_t rfl), trivial⟩ (fun w hw => slices_Contains_Sint_int_ok w (uout1.getD k16_2 undef) (out1.getD k16_2 []) ((ri_tab 1 k16_2 rfl hb38) w hw) (k21_3 : Int))) rfl rfl rfl ?_
        refine TL.op (yq (y_not (ev_t rfl))) rfl rfl rfl ?_
        refine TL.nil ?_
        refine TN.seq ?_
        refine TC.cond (b := !(F_slices_Contains_Sint_int (out1.getD k16_2 []) (k21_3 : Int))) (ev_t rfl) (fun h43 => ?_) (fun h43 => ?_)
        · rw [bif_pos h43] at hL3
          have q44 := (not_t h43)
          refine TC.region ?_
          refine TL.op (yq (y_move (ev_t rfl))) rfl rfl rfl ?_
          refine TL.op (yq (y_move (ev_t rfl))) rfl rfl rfl ?_
          refine TL.callr (ι := Value) (vs := [(uout1.getD k16_2 undef)]) (fun i => i) (fun i => [rowI 3 i (out1.getD k16_2 [])]) en_89 ⟨(ev_t rfl), trivial⟩ rfl (fun w hw => slices_Clone_Sint_int_ok w (uout1.getD k16_2 undef) (out1.getD k16_2 []) ((ri_tab 1 k16_2 rfl hb38) w hw) (by first | assumption | omega | grind)) (fun r12_2 => ?_)
          refine TL.op (yq (y_move (ev_t rfl))) rfl rfl rfl ?_
          refine TL.buildI (zs := [.tmp 31]) (qs := [(k21_3 : Int)]) slT_34 rfl ⟨(ev_t rfl), trivial⟩ rfl (by decide) rfl (fun v12_4 => ?_)
          refine TL.appendI 1 (ev_t rfl) (ev_t rfl) rfl slT_34 (ri_row 0 rfl) (by first | omega | (simp [-List.getD_eq_getElem?_getD] <;> omega)) rfl (fun v12_5 => ?_)
          refine TL.buildU slT_43 (ev_t rfl) (fun w hw => ((ri_row 1 rfl) w hw).ln) rfl (fun v12_6 => ?_)
          refine TL.appendT 3 2 rfl (ev_t rfl) (ev_t rfl) rfl rfl slT_43 (rd_row 0 rfl) (by first | omega | (simp [-List.getD_eq_getElem?_getD] <;> omega)) rfl (fun v12_7 => ?_)
          refine TL.op (yq (y_assign (ev_t rfl))) rfl rfl rfl ?_
          refine TL.nil ?_
          refine TN.blockN ?_
          refine TN.seq ?_
          refine TC.region ?_
          refine TL.op (yq (y_add (ev_t rfl) ev_c (by unfold In64; omega))) rfl rfl rfl ?_
          refine TL.op (yq (y_move (ev_t rfl))) rfl rfl rfl ?_
          refine TL.nil ?_
          exact TN.hand (mf3, (next3 ++ [((out1.getD k16_2 []) ++ ([(k21_3 : Int)]))]), (k21_3 + 1), v12_7, (unext3 ++ [v12_5])) ⟨(by first | omega | (simp [-List.getD_eq_getElem?_getD] <;> omega)), (by first | omega | (simp [-List.getD_eq_getElem?_getD] <;> omega)), (by first | exact hi3_2 | exact push_len hi3_2 (by simp only [List.length_append, List.length_cons, List.length_nil]; omega)), (by omega), hL3⟩ (Nat.lt_succ_self _) ⟨rfl, rfl, rfl, rfl, rfl, rfl, rfl, rfl, rfl, rfl, trivial⟩ (fun w hw => Hp.sublist hw (.cons _ (.cons _ (.cons _ (.cons_cons _ (.cons_cons _ .slnil))))))
        · rw [bif_neg h43] at hL3
          have q44 := (not_f h43)
          refine TC.skip ?_
          refine TN.blockN ?_
          refine TN.seq ?_
          refine TC.region ?_
          refine TL.op (yq (y_add (ev_t rfl) ev_c (by unfold In64; omega))) rfl rfl rfl ?_
          refine TL.op (yq (y_move (ev_t rfl))) rfl rfl rfl ?_
          refine TL.nil ?_
          exact TN.hand (mf3, next3, (k21_3 + 1), vnext3, unext3) ⟨(by first | omega | (simp [-List.getD_eq_getElem?_getD] <;> omega)), (by first | omega | (simp [-List.getD_eq_getElem?_getD] <;> omega)), (by first | exact hi3_2 | exact push_len hi3_2 (by simp only [List.length_append, List.length_cons, List.length_nil]; omega)), (by omega), hL3⟩ (Nat.lt_succ_self _) ⟨rfl, rfl, rfl, rfl, rfl, rfl, rfl, rfl, rfl, rfl, trivial⟩ (fun w hw => hw)
      · rw [bif_neg h41] at hL3
        have q42 := (of_decide_eq_false h41)
        refine TC.exit ?_
        refine TN.thenE ?_
        refine TN.thenE ?_
        rw [← hL3, elim_next] at hL2
        try dsimp only at hL2
        refine TN.blockH ?_
        refine TN.blockN ?_
        refine TN.seq ?_
        refine TC.region ?_
        refine TL.op (yq (y_add (ev_t rfl) ev_c (by unfold In64; omega))) rfl rfl rfl ?_
        refine TL.op (yq (y_move (ev_t rfl))) rfl rfl rfl ?_
        refine TL.nil ?_
        exact TN.hand (mf2, next3, (k16_2 + 1), vnext3, unext3) ⟨(by first | omega | (simp [-List.getD_eq_getElem?_getD] <;> omega)), (by first | omega | (simp [-List.getD_eq_getElem?_getD] <;> omega)), hi3_2, (by omega), hL2⟩ (Nat.lt_succ_self _) ⟨rfl, rfl, rfl, rfl, rfl, rfl, rfl, trivial⟩ (fun w hw => hw)
    · rw [bif_neg h36] at hL2
      have q37 := (of_decide_eq_false h36)
      refine TC.exit ?_
      refine TN.thenE ?_
      refine TN.thenE ?_
      rw [← hL2, elim_next] at hL1
      try dsimp only at hL1
      refine TN.blockH ?_
      refine TN.seq ?_
      refine TC.region ?_
      refine TL.op (yq (y_move (ev_t rfl))) rfl rfl rfl ?_
      refine TL.op (yq (y_assign (ev_t rfl))) rfl rfl rfl ?_
      refine TL.nil ?_
      refine TN.blockN ?_
      refine TN.seq ?_
      refine TC.region ?_
      refine TL.op (yq (y_add (ev_t rfl) ev_c (by unfold In64; omega))) rfl rfl rfl ?_
      refine TL.op (yq (y_move (ev_t rfl))) rfl rfl rfl ?_
      refine TL.nil ?_
      exact TN.hand (mf1, next2, (k11_1 + 1), vnext2, unext2) ⟨(by first | omega | (simp [-List.getD_eq_getElem?_getD] <;> omega)), (by rw [Nat.pow_succ]; omega), hi2_2, (by omega), hL1⟩ (Nat.lt_succ_self _) ⟨rfl, rfl, rfl, rfl, trivial⟩ (fun w hw => Hp.sublist hw (.cons_cons _ (.cons _ .slnil)))
  · rw [bif_neg h32] at hL1
    have q33 := (of_decide_eq_false h32)
    refine TC.exit ?_
    refine TN.thenE ?_
    refine TN.thenE ?_
    rw [← hL1, elim_next] at hF
    try dsimp only at hF
    refine TN.blockH ?_
    refine TN.seq ?_
    refine TC.seq ?_
    refine TC.region ?_
    refine TL.op (yq (y_move (ev_t rfl))) rfl rfl rfl ?_
    refine TL.op (yq (y_assign (ev_t rfl))) rfl rfl rfl ?_
    refine TL.nil ?_
    refine TN.seq ?_
    refine TC.ret ?_
    subst hF
    exact TN.ret1 rfl (ev_t rfl) (fun w' hw => ⟨(vout1, uout1), rfl, hw⟩)

set_option maxRecDepth 4000 in
set_option maxHeartbeats 1000000 in
theorem impl_Metric_matched_ok (w : World) (vm : Value) (um : List Value) (m : List (List Int)) (hm : RII w vm um m) (va : Value) (a : List Int) (ha : RI w va a) (vb : Value) (b : List Int) (hb : RI w vb b) (hp0 : Tab m) (hp1 : Cf m.length a) (hp2 : Cf m.length b) (hp3 : a.length = b.length) :
    Calls Try.prog 104 ([(.agg #[vm]), va, vb] : List Value).toArray w (fun e w' => ∃ i : Value, e = .returned (.tuple #[i, (.int .i64 ((F_impl_Metric_matched m a b).2))]) ∧ Hp w [rowI 3 i ((F_impl_Metric_matched m a b).1)] w') := by
  obtain ⟨rz, hF⟩ : ∃ rz, (F_impl_Metric_matched m a b) = rz := ⟨_, rfl⟩
  rw [hF]
  unfold F_impl_Metric_matched at hF
  have hn3 := hp1.n3
  have hor := orders_row a.length hp1.n1 hp1.n3
  have hlen_m := argT_len hm
  have hlen_a := arg_len ha
  have hlen_b := arg_len hb
  refine calls_tc Try.func104 rfl rfl rfl ?_
  change TC _ _ _ _ (Hp w []) [(0, (.agg #[vm])), (1, va), (2, vb)]
  refine TC.seq ?_
  refine TC.region ?_
  refine TL.box (ev_t rfl) rfl (fun g0_0 => ?_)
  refine TL.op (yq (y_assign ev_c)) rfl rfl rfl ?_
  refine TL.op (yq (y_assign ev_c)) rfl rfl rfl ?_
  refine TL.nil ?_
  refine TN.seq ?_
  refine TC.seq ?_
  refine TC.region ?_
  refine TL.op (yq (y_assign ev_c)) rfl rfl rfl ?_
  refine TL.nil ?_
  refine TN.seq ?_
  refine TC.seq ?_
  refine TC.region ?_
  refine TL.op (yq (y_assign ev_c)) rfl rfl rfl ?_
  refine TL.nil ?_
  refine TN.seq ?_
  refine TC.seq ?_
  refine TC.seq ?_
  refine TC.region ?_
  refine TL.op (yq (y_move (ev_t rfl))) rfl rfl rfl ?_
  refine TL.op (yq (y_len (ev_t rfl) Try.underlying34 (fun w hw => ((ri_arg ha) w hw).ln))) rfl rfl rfl ?_
  refine TL.callr (ι := Value × List Value) (vs := [(.int .i64 (a.length : Int))]) (fun i => i.1) (fun i => [tabI 34 3 i.1 i.2 (F_impl_orders (a.length : Int))]) en_113 ⟨(ev_t rfl), trivial⟩ rfl (fun w hw => impl_orders_ok w (a.length : Int) (by first | assumption | omega | grind)) (fun r3_2 => ?_)
  refine TL.op (yq (y_len (ev_t rfl) Try.underlying43 (fun w hw => ((fun w hw => ((rii_tab 0 rfl) w hw).1) w hw).ln))) rfl rfl rfl ?_
  refine TL.op (yq (y_move ev_c)) rfl rfl rfl ?_
  refine TL.nil ?_
  refine TN.seq ?_
  refine TC.block ?_
  obtain ⟨c56, hc57⟩ : ∃ c, F_impl_Metric_matched_L1 m a b ((((F_impl_orders (a.length : Int)).length) - 0) + 1) (([]), 1073741824, 0) = c := ⟨_, rfl⟩
  rw [hc57] at hF
  refine TC.loop (ι := Nat × List Int × Int × Nat × Value) (fun (fu1, best1, least1, k19_1, vbest1) => [(1, va), (2, vb), (3, (.pointer (some ⟨g0_0, 0, none⟩))), (8, vbest1), (9, (.int .i64 least1)), (17, r3_2.1), (18, (.int .i64 ((F_impl_orders (a.length : Int)).length : Int))), (19, (.int .i64 (k19_1 : Int)))]) (fun (fu1, best1, least1, k19_1, vbest1) => Hp w [tabI 34 3 r3_2.1 r3_2.2 (F_impl_orders (a.length : Int)), .blk g0_0 45 [vm]]) (fun (fu1, best1, least1, k19_1, vbest1) => (k19_1 ≤ ((F_impl_orders (a.length : Int)).length)) ∧ (∀ w', Hp w [tabI 34 3 r3_2.1 r3_2.2 (F_impl_orders (a.length : Int))] w' → Hp w [rowI 3 vbest1 best1] w') ∧ ((F_impl_orders (a.length : Int)).length) - k19_1 < fu1 ∧ F_impl_Metric_matched_L1 m a b fu1 (best1, least1, k19_1) = c56) (fun (fu1, best1, least1, k19_1, vbest1) => fu1) ((((F_impl_orders (a.length : Int)).length) - 0) + 1, [], 1073741824, 0, (.slice none 0 0)) ⟨(by first | omega | (simp [-List.getD_eq_getElem?_getD] <;> omega)), (fun w hw => (Hp.sublist hw (List.nil_sublist _)).nil _ _), (by omega), hc57⟩ ⟨rfl, rfl, rfl, rfl, rfl, rfl, rfl, rfl, trivial⟩ (fun w hw => hw) ?_
  rintro ⟨fu1, best1, least1, k19_1, vbest1⟩ hJ1
  obtain ⟨hi1_0, hrbest1, hmu1, hL1⟩ : (k19_1 ≤ ((F_impl_orders (a.length : Int)).length)) ∧ (∀ w', Hp w [tabI 34 3 r3_2.1 r3_2.2 (F_impl_orders (a.length : Int))] w' → Hp w [rowI 3 vbest1 best1] w') ∧ ((F_impl_orders (a.length : Int)).length) - k19_1 < fu1 ∧ F_impl_Metric_matched_L1 m a b fu1 (best1, least1, k19_1) = c56 := hJ1
  change TC _ _ _ _ (Hp w [tabI 34 3 r3_2.1 r3_2.2 (F_impl_orders (a.length : Int)), .blk g0_0 45 [vm]]) [(1, va), (2, vb), (3, (.pointer (some ⟨g0_0, 0, none⟩))), (8, vbest1), (9, (.int .i64 least1)), (17, r3_2.1), (18, (.int .i64 ((F_impl_orders (a.length : Int)).length : Int))), (19, (.int .i64 (k19_1 : Int)))]
  obtain ⟨mf1, rfl⟩ : ∃ m, fu1 = m + 1 := ⟨fu1 - 1, by omega⟩
  rw [F_impl_Metric_matched_L1_s] at hL1
  have hoj := hor.2.2 k19_1
  refine TC.seq ?_
  refine TC.region ?_
  refine TL.op (yq (y_lss (ev_t rfl) (ev_t rfl))) rfl rfl rfl ?_
  refine TL.nil ?_
  refine TN.seq ?_
  refine TC.seq ?_
  refine TC.cond (b := decide ((k19_1 : Int) < ((F_impl_orders (a.length : Int)).length : Int))) (ev_t rfl) (fun h58 => ?_) (fun h58 => ?_)
  · rw [bif_pos h58] at hL1
    have q59 := (of_decide_eq_true h58)
    refine TC.skip ?_
    refine TN.seq ?_
    refine TC.seq ?_
    refine TC.block ?_
    refine TC.seq ?_
    refine TC.region ?_
    have hb60 : k19_1 < (F_impl_orders (a.length : Int)).length := (by first | omega | (simp only [List.length_set, List.length_append, List.length_cons, List.length_nil, List.length_replicate]; omega) | (rw [sortI_length]; simp only [List.length_cons, List.length_nil]; omega))
    refine TL.op (yq (y_idx (k := k19_1) (ev_t rfl) (ev_t rfl) (by first | omega | simp) slT_43 (fun w hw => ((rii_tab 0 rfl) w hw).1) hb60)) rfl rfl rfl ?_
    refine TL.op (yq (y_ldT 0 (ev_t rfl) one_34 rfl hb60)) rfl rfl rfl ?_
    refine TL.op (yq (y_assign (ev_t rfl))) rfl rfl rfl ?_
    refine TL.nil ?_
    refine TN.seq ?_
    refine TC.seq ?_
    refine TC.region ?_
    refine TL.op (yq (y_assign ev_c)) rfl rfl rfl ?_
    refine TL.nil ?_
    refine TN.seq ?_
    refine TC.seq ?_
    refine TC.seq ?_
    refine TC.region ?_
    refine TL.op (yq (y_move (ev_t rfl))) rfl rfl rfl ?_
    refine TL.op (yq (y_len (ev_t rfl) Try.underlying34 (fun w hw => ((ri_tab 0 k19_1 rfl hb60) w hw).ln))) rfl rfl rfl ?_
    refine TL.op (yq (y_move ev_c)) rfl rfl rfl ?_
    refine TL.nil ?_
    refine TN.seq ?_
    refine TC.block ?_
    obtain ⟨c61, hc62⟩ : ∃ c, F_impl_Metric_matched_L2 m a b k19_1 (((((F_impl_orders (a.length : Int)).getD k19_1 []).length) - 0) + 1) (0, 0) = c := ⟨_, rfl⟩
    rw [hc62] at hL1
    refine TC.loop (ι := Nat × Int × Nat) (fun (fu2, cost2, k25_2) => [(1, va), (2, vb), (3, (.pointer (some ⟨g0_0, 0, none⟩))), (8, vbest1), (9, (.int .i64 least1)), (11, (r3_2.2.getD k19_1 undef)), (12, (.int .i64 cost2)), (17, r3_2.1), (18, (.int .i64 ((F_impl_orders (a.length : Int)).length : Int))), (19, (.int .i64 (k19_1 : Int))), (23, (r3_2.2.getD k19_1 undef)), (24, (.int .i64 (((F_impl_orders (a.length : Int)).getD k19_1 []).length : Int))), (25, (.int .i64 (k25_2 : Int)))]) (fun (fu2, cost2, k25_2) => Hp w [tabI 34 3 r3_2.1 r3_2.2 (F_impl_orders (a.length : Int)), .blk g0_0 45 [vm]]) (fun (fu2, cost2, k25_2) => (k25_2 ≤ (((F_impl_orders (a.length : Int)).getD k19_1 []).length)) ∧ (-99 * (k25_2 : Int) ≤ cost2) ∧ (cost2 ≤ 99 * (k25_2 : Int)) ∧ (((F_impl_orders (a.length : Int)).getD k19_1 []).length) - k25_2 < fu2 ∧ F_impl_Metric_matched_L2 m a b k19_1 fu2 (cost2, k25_2) = c61) (fun (fu2, cost2, k25_2) => fu2) (((((F_impl_orders (a.length : Int)).getD k19_1 []).length) - 0) + 1, 0, 0) ⟨(by first | omega | (simp [-List.getD_eq_getElem?_getD] <;> omega)), (by first | omega | (simp [-List.getD_eq_getElem?_getD] <;> omega)), (by first | omega | (simp [-List.getD_eq_getElem?_getD] <;> omega)), (by omega), hc62⟩ ⟨rfl, rfl, rfl, rfl, rfl, rfl, rfl, rfl, rfl, rfl, rfl, rfl, rfl, trivial⟩ (fun w hw => hw) ?_
    rintro ⟨fu2, cost2, k25_2⟩ hJ2
    obtain ⟨hi2_0, hi2_1, hi2_2, hmu2, hL2⟩ : (k25_2 ≤ (((F_impl_orders (a.length : Int)).getD k19_1 []).length)) ∧ (-99 * (k25_2 : Int) ≤ cost2) ∧ (cost2 ≤ 99 * (k25_2 : Int)) ∧ (((F_impl_orders (a.length : Int)).getD k19_1 []).length) - k25_2 < fu2 ∧ F_impl_Metric_matched_L2 m a b k19_1 fu2 (cost2, k25_2) = c61 := hJ2
    change TC _ _ _ _ (Hp w [tabI 34 3 r3_2.1 r3_2.2 (F_impl_orders (a.length : Int)), .blk g0_0 45 [vm]]) [(1, va), (2, vb), (3, (.pointer (some ⟨g0_0, 0, none⟩))), (8, vbest1), (9, (.int .i64 least1)), (11, (r3_2.2.getD k19_1 undef)), (12, (.int .i64 cost2)), (17, r3_2.1), (18, (.int .i64 ((F_impl_orders (a.length : Int)).length : Int))), (19, (.int .i64 (k19_1 : Int))), (23, (r3_2.2.getD k19_1 undef)), (24, (.int .i64 (((F_impl_orders (a.length : Int)).getD k19_1 []).length : Int))), (25, (.int .i64 (k25_2 : Int)))]
    obtain ⟨mf2, rfl⟩ : ∃ m, fu2 = m + 1 := ⟨fu2 - 1, by omega⟩
    rw [F_impl_Metric_matched_L2_s] at hL2
    have hoe := hoj (by omega)
    have hoe2 := hoe.2 k25_2
    have ha1 := hp1.el k25_2
    have hb1 := hp2.el ((((F_impl_orders (a.length : Int)).getD k19_1 []).getD k25_2 0).toNat)
    have hrw := hp0.rows ((a.getD k25_2 0).toNat)
    have hme := hp0.el ((a.getD k25_2 0).toNat) ((b.getD ((((F_impl_orders (a.length : Int)).getD k19_1 []).getD k25_2 0).toNat) 0).toNat)
    refine TC.seq ?_
    refine TC.region ?_
    refine TL.op (yq (y_lss (ev_t rfl) (ev_t rfl))) rfl rfl rfl ?_
    refine TL.nil ?_
    refine TN.seq ?_
    refine TC.seq ?_
    refine TC.cond (b := decide ((k25_2 : Int) < (((F_impl_orders (a.length : Int)).getD k19_1 []).length : Int))) (ev_t rfl) (fun h63 => ?_) (fun h63 => ?_)
    · rw [bif_pos h63] at hL2
      have q64 := (of_decide_eq_true h63)
      refine TC.skip ?_
      refine TN.seq ?_
      refine TC.seq ?_
      refine TC.block ?_
      refine TC.seq ?_
      refine TC.region ?_
      refine TL.op (yq (y_move (ev_t rfl))) rfl rfl rfl ?_
      have hb65 : k25_2 < ((F_impl_orders (a.length : Int)).getD k19_1 []).length := (by first | omega | (simp only [List.length_set, List.length_append, List.length_cons, List.length_nil, List.length_replicate]; omega) | (rw [sortI_length]; simp only [List.length_cons, List.length_nil]; omega))
      refine TL.op (yq (y_idx (k := k25_2) (ev_t rfl) (ev_t rfl) (by first | omega | simp) slT_34 (ri_tab 0 k19_1 rfl hb60) hb65)) rfl rfl rfl ?_
      refine TL.op (yq (y_ldi (ev_t rfl) one_3 (ri_tab 0 k19_1 rfl hb60) hb65)) rfl rfl rfl ?_
      refine TL.op (yq (y_assign (ev_t rfl))) rfl rfl rfl ?_
      refine TL.op (yq (y_assign (ev_t rfl))) rfl rfl rfl ?_
      refine TL.nil ?_
      refine TN.seq ?_
      refine TC.regionQ (by kernel_rfl) (by kernel_rfl) dr_hp ?_
      refine TQ.op (yq (y_move (ev_t rfl))) rfl rfl rfl ?_
      refine TQ.op (yq (y_fa (fa_45_0 g0_0) (ev_t rfl))) rfl rfl rfl ?_
      refine TQ.op (yq (y_ldb 1 (ev_t rfl) one_43 rfl rfl)) rfl rfl rfl ?_
      refine TQ.op (yq (y_move (ev_t rfl))) rfl rfl rfl ?_
      refine TQ.op (yq (y_move (ev_t rfl))) rfl rfl rfl ?_
      have hb66 : k25_2 < a.length := (by first | omega | (simp only [List.length_set, List.length_append, List.length_cons, List.length_nil, List.length_replicate]; omega) | (rw [sortI_length]; simp only [List.length_cons, List.length_nil]; omega))
      refine TQ.op (yq (y_idx (k := k25_2) (ev_t rfl) (ev_t rfl) (by first | omega | simp) slT_34 (ri_arg ha) hb66)) rfl rfl rfl ?_
      refine TQ.op (yq (y_ldi (ev_t rfl) one_3 (ri_arg ha) hb66)) rfl rfl rfl ?_
      have hb67 : ((a.getD k25_2 0)).toNat < m.length := (by first | omega | (simp only [List.length_set, List.length_append, List.length_cons, List.length_nil, List.length_replicate]; omega) | (rw [sortI_length]; simp only [List.length_cons, List.length_nil]; omega))
      refine TQ.op (yq (y_idx (k := ((a.getD k25_2 0)).toNat) (ev_t rfl) (ev_t rfl) (by first | omega | simp) slT_43 (fun w hw => ((rii_arg hm) w hw).1) hb67)) rfl rfl rfl ?_
      have ha68 := hm.row (i := ((a.getD k25_2 0)).toNat) hb67
      refine TQ.op (yq (y_ldA (ev_t rfl) one_34 (rii_arg hm) hb67)) rfl rfl rfl ?_
      refine TQ.op (yq (y_move (ev_t rfl))) rfl rfl rfl ?_
      refine TQ.op (yq (y_move (ev_t rfl))) rfl rfl rfl ?_
      have hb69 : ((((F_impl_orders (a.length : Int)).getD k19_1 []).getD k25_2 0)).toNat < b.length := (by first | omega | (simp only [List.length_set, List.length_append, List.length_cons, List.length_nil, List.length_replicate]; omega) | (rw [sortI_length]; simp only [List.length_cons, List.length_nil]; omega))
      refine TQ.op (yq (y_idx (k := ((((F_impl_orders (a.length : Int)).getD k19_1 []).getD k25_2 0)).toNat) (ev_t rfl) (ev_t rfl) (by first | omega | simp) slT_34 (ri_arg hb) hb69)) rfl rfl rfl ?_
      refine TQ.op (yq (y_ldi (ev_t rfl) one_3 (ri_arg hb) hb69)) rfl rfl rfl ?_
      have hb70 : ((b.getD (((((F_impl_orders (a.length : Int)).getD k19_1 []).getD k25_2 0)).toNat) 0)).toNat < (m.getD (((a.getD k25_2 0)).toNat) []).length := (by first | omega | (simp only [List.length_set, List.length_append, List.length_cons, List.length_nil, List.length_replicate]; omega) | (rw [sortI_length]; simp only [List.length_cons, List.length_nil]; omega))
      refine TQ.op (yq (y_idx (k := ((b.getD (((((F_impl_orders (a.length : Int)).getD k19_1 []).getD k25_2 0)).toNat) 0)).toNat) (ev_t rfl) (ev_t rfl) (by first | omega | simp) slT_34 (ri_arg ha68) hb70)) rfl rfl rfl ?_
      refine TQ.op (yq (y_ldi (ev_t rfl) one_3 (ri_arg ha68) hb70)) rfl rfl rfl ?_
      refine TQ.op (yq (y_add (ev_t rfl) (ev_t rfl) (by unfold In64; omega))) rfl rfl rfl ?_
      refine TQ.op (yq (y_assign (ev_t rfl))) rfl rfl rfl ?_
      refine TQ.nil ?_
      refine TN.blockN ?_
      refine TN.seq ?_
      refine TC.region ?_
      refine TL.op (yq (y_add (ev_t rfl) ev_c (by unfold In64; omega))) rfl rfl rfl ?_
      refine TL.op (yq (y_move (ev_t rfl))) rfl rfl rfl ?_
      refine TL.nil ?_
      exact TN.hand (mf2, cost2 + ((m.getD (((a.getD k25_2 0)).toNat) []).getD (((b.getD (((((F_impl_orders (a.length : Int)).getD k19_1 []).getD k25_2 0)).toNat) 0)).toNat) 0), (k25_2 + 1)) ⟨(by first | omega | (simp [-List.getD_eq_getElem?_getD] <;> omega)), (by first | omega | (simp [-List.getD_eq_getElem?_getD] <;> omega)), (by first | omega | (simp [-List.getD_eq_getElem?_getD] <;> omega)), (by omega), hL2⟩ (Nat.lt_succ_self _) ⟨rfl, rfl, rfl, rfl, rfl, rfl, rfl, rfl, rfl, rfl, rfl, rfl, rfl, trivial⟩ (fun w hw => hw)
    · rw [bif_neg h63] at hL2
      have q64 := (of_decide_eq_false h63)
      refine TC.exit ?_
      refine TN.thenE ?_
      refine TN.thenE ?_
      rw [← hL2, elim_next] at hL1
      try dsimp only at hL1
      refine TN.blockH ?_
      refine TN.seq ?_
      refine TC.seq ?_
      refine TC.region ?_
      refine TL.op (yq (y_move (ev_t rfl))) rfl rfl rfl ?_
      refine TL.op (yq (y_move (ev_t rfl))) rfl rfl rfl ?_
      refine TL.op (yq (y_lss (ev_t rfl) (ev_t rfl))) rfl rfl rfl ?_
      refine TL.nil ?_
      refine TN.seq ?_
      refine TC.cond (b := decide (cost2 < least1)) (ev_t rfl) (fun h71 => ?_) (fun h71 => ?_)
      · rw [bif_pos h71] at hL1
        have q72 := (of_decide_eq_true h71)
        refine TC.region ?_
        refine TL.op (yq (y_move (ev_t rfl))) rfl rfl rfl ?_
        refine TL.op (yq (y_move (ev_t rfl))) rfl rfl rfl ?_
        refine TL.op (yq (y_assign (ev_t rfl))) rfl rfl rfl ?_
        refine TL.op (yq (y_assign (ev_t rfl))) rfl rfl rfl ?_
        refine TL.nil ?_
        refine TN.blockN ?_
        refine TN.seq ?_
        refine TC.region ?_
        refine TL.op (yq (y_add (ev_t rfl) ev_c (by unfold In64; omega))) rfl rfl rfl ?_
        refine TL.op (yq (y_move (ev_t rfl))) rfl rfl rfl ?_
        refine TL.nil ?_
        exact TN.hand (mf1, ((F_impl_orders (a.length : Int)).getD k19_1 []), cost2, (k19_1 + 1), (r3_2.2.getD k19_1 undef)) ⟨(by first | omega | (simp [-List.getD_eq_getElem?_getD] <;> omega)), (fun w hw => ext_row 0 rfl hb60 hw), (by omega), hL1⟩ (Nat.lt_succ_self _) ⟨rfl, rfl, rfl, rfl, rfl, rfl, rfl, rfl, trivial⟩ (fun w hw => hw)
      · rw [bif_neg h71] at hL1
        have q72 := (of_decide_eq_false h71)
        refine TC.skip ?_
        refine TN.blockN ?_
        refine TN.seq ?_
        refine TC.region ?_
        refine TL.op (yq (y_add (ev_t rfl) ev_c (by unfold In64; omega))) rfl rfl rfl ?_
        refine TL.op (yq (y_move (ev_t rfl))) rfl rfl rfl ?_
        refine TL.nil ?_
        exact TN.hand (mf1, best1, least1, (k19_1 + 1), vbest1) ⟨(by first | omega | (simp [-List.getD_eq_getElem?_getD] <;> omega)), hrbest1, (by omega), hL1⟩ (Nat.lt_succ_self _) ⟨rfl, rfl, rfl, rfl, rfl, rfl, rfl, rfl, trivial⟩ (fun w hw => hw)
  · rw [bif_neg h58] at hL1
    have q59 := (of_decide_eq_false h58)
    refine TC.exit ?_
    refine TN.thenE ?_
    refine TN.thenE ?_
    rw [← hL1, elim_next] at hF
    try dsimp only at hF
    refine TN.blockH ?_
    refine TN.seq ?_
    refine TC.seq ?_
    refine TC.region ?_
    refine TL.op (yq (y_move (ev_t rfl))) rfl rfl rfl ?_
    refine TL.op (yq (y_move (ev_t rfl))) rfl rfl rfl ?_
    refine TL.op (yq (y_assign (ev_t rfl))) rfl rfl rfl ?_
    refine TL.op (yq (y_assign (ev_t rfl))) rfl rfl rfl ?_
    refine TL.nil ?_
    refine TN.seq ?_
    refine TC.ret ?_
    subst hF
    refine TN.cls (fun w hw => hrbest1 w (Hp.sublist hw (.cons_cons _ (.cons _ .slnil)))) ?_
    exact TN.ret2 rfl (ev_t rfl) (ev_t rfl) (fun w' hw => ⟨vbest1, rfl, hw⟩)

set_option maxRecDepth 4000 in
set_option maxHeartbeats 1000000 in
theorem impl_Metric_moveCost_ok (w : World) (vm : Value) (um : List Value) (m : List (List Int)) (hm : RII w vm um m) (va : Value) (a : List Int) (ha : RI w va a) (vb : Value) (b : List Int) (hb : RI w vb b) (hp0 : Tab m) (hp1 : Cf m.length a) (hp2 : Cf m.length b) (hp3 : a.length = b.length) :
    Calls Try.prog 78 ([(.agg #[vm]), va, vb] : List Value).toArray w (Ret (.int .i64 (F_impl_Metric_moveCost m a b)) (Hp w [])) := by
  obtain ⟨rz, hF⟩ : ∃ rz, (F_impl_Metric_moveCost m a b) = rz := ⟨_, rfl⟩
  rw [hF]
  unfold F_impl_Metric_moveCost at hF
  have hlen_m := argT_len hm
  have hlen_a := arg_len ha
  have hlen_b := arg_len hb
  refine calls_tc Try.func78 rfl rfl rfl ?_
  change TC _ _ _ _ (Hp w []) [(0, (.agg #[vm])), (1, va), (2, vb)]
  refine TC.seq ?_
  refine TC.region ?_
  refine TL.box (ev_t rfl) rfl (fun g0_0 => ?_)
  refine TL.op (yq (y_assign ev_c)) rfl rfl rfl ?_
  refine TL.nil ?_
  refine TN.seq ?_
  refine TC.seq ?_
  refine TC.region ?_
  refine TL.op (yq (y_ldagg (cs := [vm]) 0 (ev_t rfl) agg_45 rfl)) rfl rfl rfl ?_
  refine TL.op (yq (y_move (ev_t rfl))) rfl rfl rfl ?_
  refine TL.op (yq (y_move (ev_t rfl))) rfl rfl rfl ?_
  refine TL.callr (ι := Value) (vs := [(.agg #[vm]), va, vb]) (fun i => (.tuple #[i, (.int .i64 ((F_impl_Metric_matched m a b).2))])) (fun i => [rowI 3 i ((F_impl_Metric_matched m a b).1)]) en_104 ⟨(ev_t rfl), (ev_t rfl), (ev_t rfl), trivial⟩ rfl (fun w hw => impl_Metric_matched_ok w vm um m ((rii_arg hm) w hw) va a ((ri_arg ha) w hw) vb b ((ri_arg hb) w hw) (by first | assumption | omega | grind) (by first | assumption | omega | grind) (by first | assumption | omega | grind) (by first | assumption | omega | grind)) (fun r1_3 => ?_)
  refine TL.op (yq (y_move (ev_t rfl))) rfl rfl rfl ?_
  refine TL.op (yq (y_extract (ev_t rfl) rfl)) rfl rfl rfl ?_
  refine TL.op (yq (y_extract (ev_t rfl) rfl)) rfl rfl rfl ?_
  refine TL.op (yq (y_assign (ev_t rfl))) rfl rfl rfl ?_
  refine TL.op (yq (y_assign (ev_t rfl))) rfl rfl rfl ?_
  refine TL.nil ?_
  refine TN.seq ?_
  refine TC.seq ?_
  refine TC.region ?_
  refine TL.op (yq (y_move (ev_t rfl))) rfl rfl rfl ?_
  refine TL.op (yq (y_assign (ev_t rfl))) rfl rfl rfl ?_
  refine TL.nil ?_
  refine TN.seq ?_
  refine TC.ret ?_
  subst hF
  exact TN.ret1 rfl (ev_t rfl) (fun w' hw => ⟨rfl, Hp.sublist hw (List.nil_sublist _)⟩)

set_option maxRecDepth 4000 in
set_option maxHeartbeats 1000000 in
theorem impl_areConfigs_ok (w : World) (vm : Value) (um : List Value) (m : List (List Int)) (hm : RII w vm um m) (va : Value) (a : List Int) (ha : RI w va a) (vb : Value) (b : List Int) (hb : RI w vb b)  :
    Calls Try.prog 77 ([(.agg #[vm]), va, vb] : List Value).toArray w (Ret (.bool (F_impl_areConfigs m a b)) (Hp w [])) := by
  obtain ⟨rz, hF⟩ : ∃ rz, (F_impl_areConfigs m a b) = rz := ⟨_, rfl⟩
  rw [hF]
  unfold F_impl_areConfigs at hF
  have hlen_m := argT_len hm
  have hlen_a := arg_len ha
  have hlen_b := arg_len hb
  refine calls_tc Try.func77 rfl rfl rfl ?_
  change TC _ _ _ _ (Hp w []) [(0, (.agg #[vm])), (1, va), (2, vb)]
  refine TC.seq ?_
  refine TC.region ?_
  refine TL.box (ev_t rfl) rfl (fun g0_0 => ?_)
  refine TL.op (yq (y_assign ev_c)) rfl rfl rfl ?_
  refine TL.nil ?_
  refine TN.seq ?_
  refine TC.seq ?_
  refine TC.region ?_
  refine TL.op (yq (y_ldagg (cs := [vm]) 0 (ev_t rfl) agg_45 rfl)) rfl rfl rfl ?_
  refine TL.op (y_call (vs := [(.agg #[vm])]) (v := (.bool (F_impl_IsMetric m))) en_31 ⟨(ev_t rfl), trivial⟩ (fun w hw => impl_IsMetric_ok w vm um m ((rii_arg hm) w hw))) rfl rfl rfl ?_
  refine TL.op (yq (y_move (ev_t rfl))) rfl rfl rfl ?_
  refine TL.opw (w_t rfl rfl rfl) (fun hg => yq (y_ldagg (cs := [vm]) 0 (ev_t rfl) agg_45 rfl)) rfl rfl ?_
  refine TL.opw (w_t rfl rfl rfl) (fun hg => yq (y_move (ev_t rfl))) rfl rfl ?_
  refine TL.opw (w_t rfl rfl rfl) (fun hg => y_call (vs := [(.agg #[vm]), va]) (v := (.bool (F_impl_Metric_isConfig m a))) en_103 ⟨(ev_g rfl hg), (ev_g rfl hg), trivial⟩ (fun w hw => impl_Metric_isConfig_ok w vm um m ((rii_arg hm) w hw) va a ((ri_arg ha) w hw))) rfl rfl ?_
  refine TL.op (yq (y_and (ev_t rfl) (fun hq => (ev_g rfl hq)))) rfl rfl rfl ?_
  refine TL.op (yq (y_move (ev_t rfl))) rfl rfl rfl ?_
  refine TL.opw (w_t rfl rfl rfl) (fun hg => yq (y_ldagg (cs := [vm]) 0 (ev_t rfl) agg_45 rfl)) rfl rfl ?_
  refine TL.opw (w_t rfl rfl rfl) (fun hg => yq (y_move (ev_t rfl))) rfl rfl ?_
  refine TL.opw (w_t rfl rfl rfl) (fun hg => y_call (vs := [(.agg #[vm]), vb]) (v := (.bool (F_impl_Metric_isConfig m b))) en_103 ⟨(ev_g rfl hg), (ev_g rfl hg), trivial⟩ (fun w hw => impl_Metric_isConfig_ok w vm um m ((rii_arg hm) w hw) vb b ((ri_arg hb) w hw))) rfl rfl ?_
  refine TL.op (yq (y_and (ev_t rfl) (fun hq => (ev_g rfl hq)))) rfl rfl rfl ?_
  refine TL.op (yq (y_move (ev_t rfl))) rfl rfl rfl ?_
  refine TL.opw (w_t rfl rfl rfl) (fun hg => yq (y_move (ev_t rfl))) rfl rfl ?_
  refine TL.opw (w_t rfl rfl rfl) (fun hg => yq (y_len (ev_g rfl hg) Try.underlying34 (fun w hw => ((ri_arg ha) w hw).ln))) rfl rfl ?_
  refine TL.opw (w_t rfl rfl rfl) (fun hg => yq (y_move (ev_t rfl))) rfl rfl ?_
  refine TL.opw (w_t rfl rfl rfl) (fun hg => yq (y_len (ev_g rfl hg) Try.underlying34 (fun w hw => ((ri_arg hb) w hw).ln))) rfl rfl ?_
  refine TL.opw (w_t rfl rfl rfl) (fun hg => yq (y_eql (ev_g rfl hg) (ev_g rfl hg))) rfl rfl ?_
  refine TL.op (yq (y_and (ev_t rfl) (fun hq => (ev_g rfl hq)))) rfl rfl rfl ?_
  refine TL.op (yq (y_assign (ev_t rfl))) rfl rfl rfl ?_
  refine TL.nil ?_
  refine TN.seq ?_
  refine TC.ret ?_
  subst hF
  exact TN.ret1 rfl (ev_t rfl) (fun w' hw => ⟨rfl, Hp.sublist hw (List.nil_sublist _)⟩)

set_option maxRecDepth 4000 in
set_option maxHeartbeats 1000000 in
theorem impl_MoveCost_ok (w : World) (vm : Value) (um : List Value) (m : List (List Int)) (hm : RII w vm um m) (va : Value) (a : List Int) (ha : RI w va a) (vb : Value) (b : List Int) (hb : RI w vb b)  :
    Calls Try.prog 39 ([(.agg #[vm]), va, vb] : List Value).toArray w (Ret (.tuple #[(.int .i64 ((F_impl_MoveCost m a b).1)), (.bool ((F_impl_MoveCost m a b).2))]) (Hp w [])) := by
  obtain ⟨rz, hF⟩ : ∃ rz, (F_impl_MoveCost m a b) = rz := ⟨_, rfl⟩
  rw [hF]
  unfold F_impl_MoveCost at hF
  have hlen_m := argT_len hm
  have hlen_a := arg_len ha
  have hlen_b := arg_len hb
  refine calls_tc Try.func39 rfl rfl rfl ?_
  change TC _ _ _ _ (Hp w []) [(0, (.agg #[vm])), (1, va), (2, vb)]
  refine TC.seq ?_
  refine TC.region ?_
  refine TL.box (ev_t rfl) rfl (fun g0_0 => ?_)
  refine TL.op (yq (y_assign ev_c)) rfl rfl rfl ?_
  refine TL.op (yq (y_assign ev_c)) rfl rfl rfl ?_
  refine TL.nil ?_
  refine TN.seq ?_
  refine TC.seq ?_
  refine TC.seq ?_
  refine TC.region ?_
  refine TL.op (yq (y_ldagg (cs := [vm]) 0 (ev_t rfl) agg_45 rfl)) rfl rfl rfl ?_
  refine TL.op (yq (y_move (ev_t rfl))) rfl rfl rfl ?_
  refine TL.op (yq (y_move (ev_t rfl))) rfl rfl rfl ?_
  refine TL.op (y_call (vs := [(.agg #[vm]), va, vb]) (v := (.bool (F_impl_areConfigs m a b))) en_77 ⟨(ev_t rfl), (ev_t rfl), (ev_t rfl), trivial⟩ (fun w hw => impl_areConfigs_ok w vm um m ((rii_arg hm) w hw) va a ((ri_arg ha) w hw) vb b ((ri_arg hb) w hw))) rfl rfl rfl ?_
  refine TL.op (yq (y_not (ev_t rfl))) rfl rfl rfl ?_
  refine TL.nil ?_
  refine TN.seq ?_
  refine TC.cond (b := !(F_impl_areConfigs m a b)) (ev_t rfl) (fun h3 => ?_) (fun h3 => ?_)
  · rw [bif_pos h3] at hF
    have q4 := (not_t h3)
    refine TC.seq ?_
    refine TC.region ?_
    refine TL.op (yq (y_assign ev_c)) rfl rfl rfl ?_
    refine TL.op (yq (y_assign ev_c)) rfl rfl rfl ?_
    refine TL.nil ?_
    refine TN.seq ?_
    refine TC.ret ?_
    refine TN.thenR ?_
    subst hF
    exact TN.ret2 rfl (ev_t rfl) (ev_t rfl) (fun w' hw => ⟨rfl, Hp.sublist hw (List.nil_sublist _)⟩)
  · rw [bif_neg h3] at hF
    have q4 := (areConfigs_t (not_f h3))
    refine TC.skip ?_
    refine TN.seq ?_
    refine TC.seq ?_
    refine TC.region ?_
    refine TL.op (yq (y_ldagg (cs := [vm]) 0 (ev_t rfl) agg_45 rfl)) rfl rfl rfl ?_
    refine TL.op (yq (y_move (ev_t rfl))) rfl rfl rfl ?_
    refine TL.op (yq (y_move (ev_t rfl))) rfl rfl rfl ?_
    refine TL.op (y_call (vs := [(.agg #[vm]), va, vb]) (v := (.int .i64 (F_impl_Metric_moveCost m a b))) en_78 ⟨(ev_t rfl), (ev_t rfl), (ev_t rfl), trivial⟩ (fun w hw => impl_Metric_moveCost_ok w vm um m ((rii_arg hm) w hw) va a ((ri_arg ha) w hw) vb b ((ri_arg hb) w hw) (by first | assumption | omega | grind) (by first | assumption | omega | grind) (by first | assumption | omega | grind) (by first | assumption | omega | grind))) rfl rfl rfl ?_
    refine TL.op (yq (y_assign (ev_t rfl))) rfl rfl rfl ?_
    refine TL.op (yq (y_assign ev_c)) rfl rfl rfl ?_
    refine TL.nil ?_
    refine TN.seq ?_
    refine TC.ret ?_
    subst hF
    exact TN.ret2 rfl (ev_t rfl) (ev_t rfl) (fun w' hw => ⟨rfl, Hp.sublist hw (List.nil_sublist _)⟩)

set_option maxRecDepth 4000 in
set_option maxHeartbeats 1000000 in
theorem spec_l6Sort_ok (w : World) (vlist : Value) (list : List Int) (hlist : RI w vlist list) (hp0 : list.length ≤ 100000) :
    Calls Try.prog 100 ([vlist] : List Value).toArray w (fun e w' => ∃ i : Value, e = .returned i ∧ Hp w [rowI 3 i (F_spec_l6Sort list)] w') := by
  obtain ⟨rz, hF⟩ : ∃ rz, (F_spec_l6Sort list) = rz := ⟨_, rfl⟩
  rw [hF]
  unfold F_spec_l6Sort at hF
  have hlen_list := arg_len hlist
  refine calls_tc Try.func100 rfl rfl rfl ?_
  change TC _ _ _ _ (Hp w []) [(0, vlist)]
  refine TC.seq ?_
  refine TC.region ?_
  refine TL.op (yq (y_assign ev_c)) rfl rfl rfl ?_
  refine TL.nil ?_
  refine TN.seq ?_
  refine TC.seq ?_
  refine TC.region ?_
  refine TL.buildI (zs := []) (qs := []) slT_34 rfl trivial rfl (by decide) rfl (fun v1_0 => ?_)
  refine TL.op (yq (y_assign (ev_t rfl))) rfl rfl rfl ?_
  refine TL.nil ?_
  refine TN.seq ?_
  refine TC.seq ?_
  refine TC.seq ?_
  refine TC.region ?_
  refine TL.op (yq (y_assign ev_c)) rfl rfl rfl ?_
  refine TL.nil ?_
  refine TN.seq ?_
  refine TC.block ?_
  obtain ⟨c21, hc22⟩ : ∃ c, F_spec_l6Sort_L1 list ((list.length - 0) + 1) (([] : List Int), 0) = c := ⟨_, rfl⟩
  rw [hc22] at hF
  refine TC.loop (ι := Nat × List Int × Nat × Value) (fun (fu1, out1, i1, vout1) => [(0, vlist), (3, vout1), (4, (.int .i64 (i1 : Int)))]) (fun (fu1, out1, i1, vout1) => Hp w [rowI 3 vout1 out1]) (fun (fu1, out1, i1, vout1) => (i1 ≤ list.length) ∧ (out1.length = i1) ∧ list.length - i1 < fu1 ∧ F_spec_l6Sort_L1 list fu1 (out1, i1) = c21) (fun (fu1, out1, i1, vout1) => fu1) ((list.length - 0) + 1, ([] : List Int), 0, v1_0) ⟨(by first | omega | (simp [-List.getD_eq_getElem?_getD] <;> omega)), (by first | omega | (simp [-List.getD_eq_getElem?_getD] <;> omega)), (by omega), hc22⟩ ⟨rfl, rfl, rfl, trivial⟩ (fun w hw => hw) ?_
  rintro ⟨fu1, out1, i1, vout1⟩ hJ1
  obtain ⟨hi1_0, hi1_1, hmu1, hL1⟩ : (i1 ≤ list.length) ∧ (out1.length = i1) ∧ list.length - i1 < fu1 ∧ F_spec_l6Sort_L1 list fu1 (out1, i1) = c21 := hJ1
  change TC _ _ _ _ (Hp w [rowI 3 vout1 out1]) [(0, vlist), (3, vout1), (4, (.int .i64 (i1 : Int)))]
  obtain ⟨mf1, rfl⟩ : ∃ m, fu1 = m + 1 := ⟨fu1 - 1, by omega⟩
  rw [F_spec_l6Sort_L1_s] at hL1
  refine TC.seq ?_
  refine TC.seq ?_
  refine TC.region ?_
  refine TL.op (yq (y_move (ev_t rfl))) rfl rfl rfl ?_
  refine TL.op (yq (y_move (ev_t rfl))) rfl rfl rfl ?_
  refine TL.op (yq (y_len (ev_t rfl) Try.underlying34 (fun w hw => ((ri_arg hlist) w hw).ln))) rfl rfl rfl ?_
  refine TL.op (yq (y_lss (ev_t rfl) (ev_t rfl))) rfl rfl rfl ?_
  refine TL.nil ?_
  refine TN.seq ?_
  refine TC.cond (b := decide ((i1 : Int) < (list.length : Int))) (ev_t rfl) (fun h23 => ?_) (fun h23 => ?_)
  · rw [bif_pos h23] at hL1
    have q24 := (of_decide_eq_true h23)
    refine TC.skip ?_
    refine TN.seq ?_
    refine TC.seq ?_
    refine TC.block ?_
    refine TC.seq ?_
    refine TC.region ?_
    refine TL.op (yq (y_assign ev_c)) rfl rfl rfl ?_
    refine TL.nil ?_
    refine TN.seq ?_
    refine TC.seq ?_
    refine TC.block ?_
    obtain ⟨c25, hc26⟩ : ∃ c, F_spec_l6Sort_L2 list out1 i1 ((out1.length - 0) + 1) 0 = c := ⟨_, rfl⟩
    rw [hc26] at hL1
    refine TC.loop (ι := Nat × Nat) (fun (fu2, k2) => [(0, vlist), (3, vout1), (4, (.int .i64 (i1 : Int))), (5, (.int .i64 (k2 : Int)))]) (fun (fu2, k2) => Hp w [rowI 3 vout1 out1]) (fun (fu2, k2) => (k2 ≤ out1.length) ∧ out1.length - k2 < fu2 ∧ F_spec_l6Sort_L2 list out1 i1 fu2 k2 = c25) (fun (fu2, k2) => fu2) ((out1.length - 0) + 1, 0) ⟨(by first | omega | (simp [-List.getD_eq_getElem?_getD] <;> omega)), (by omega), hc26⟩ ⟨rfl, rfl, rfl, rfl, trivial⟩ (fun w hw => hw) ?_
    rintro ⟨fu2, k2⟩ hJ2
    obtain ⟨hi2_0, hmu2, hL2⟩ : (k2 ≤ out1.length) ∧ out1.length - k2 < fu2 ∧ F_spec_l6Sort_L2 list out1 i1 fu2 k2 = c25 := hJ2
    change TC _ _ _ _ (Hp w [rowI 3 vout1 out1]) [(0, vlist), (3, vout1), (4, (.int .i64 (i1 : Int))), (5, (.int .i64 (k2 : Int)))]
    obtain ⟨mf2, rfl⟩ : ∃ m, fu2 = m + 1 := ⟨fu2 - 1, by omega⟩
    rw [F_spec_l6Sort_L2_s] at hL2
    refine TC.seq ?_
    refine TC.seq ?_
    refine TC.regionQ (by kernel_rfl) (by kernel_rfl) dr_hp ?_
    refine TQ.op (yq (y_move (ev_t rfl))) rfl rfl rfl ?_
    refine TQ.op (yq (y_move (ev_t rfl))) rfl rfl rfl ?_
    refine TQ.op (yq (y_len (ev_t rfl) Try.underlying34 (fun w hw => ((ri_row 0 rfl) w hw).ln))) rfl rfl rfl ?_
    refine TQ.op (yq (y_lss (ev_t rfl) (ev_t rfl))) rfl rfl rfl ?_
    refine TQ.op (yq (y_move (ev_t rfl))) rfl rfl rfl ?_
    refine TQ.opw (w_t rfl rfl rfl) (fun hg => yq (y_move (ev_t rfl))) rfl rfl ?_
    refine TQ.opw (w_t rfl rfl rfl) (fun hg => yq (y_move (ev_t rfl))) rfl rfl ?_
    refine TQ.opw (w_t rfl rfl rfl) (fun hg => yq (y_idx (k := k2) (ev_g rfl hg) (ev_g rfl hg) (by first | omega | simp) slT_34 (ri_row 0 rfl) (show k2 < out1.length by have hgf := (of_decide_eq_true hg); omega))) rfl rfl ?_
    refine TQ.opw (w_t rfl rfl rfl) (fun hg => yq (y_ldi (ev_g rfl hg) one_3 (ri_row 0 rfl) (show k2 < out1.length by have hgf := (of_decide_eq_true hg); omega))) rfl rfl ?_
    refine TQ.opw (w_t rfl rfl rfl) (fun hg => yq (y_move (ev_t rfl))) rfl rfl ?_
    refine TQ.opw (w_t rfl rfl rfl) (fun hg => yq (y_move (ev_t rfl))) rfl rfl ?_
    refine TQ.opw (w_t rfl rfl rfl) (fun hg => yq (y_idx (k := i1) (ev_g rfl hg) (ev_g rfl hg) (by first | omega | simp) slT_34 (ri_arg hlist) (show i1 < list.length by have hgf := (of_decide_eq_true hg); omega))) rfl rfl ?_
    refine TQ.opw (w_t rfl rfl rfl) (fun hg => yq (y_ldi (ev_g rfl hg) one_3 (ri_arg hlist) (show i1 < list.length by have hgf := (of_decide_eq_true hg); omega))) rfl rfl ?_
    refine TQ.opw (w_t rfl rfl rfl) (fun hg => yq (y_leq (ev_g rfl hg) (ev_g rfl hg))) rfl rfl ?_
    refine TQ.op (yq (y_and (ev_t rfl) (fun hq => (ev_g rfl hq)))) rfl rfl rfl ?_
    refine TQ.nil ?_
    refine TN.seq ?_
    refine TC.cond (b := ((decide ((k2 : Int) < (out1.length : Int))) && (decide ((out1.getD k2 0) ≤ (list.getD i1 0))))) (ev_t rfl) (fun h27 => ?_) (fun h27 => ?_)
    · rw [bif_pos h27] at hL2
      have q28 := (and_imp (and_t h27) (fun h => (of_decide_eq_true h)) (fun h => (of_decide_eq_true h)))
      refine TC.skip ?_
      refine TN.seq ?_
      refine TC.block ?_
      refine TC.region ?_
      refine TL.op (yq (y_move (ev_t rfl))) rfl rfl rfl ?_
      refine TL.op (yq (y_add (ev_t rfl) ev_c (by unfold In64; omega))) rfl rfl rfl ?_
      refine TL.op (yq (y_assign (ev_t rfl))) rfl rfl rfl ?_
      refine TL.nil ?_
      refine TN.blockN ?_
      exact TN.hand (mf2, (k2 + 1)) ⟨(by first | omega | (simp [-List.getD_eq_getElem?_getD] <;> omega)), (by omega), hL2⟩ (Nat.lt_succ_self _) ⟨rfl, rfl, rfl, rfl, trivial⟩ (fun w hw => hw)
    · rw [bif_neg h27] at hL2
      have q28 := ((and_f h27).imp (fun h => (of_decide_eq_false h)) (fun h => (of_decide_eq_false h)))
      refine TC.exit ?_
      refine TN.thenE ?_
      refine TN.thenE ?_
      rw [← hL2, elim_next] at hL1
      try dsimp only at hL1
      refine TN.blockH ?_
      refine TN.seq ?_
      refine TC.mid (fun a' w' => ∃ v8_14 : Value, Slots 46 [(0, vlist), (3, v8_14), (4, (.int .i64 (i1 : Int)))] a' ∧ Hp w [rowI 3 v8_14 (((([] : List Int) ++ ((out1.take k2).drop 0)) ++ ([(list.getD i1 0)])) ++ ((out1.take out1.length).drop k2))] w') ?_ ?_
      · refine TC.regionH 16 (Hp w [rowI 3 vout1 out1]) rfl (by kernel_rfl) dr_hp (fun w hw => hw) ?_
        refine TH.take 1 rfl (by kernel_rfl) (y_move (ev_t rfl)) rfl rfl rfl ?_
        refine TH.take 2 rfl (by kernel_rfl) (y_move (ev_t rfl)) rfl rfl rfl ?_
        have hs29 : 0 ≤ k2 := (by first | omega | (simp only [List.length_set, List.length_append, List.length_cons, List.length_nil, List.length_replicate]; omega) | (rw [sortI_length]; simp only [List.length_cons, List.length_nil]; omega))
        have hs30 : k2 ≤ out1.length := (by first | omega | (simp only [List.length_set, List.length_append, List.length_cons, List.length_nil, List.length_replicate]; omega) | (rw [sortI_length]; simp only [List.length_cons, List.length_nil]; omega))
        refine TH.take 3 rfl (by kernel_rfl) (y_slice_hi (ev_t rfl) (ev_t rfl) (hi := k2) (by omega) slT_34 (ri_row 0 rfl) hs30) rfl rfl rfl ?_
        refine TH.take 5 rfl (by kernel_rfl) (y_move (ev_t rfl)) rfl rfl rfl ?_
        refine TH.take 6 rfl (by kernel_rfl) (y_move (ev_t rfl)) rfl rfl rfl ?_
        have hb31 : i1 < list.length := (by first | omega | (simp only [List.length_set, List.length_append, List.length_cons, List.length_nil, List.length_replicate]; omega) | (rw [sortI_length]; simp only [List.length_cons, List.length_nil]; omega))
        refine TH.take 7 rfl (by kernel_rfl) (y_idx (k := i1) (ev_t rfl) (ev_t rfl) (by first | omega | simp) slT_34 (ri_arg hlist) hb31) rfl rfl rfl ?_
        refine TH.take 8 rfl (by kernel_rfl) (y_ldi (ev_t rfl) one_3 (ri_arg hlist) hb31) rfl rfl rfl ?_
        refine TH.take 11 rfl (by kernel_rfl) (y_move (ev_t rfl)) rfl rfl rfl ?_
        refine TH.take 12 rfl (by kernel_rfl) (y_move (ev_t rfl)) rfl rfl rfl ?_
        have hs32 : k2 ≤ out1.length := (by first | omega | (simp only [List.length_set, List.length_append, List.length_cons, List.length_nil, List.length_replicate]; omega) | (rw [sortI_length]; simp only [List.length_cons, List.length_nil]; omega))
        have hs33 : out1.length ≤ out1.length := (by first | omega | (simp only [List.length_set, List.length_append, List.length_cons, List.length_nil, List.length_replicate]; omega) | (rw [sortI_length]; simp only [List.length_cons, List.length_nil]; omega))
        refine TH.take 13 rfl (by kernel_rfl) (y_slice_lo (ev_t rfl) (ev_t rfl) (lo := k2) (by omega) slT_34 (ri_row 0 rfl) hs32) rfl rfl rfl ?_
        refine TH.loud2 0 9 rfl rfl (by kernel_rfl) ?_ ?_
        · refine TL.buildI (zs := []) (qs := []) slT_34 rfl trivial rfl (by decide) rfl (fun v8_0 => ?_)
          refine TL.nil ?_
          refine TH.back (fun w hw => Hp.sublist hw (.cons _ (.cons_cons _ .slnil))) ?_
          refine TH.loud2 4 9 rfl rfl (by kernel_rfl) ?_ ?_
          · refine TL.appendI 0 (ev_t rfl) (ev_t rfl) rfl slT_34 (fun w hw => ri_resl ((ri_row 1 rfl) w hw) hs29 hs30) (by first | omega | (simp [-List.getD_eq_getElem?_getD] <;> omega)) rfl (fun v8_4 => ?_)
            refine TL.nil ?_
            refine TH.back (fun w hw => Hp.sublist hw (.cons _ (.cons_cons _ .slnil))) ?_
            refine TH.loud 9 rfl (by kernel_rfl) ?_
            refine TL.buildI (zs := [.tmp 38]) (qs := [(list.getD i1 0)]) slT_34 rfl ⟨(ev_t rfl), trivial⟩ rfl (by decide) rfl (fun v8_9 => ?_)
            refine TL.nil ?_
            refine TH.back (fun w hw => Hp.sublist hw (.cons _ (.cons _ (.cons_cons _ .slnil)))) ?_
            refine TH.loud 10 rfl (by kernel_rfl) ?_
            refine TL.appendI 1 (ev_t rfl) (ev_t rfl) rfl slT_34 (ri_row 0 rfl) (by first | omega | (simp [-List.getD_eq_getElem?_getD] <;> omega)) rfl (fun v8_10 => ?_)
            refine TL.nil ?_
            refine TH.back (fun w hw => Hp.sublist hw (.cons _ (.cons _ (.cons_cons _ .slnil)))) ?_
            refine TH.loud 14 rfl (by kernel_rfl) ?_
            refine TL.appendI 1 (ev_t rfl) (ev_t rfl) rfl slT_34 (fun w hw => ri_resl ((ri_row 2 rfl) w hw) hs32 hs33) (by first | omega | (simp [-List.getD_eq_getElem?_getD] <;> omega)) rfl (fun v8_14 => ?_)
            refine TL.nil ?_
            refine TH.back (fun w hw => Hp.sublist hw (.cons _ (.cons _ (.cons_cons _ .slnil)))) ?_
            refine TH.take 15 rfl (by kernel_rfl) (y_assign (ev_t rfl)) rfl rfl rfl ?_
            refine TH.done (by kernel_rfl) ?_
            exact fun a' w' hs hw => ⟨v8_14, hs.sub ⟨rfl, rfl, rfl, trivial⟩, Hp.sublist hw (.cons _ (.cons_cons _ (.cons _ .slnil)))⟩
          · refine TL.buildI (zs := [.tmp 38]) (qs := [(list.getD i1 0)]) slT_34 rfl ⟨(ev_t rfl), trivial⟩ rfl (by decide) rfl (fun v8_9 => ?_)
            refine TL.nil ?_
            refine TH.back (fun w hw => Hp.sublist hw (.cons _ (.cons _ (.cons_cons _ .slnil)))) ?_
            refine TH.loud 4 rfl (by kernel_rfl) ?_
            refine TL.appendI 1 (ev_t rfl) (ev_t rfl) rfl slT_34 (fun w hw => ri_resl ((ri_row 2 rfl) w hw) hs29 hs30) (by first | omega | (simp [-List.getD_eq_getElem?_getD] <;> omega)) rfl (fun v8_4 => ?_)
            refine TL.nil ?_
            refine TH.back (fun w hw => Hp.sublist hw (.cons _ (.cons _ (.cons_cons _ .slnil)))) ?_
            refine TH.loud 10 rfl (by kernel_rfl) ?_
            refine TL.appendI 1 (ev_t rfl) (ev_t rfl) rfl slT_34 (ri_row 0 rfl) (by first | omega | (simp [-List.getD_eq_getElem?_getD] <;> omega)) rfl (fun v8_10 => ?_)
            refine TL.nil ?_
            refine TH.back (fun w hw => Hp.sublist hw (.cons _ (.cons _ (.cons_cons _ .slnil)))) ?_
            refine TH.loud 14 rfl (by kernel_rfl) ?_
            refine TL.appendI 1 (ev_t rfl) (ev_t rfl) rfl slT_34 (fun w hw => ri_resl ((ri_row 2 rfl) w hw) hs32 hs33) (by first | omega | (simp [-List.getD_eq_getElem?_getD] <;> omega)) rfl (fun v8_14 => ?_)
            refine TL.nil ?_
            refine TH.back (fun w hw => Hp.sublist hw (.cons _ (.cons _ (.cons_cons _ .slnil)))) ?_
            refine TH.take 15 rfl (by kernel_rfl) (y_assign (ev_t rfl)) rfl rfl rfl ?_
            refine TH.done (by kernel_rfl) ?_
            exact fun a' w' hs hw => ⟨v8_14, hs.sub ⟨rfl, rfl, rfl, trivial⟩, Hp.sublist hw (.cons _ (.cons_cons _ (.cons _ .slnil)))⟩
        · refine TL.buildI (zs := [.tmp 38]) (qs := [(list.getD i1 0)]) slT_34 rfl ⟨(ev_t rfl), trivial⟩ rfl (by decide) rfl (fun v8_9 => ?_)
          refine TL.nil ?_
          refine TH.back (fun w hw => Hp.sublist hw (.cons _ (.cons_cons _ .slnil))) ?_
          refine TH.loud 0 rfl (by kernel_rfl) ?_
          refine TL.buildI (zs := []) (qs := []) slT_34 rfl trivial rfl (by decide) rfl (fun v8_0 => ?_)
          refine TL.nil ?_
          refine TH.back (fun w hw => Hp.sublist hw (.cons _ (.cons _ (.cons_cons _ .slnil)))) ?_
          refine TH.loud 4 rfl (by kernel_rfl) ?_
          refine TL.appendI 0 (ev_t rfl) (ev_t rfl) rfl slT_34 (fun w hw => ri_resl ((ri_row 2 rfl) w hw) hs29 hs30) (by first | omega | (simp [-List.getD_eq_getElem?_getD] <;> omega)) rfl (fun v8_4 => ?_)
          refine TL.nil ?_
          refine TH.back (fun w hw => Hp.sublist hw (.cons _ (.cons _ (.cons_cons _ .slnil)))) ?_
          refine TH.loud 10 rfl (by kernel_rfl) ?_
          refine TL.appendI 0 (ev_t rfl) (ev_t rfl) rfl slT_34 (ri_row 1 rfl) (by first | omega | (simp [-List.getD_eq_getElem?_getD] <;> omega)) rfl (fun v8_10 => ?_)
          refine TL.nil ?_
          refine TH.back (fun w hw => Hp.sublist hw (.cons _ (.cons _ (.cons_cons _ .slnil)))) ?_
          refine TH.loud 14 rfl (by kernel_rfl) ?_
          refine TL.appendI 0 (ev_t rfl) (ev_t rfl) rfl slT_34 (fun w hw => ri_resl ((ri_row 2 rfl) w hw) hs32 hs33) (by first | omega | (simp [-List.getD_eq_getElem?_getD] <;> omega)) rfl (fun v8_14 => ?_)
          refine TL.nil ?_
          refine TH.back (fun w hw => Hp.sublist hw (.cons _ (.cons _ (.cons_cons _ .slnil)))) ?_
          refine TH.take 15 rfl (by kernel_rfl) (y_assign (ev_t rfl)) rfl rfl rfl ?_
          refine TH.done (by kernel_rfl) ?_
          exact fun a' w' hs hw => ⟨v8_14, hs.sub ⟨rfl, rfl, rfl, trivial⟩, Hp.sublist hw (.cons_cons _ (.cons _ (.cons _ .slnil)))⟩
      · rintro a' w' ⟨v8_14, hs', hw'⟩
        refine (?_ : TN _ .normal 46 (Hp w [rowI 3 v8_14 (((([] : List Int) ++ ((out1.take k2).drop 0)) ++ ([(list.getD i1 0)])) ++ ((out1.take out1.length).drop k2))]) [(0, vlist), (3, v8_14), (4, (.int .i64 (i1 : Int)))]) a' w' hs' hw'
        clear hs' hw'
        refine TN.blockN ?_
        refine TN.seq ?_
        refine TC.region ?_
        refine TL.op (yq (y_move (ev_t rfl))) rfl rfl rfl ?_
        refine TL.op (yq (y_add (ev_t rfl) ev_c (by unfold In64; omega))) rfl rfl rfl ?_
        refine TL.op (yq (y_assign (ev_t rfl))) rfl rfl rfl ?_
        refine TL.nil ?_
        exact TN.hand (mf1, (((([] : List Int) ++ ((out1.take k2).drop 0)) ++ ([(list.getD i1 0)])) ++ ((out1.take out1.length).drop k2)), (i1 + 1), v8_14) ⟨(by first | omega | (simp [-List.getD_eq_getElem?_getD] <;> omega)), (by first | omega | (simp [-List.getD_eq_getElem?_getD] <;> omega)), (by omega), hL1⟩ (Nat.lt_succ_self _) ⟨rfl, rfl, rfl, trivial⟩ (fun w hw => hw)
  · rw [bif_neg h23] at hL1
    have q24 := (of_decide_eq_false h23)
    refine TC.exit ?_
    refine TN.thenE ?_
    refine TN.thenE ?_
    rw [← hL1, elim_next] at hF
    try dsimp only at hF
    refine TN.blockH ?_
    refine TN.seq ?_
    refine TC.seq ?_
    refine TC.region ?_
    refine TL.op (yq (y_move (ev_t rfl))) rfl rfl rfl ?_
    refine TL.op (yq (y_assign (ev_t rfl))) rfl rfl rfl ?_
    refine TL.nil ?_
    refine TN.seq ?_
    refine TC.ret ?_
    subst hF
    exact TN.ret1 rfl (ev_t rfl) (fun w' hw => ⟨vout1, rfl, hw⟩)

end Go.Proofs.Ytfhhfhiooehlcaa
