/-
  Walks of the functions that a law reaches: each computes its plain function. No condition but the bounds that are typed.
-/
import Derived.Test.YtilmadapmcnlgaaFacts
import Derived.Test.YtilmadapmcnlgaaHeld
import Derived.Test.YtilmadapmcnlgaaGat
import Derived.Test.YtilmadapmcnlgaaLawY
namespace Go.Proofs.Ytilmadapmcnlgaa
open Go Go.RowKit

set_option maxRecDepth 4000 in
set_option maxHeartbeats 1000000 in
theorem spec_l1In_ok (w : World) (x : Int) (a : Int) (b : Int)  :
    Calls Try.prog 96 ([(.int .i64 x), (.int .i64 a), (.int .i64 b)] : List Value).toArray w (Ret (.bool (F_spec_l1In x a b)) (Hp w [])) := by
  obtain ⟨rz, hF⟩ : ∃ rz, (F_spec_l1In x a b) = rz := ⟨_, rfl⟩
  rw [hF]
  unfold F_spec_l1In at hF
  refine calls_tc Try.func96 rfl rfl rfl ?_
  change TC _ _ _ _ (Hp w []) [(0, (.int .i64 x)), (1, (.int .i64 a)), (2, (.int .i64 b))]
  refine TC.seq ?_
  refine TC.region ?_
  refine TL.op (yq (y_assign ev_c)) rfl rfl rfl ?_
  refine TL.nil ?_
  refine TN.seq ?_
  refine TC.seq ?_
  refine TC.region ?_
  refine TL.op (yq (y_move (ev_t rfl))) rfl rfl rfl ?_
  refine TL.op (yq (y_move (ev_t rfl))) rfl rfl rfl ?_
  refine TL.op (yq (y_geq (ev_t rfl) (ev_t rfl))) rfl rfl rfl ?_
  refine TL.op (yq (y_move (ev_t rfl))) rfl rfl rfl ?_
  refine TL.opw (w_t rfl rfl rfl) (fun hg => yq (y_move (ev_t rfl))) rfl rfl ?_
  refine TL.opw (w_t rfl rfl rfl) (fun hg => yq (y_move (ev_t rfl))) rfl rfl ?_
  refine TL.opw (w_t rfl rfl rfl) (fun hg => yq (y_leq (ev_g rfl hg) (ev_g rfl hg))) rfl rfl ?_
  refine TL.op (yq (y_and (ev_t rfl) (fun hq => (ev_g rfl hq)))) rfl rfl rfl ?_
  refine TL.op (yq (y_assign (ev_t rfl))) rfl rfl rfl ?_
  refine TL.nil ?_
  refine TN.seq ?_
  refine TC.ret ?_
  subst hF
  exact TN.ret1 rfl (ev_t rfl) (fun w' hw => ⟨rfl, hw⟩)

set_option maxRecDepth 4000 in
set_option maxHeartbeats 1000000 in
theorem impl_within_ok (w : World) (n : Int) (lo : Int) (hi : Int)  :
    Calls Try.prog 78 ([(.int .i64 n), (.int .i64 lo), (.int .i64 hi)] : List Value).toArray w (Ret (.bool (F_impl_within n lo hi)) (Hp w [])) := by
  obtain ⟨rz, hF⟩ : ∃ rz, (F_impl_within n lo hi) = rz := ⟨_, rfl⟩
  rw [hF]
  unfold F_impl_within at hF
  refine calls_tc Try.func78 rfl rfl rfl ?_
  change TC _ _ _ _ (Hp w []) [(0, (.int .i64 n)), (1, (.int .i64 lo)), (2, (.int .i64 hi))]
  refine TC.seq ?_
  refine TC.region ?_
  refine TL.op (yq (y_assign ev_c)) rfl rfl rfl ?_
  refine TL.nil ?_
  refine TN.seq ?_
  refine TC.seq ?_
  refine TC.region ?_
  refine TL.op (yq (y_move (ev_t rfl))) rfl rfl rfl ?_
  refine TL.op (yq (y_move (ev_t rfl))) rfl rfl rfl ?_
  refine TL.op (yq (y_geq (ev_t rfl) (ev_t rfl))) rfl rfl rfl ?_
  refine TL.op (yq (y_move (ev_t rfl))) rfl rfl rfl ?_
  refine TL.opw (w_t rfl rfl rfl) (fun hg => yq (y_move (ev_t rfl))) rfl rfl ?_
  refine TL.opw (w_t rfl rfl rfl) (fun hg => yq (y_move (ev_t rfl))) rfl rfl ?_
  refine TL.opw (w_t rfl rfl rfl) (fun hg => yq (y_leq (ev_g rfl hg) (ev_g rfl hg))) rfl rfl ?_
  refine TL.op (yq (y_and (ev_t rfl) (fun hq => (ev_g rfl hq)))) rfl rfl rfl ?_
  refine TL.op (yq (y_assign (ev_t rfl))) rfl rfl rfl ?_
  refine TL.nil ?_
  refine TN.seq ?_
  refine TC.ret ?_
  subst hF
  exact TN.ret1 rfl (ev_t rfl) (fun w' hw => ⟨rfl, hw⟩)

set_option maxRecDepth 4000 in
set_option maxHeartbeats 1000000 in
theorem laws_eqIntS_ok (w : World) (va : Value) (a : List Int) (ha : RI w va a) (vb : Value) (b : List Int) (hb : RI w vb b)  :
    Calls Try.prog 21 ([va, vb] : List Value).toArray w (Ret (.bool (F_laws_eqIntS a b)) (Hp w [])) := by
  obtain ⟨rz, hF⟩ : ∃ rz, (F_laws_eqIntS a b) = rz := ⟨_, rfl⟩
  rw [hF]
  unfold F_laws_eqIntS at hF
  have hlen_a := arg_len ha
  have hlen_b := arg_len hb
  refine calls_tc Try.func21 rfl rfl rfl ?_
  change TC _ _ _ _ (Hp w []) [(0, va), (1, vb)]
  refine TC.seq ?_
  refine TC.region ?_
  refine TL.op (yq (y_assign ev_c)) rfl rfl rfl ?_
  refine TL.nil ?_
  refine TN.seq ?_
  refine TC.seq ?_
  refine TC.seq ?_
  refine TC.region ?_
  refine TL.op (yq (y_move (ev_t rfl))) rfl rfl rfl ?_
  refine TL.op (yq (y_len (ev_t rfl) Try.underlying25 (fun w hw => ((ri_arg ha) w hw).ln))) rfl rfl rfl ?_
  refine TL.op (yq (y_move (ev_t rfl))) rfl rfl rfl ?_
  refine TL.op (yq (y_len (ev_t rfl) Try.underlying25 (fun w hw => ((ri_arg hb) w hw).ln))) rfl rfl rfl ?_
  refine TL.op (yq (y_neq (ev_t rfl) (ev_t rfl))) rfl rfl rfl ?_
  refine TL.nil ?_
  refine TN.seq ?_
  refine TC.cond (b := !decide ((a.length : Int) = (b.length : Int))) (ev_t rfl) (fun h15 => ?_) (fun h15 => ?_)
  · rw [bif_pos h15] at hF
    have q16 := (of_decide_eq_false (not_t h15))
    refine TC.seq ?_
    refine TC.region ?_
    refine TL.op (yq (y_assign ev_c)) rfl rfl rfl ?_
    refine TL.nil ?_
    refine TN.seq ?_
    refine TC.ret ?_
    refine TN.thenR ?_
    subst hF
    exact TN.ret1 rfl (ev_t rfl) (fun w' hw => ⟨rfl, hw⟩)
  · rw [bif_neg h15] at hF
    have q16 := (of_decide_eq_true (not_f h15))
    refine TC.skip ?_
    refine TN.seq ?_
    refine TC.seq ?_
    refine TC.seq ?_
    refine TC.region ?_
    refine TL.op (yq (y_assign ev_c)) rfl rfl rfl ?_
    refine TL.nil ?_
    refine TN.seq ?_
    refine TC.block ?_
    obtain ⟨c17, hc18⟩ : ∃ c, F_laws_eqIntS_L1 a b ((a.length - 0) + 1) 0 = c := ⟨_, rfl⟩
    rw [hc18] at hF
    refine TC.loop (ι := Nat × Nat) (fun (fu1, i1) => [(0, va), (1, vb), (5, (.int .i64 (i1 : Int)))]) (fun (fu1, i1) => Hp w []) (fun (fu1, i1) => (i1 ≤ a.length) ∧ a.length - i1 < fu1 ∧ F_laws_eqIntS_L1 a b fu1 i1 = c17) (fun (fu1, i1) => fu1) ((a.length - 0) + 1, 0) ⟨(by first | omega | (simp [-List.getD_eq_getElem?_getD] <;> omega)), (by omega), hc18⟩ ⟨rfl, rfl, rfl, trivial⟩ (fun w hw => hw) ?_
    rintro ⟨fu1, i1⟩ hJ1
    obtain ⟨hi1_0, hmu1, hL1⟩ : (i1 ≤ a.length) ∧ a.length - i1 < fu1 ∧ F_laws_eqIntS_L1 a b fu1 i1 = c17 := hJ1
    change TC _ _ _ _ (Hp w []) [(0, va), (1, vb), (5, (.int .i64 (i1 : Int)))]
    obtain ⟨mf1, rfl⟩ : ∃ m, fu1 = m + 1 := ⟨fu1 - 1, by omega⟩
    rw [F_laws_eqIntS_L1_s] at hL1
    refine TC.seq ?_
    refine TC.seq ?_
    refine TC.region ?_
    refine TL.op (yq (y_move (ev_t rfl))) rfl rfl rfl ?_
    refine TL.op (yq (y_move (ev_t rfl))) rfl rfl rfl ?_
    refine TL.op (yq (y_len (ev_t rfl) Try.underlying25 (fun w hw => ((ri_arg ha) w hw).ln))) rfl rfl rfl ?_
    refine TL.op (yq (y_lss (ev_t rfl) (ev_t rfl))) rfl rfl rfl ?_
    refine TL.nil ?_
    refine TN.seq ?_
    refine TC.cond (b := decide ((i1 : Int) < (a.length : Int))) (ev_t rfl) (fun h19 => ?_) (fun h19 => ?_)
    · rw [bif_pos h19] at hL1
      have q20 := (of_decide_eq_true h19)
      refine TC.skip ?_
      refine TN.seq ?_
      refine TC.seq ?_
      refine TC.block ?_
      refine TC.seq ?_
      refine TC.regionQ (by kernel_rfl) (by kernel_rfl) dr_hp ?_
      refine TQ.op (yq (y_move (ev_t rfl))) rfl rfl rfl ?_
      refine TQ.op (yq (y_move (ev_t rfl))) rfl rfl rfl ?_
      have hb21 : i1 < a.length := (by first | omega | (simp only [List.length_set, List.length_append, List.length_cons, List.length_nil, List.length_replicate]; omega) | (rw [sortI_length]; simp only [List.length_cons, List.length_nil]; omega))
      refine TQ.op (yq (y_idx (k := i1) (ev_t rfl) (ev_t rfl) (by first | omega | simp) slT_25 (ri_arg ha) hb21)) rfl rfl rfl ?_
      refine TQ.op (yq (y_ldi (ev_t rfl) one_3 (ri_arg ha) hb21)) rfl rfl rfl ?_
      refine TQ.op (yq (y_move (ev_t rfl))) rfl rfl rfl ?_
      refine TQ.op (yq (y_move (ev_t rfl))) rfl rfl rfl ?_
      have hb22 : i1 < b.length := (by first | omega | (simp only [List.length_set, List.length_append, List.length_cons, List.length_nil, List.length_replicate]; omega) | (rw [sortI_length]; simp only [List.length_cons, List.length_nil]; omega))
      refine TQ.op (yq (y_idx (k := i1) (ev_t rfl) (ev_t rfl) (by first | omega | simp) slT_25 (ri_arg hb) hb22)) rfl rfl rfl ?_
      refine TQ.op (yq (y_ldi (ev_t rfl) one_3 (ri_arg hb) hb22)) rfl rfl rfl ?_
      refine TQ.op (yq (y_neq (ev_t rfl) (ev_t rfl))) rfl rfl rfl ?_
      refine TQ.nil ?_
      refine TN.seq ?_
      refine TC.cond (b := !decide ((a.getD i1 0) = (b.getD i1 0))) (ev_t rfl) (fun h23 => ?_) (fun h23 => ?_)
      · rw [bif_pos h23] at hL1
        have q24 := (of_decide_eq_false (not_t h23))
        refine TC.seq ?_
        refine TC.region ?_
        refine TL.op (yq (y_assign ev_c)) rfl rfl rfl ?_
        refine TL.nil ?_
        refine TN.seq ?_
        refine TC.ret ?_
        refine TN.blockR ?_
        refine TN.thenR ?_
        refine TN.thenR ?_
        rw [← hL1, elim_ret] at hF
        refine TN.blockR ?_
        refine TN.thenR ?_
        subst hF
        exact TN.ret1 rfl (ev_t rfl) (fun w' hw => ⟨rfl, hw⟩)
      · rw [bif_neg h23] at hL1
        have q24 := (of_decide_eq_true (not_f h23))
        refine TC.skip ?_
        refine TN.blockN ?_
        refine TN.seq ?_
        refine TC.region ?_
        refine TL.op (yq (y_move (ev_t rfl))) rfl rfl rfl ?_
        refine TL.op (yq (y_add (ev_t rfl) ev_c (by unfold In64; omega))) rfl rfl rfl ?_
        refine TL.op (yq (y_assign (ev_t rfl))) rfl rfl rfl ?_
        refine TL.nil ?_
        exact TN.hand (mf1, (i1 + 1)) ⟨(by first | omega | (simp [-List.getD_eq_getElem?_getD] <;> omega)), (by omega), hL1⟩ (Nat.lt_succ_self _) ⟨rfl, rfl, rfl, trivial⟩ (fun w hw => hw)
    · rw [bif_neg h19] at hL1
      have q20 := (of_decide_eq_false h19)
      refine TC.exit ?_
      refine TN.thenE ?_
      refine TN.thenE ?_
      rw [← hL1, elim_next] at hF
      try dsimp only at hF
      refine TN.blockH ?_
      refine TN.seq ?_
      refine TC.seq ?_
      refine TC.region ?_
      refine TL.op (yq (y_assign ev_c)) rfl rfl rfl ?_
      refine TL.nil ?_
      refine TN.seq ?_
      refine TC.ret ?_
      subst hF
      exact TN.ret1 rfl (ev_t rfl) (fun w' hw => ⟨rfl, hw⟩)

set_option maxRecDepth 4000 in
set_option maxHeartbeats 1000000 in
theorem laws_toIntS_ok (w : World) (va : Value) (a : List Int) (ha : RI w va a) (hp0 : a.length ≤ 1048576) :
    Calls Try.prog 18 ([va] : List Value).toArray w (fun e w' => ∃ i : Value, e = .returned i ∧ Hp w [rowI 3 i (F_laws_toIntS a)] w') := by
  obtain ⟨rz, hF⟩ : ∃ rz, (F_laws_toIntS a) = rz := ⟨_, rfl⟩
  rw [hF]
  unfold F_laws_toIntS at hF
  have hlen_a := arg_len ha
  refine calls_tc Try.func18 rfl rfl rfl ?_
  change TC _ _ _ _ (Hp w []) [(0, va)]
  refine TC.seq ?_
  refine TC.region ?_
  refine TL.op (yq (y_assign ev_c)) rfl rfl rfl ?_
  refine TL.nil ?_
  refine TN.seq ?_
  refine TC.seq ?_
  refine TC.region ?_
  refine TL.op (yq (y_move (ev_t rfl))) rfl rfl rfl ?_
  refine TL.op (yq (y_len (ev_t rfl) Try.underlying25 (fun w hw => ((ri_arg ha) w hw).ln))) rfl rfl rfl ?_
  refine TL.makeSlice (n := a.length) (ev_t rfl) (ev_t rfl) (by omega) slT_25 rfl (by omega) (by unfold maxLen; omega) rfl (fun v1_2 => ?_)
  refine TL.cls (fun w hw => hw.zeros) ?_
  refine TL.op (yq (y_assign (ev_t rfl))) rfl rfl rfl ?_
  refine TL.nil ?_
  refine TN.seq ?_
  refine TC.seq ?_
  refine TC.seq ?_
  refine TC.region ?_
  refine TL.op (yq (y_assign ev_c)) rfl rfl rfl ?_
  refine TL.nil ?_
  refine TN.seq ?_
  refine TC.block ?_
  obtain ⟨c13, hc14⟩ : ∃ c, F_laws_toIntS_L1 a ((a.length - 0) + 1) (0, (List.replicate a.length (0 : Int))) = c := ⟨_, rfl⟩
  rw [hc14] at hF
  refine TC.loop (ι := Nat × Nat × List Int) (fun (fu1, i1, out1) => [(0, va), (3, v1_2), (4, (.int .i64 (i1 : Int)))]) (fun (fu1, i1, out1) => Hp w [rowI 3 v1_2 out1]) (fun (fu1, i1, out1) => (i1 ≤ a.length) ∧ (out1.length = a.length) ∧ a.length - i1 < fu1 ∧ F_laws_toIntS_L1 a fu1 (i1, out1) = c13) (fun (fu1, i1, out1) => fu1) ((a.length - 0) + 1, 0, (List.replicate a.length (0 : Int))) ⟨(by first | omega | (simp [-List.getD_eq_getElem?_getD] <;> omega)), (by first | omega | (simp [-List.getD_eq_getElem?_getD] <;> omega)), (by omega), hc14⟩ ⟨rfl, rfl, rfl, trivial⟩ (fun w hw => hw) ?_
  rintro ⟨fu1, i1, out1⟩ hJ1
  obtain ⟨hi1_0, hi1_1, hmu1, hL1⟩ : (i1 ≤ a.length) ∧ (out1.length = a.length) ∧ a.length - i1 < fu1 ∧ F_laws_toIntS_L1 a fu1 (i1, out1) = c13 := hJ1
  change TC _ _ _ _ (Hp w [rowI 3 v1_2 out1]) [(0, va), (3, v1_2), (4, (.int .i64 (i1 : Int)))]
  obtain ⟨mf1, rfl⟩ : ∃ m, fu1 = m + 1 := ⟨fu1 - 1, by omega⟩
  rw [F_laws_toIntS_L1_s] at hL1
  refine TC.seq ?_
  refine TC.seq ?_
  refine TC.region ?_
  refine TL.op (yq (y_move (ev_t rfl))) rfl rfl rfl ?_
  refine TL.op (yq (y_move (ev_t rfl))) rfl rfl rfl ?_
  refine TL.op (yq (y_len (ev_t rfl) Try.underlying25 (fun w hw => ((ri_arg ha) w hw).ln))) rfl rfl rfl ?_
  refine TL.op (yq (y_lss (ev_t rfl) (ev_t rfl))) rfl rfl rfl ?_
  refine TL.nil ?_
  refine TN.seq ?_
  refine TC.cond (b := decide ((i1 : Int) < (a.length : Int))) (ev_t rfl) (fun h15 => ?_) (fun h15 => ?_)
  · rw [bif_pos h15] at hL1
    have q16 := (of_decide_eq_true h15)
    refine TC.skip ?_
    refine TN.seq ?_
    refine TC.seq ?_
    refine TC.block ?_
    refine TC.region ?_
    refine TL.op (yq (y_move (ev_t rfl))) rfl rfl rfl ?_
    refine TL.op (yq (y_move (ev_t rfl))) rfl rfl rfl ?_
    refine TL.op (yq (y_move (ev_t rfl))) rfl rfl rfl ?_
    refine TL.op (yq (y_move (ev_t rfl))) rfl rfl rfl ?_
    have hb17 : i1 < a.length := (by first | omega | (simp only [List.length_set, List.length_append, List.length_cons, List.length_nil, List.length_replicate]; omega) | (rw [sortI_length]; simp only [List.length_cons, List.length_nil]; omega))
    refine TL.op (yq (y_idx (k := i1) (ev_t rfl) (ev_t rfl) (by first | omega | simp) slT_25 (ri_arg ha) hb17)) rfl rfl rfl ?_
    refine TL.op (yq (y_ldi (ev_t rfl) one_3 (ri_arg ha) hb17)) rfl rfl rfl ?_
    have hb18 : i1 < out1.length := (by first | omega | (simp only [List.length_set, List.length_append, List.length_cons, List.length_nil, List.length_replicate]; omega) | (rw [sortI_length]; simp only [List.length_cons, List.length_nil]; omega))
    refine TL.op (yq (y_idx (k := i1) (ev_t rfl) (ev_t rfl) (by first | omega | simp) slT_25 (ri_row 0 rfl) hb18)) rfl rfl rfl ?_
    refine TL.storeI 0 (ev_t rfl) (ev_t rfl) one_3 rfl hb18 ?_
    refine TL.nil ?_
    refine TN.blockN ?_
    refine TN.seq ?_
    refine TC.region ?_
    refine TL.op (yq (y_move (ev_t rfl))) rfl rfl rfl ?_
    refine TL.op (yq (y_add (ev_t rfl) ev_c (by unfold In64; omega))) rfl rfl rfl ?_
    refine TL.op (yq (y_assign (ev_t rfl))) rfl rfl rfl ?_
    refine TL.nil ?_
    exact TN.hand (mf1, (i1 + 1), (out1.set i1 (a.getD i1 0))) ⟨(by first | omega | (simp [-List.getD_eq_getElem?_getD] <;> omega)), (by first | omega | (simp [-List.getD_eq_getElem?_getD] <;> omega)), (by omega), hL1⟩ (Nat.lt_succ_self _) ⟨rfl, rfl, rfl, trivial⟩ (fun w hw => hw)
  · rw [bif_neg h15] at hL1
    have q16 := (of_decide_eq_false h15)
    refine TC.exit ?_
    refine TN.thenE ?_
    refine TN.thenE ?_
    rw [← hL1, elim_next] at hF
    try dsimp only at hF
    refine TN.blockH ?_
    refine TN.seq ?_
    refine TC.seq ?_
    refine TC.region ?_
    refine TL.op (yq (y_move (ev_t rfl))) rfl rfl rfl ?_
    refine TL.op (yq (y_assign (ev_t rfl))) rfl rfl rfl ?_
    refine TL.nil ?_
    refine TN.seq ?_
    refine TC.ret ?_
    subst hF
    exact TN.ret1 rfl (ev_t rfl) (fun w' hw => ⟨v1_2, rfl, hw⟩)

set_option maxRecDepth 4000 in
set_option maxHeartbeats 1000000 in
theorem spec_l1Has_ok (w : World) (vl : Value) (l : List Int) (hl : RI w vl l) (n : Int)  :
    Calls Try.prog 120 ([vl, (.int .i64 n)] : List Value).toArray w (Ret (.bool (F_spec_l1Has l n)) (Hp w [])) := by
  obtain ⟨rz, hF⟩ : ∃ rz, (F_spec_l1Has l n) = rz := ⟨_, rfl⟩
  rw [hF]
  unfold F_spec_l1Has at hF
  have hlen_l := arg_len hl
  refine calls_tc Try.func120 rfl rfl rfl ?_
  change TC _ _ _ _ (Hp w []) [(0, vl), (1, (.int .i64 n))]
  refine TC.seq ?_
  refine TC.region ?_
  refine TL.op (yq (y_assign ev_c)) rfl rfl rfl ?_
  refine TL.nil ?_
  refine TN.seq ?_
  refine TC.seq ?_
  refine TC.seq ?_
  refine TC.region ?_
  refine TL.op (yq (y_assign ev_c)) rfl rfl rfl ?_
  refine TL.nil ?_
  refine TN.seq ?_
  refine TC.block ?_
  obtain ⟨c11, hc12⟩ : ∃ c, F_spec_l1Has_L1 l n ((l.length - 0) + 1) 0 = c := ⟨_, rfl⟩
  rw [hc12] at hF
  refine TC.loop (ι := Nat × Nat) (fun (fu1, i1) => [(0, vl), (1, (.int .i64 n)), (5, (.int .i64 (i1 : Int)))]) (fun (fu1, i1) => Hp w []) (fun (fu1, i1) => (i1 ≤ l.length) ∧ l.length - i1 < fu1 ∧ F_spec_l1Has_L1 l n fu1 i1 = c11) (fun (fu1, i1) => fu1) ((l.length - 0) + 1, 0) ⟨(by first | omega | (simp [-List.getD_eq_getElem?_getD] <;> omega)), (by omega), hc12⟩ ⟨rfl, rfl, rfl, trivial⟩ (fun w hw => hw) ?_
  rintro ⟨fu1, i1⟩ hJ1
  obtain ⟨hi1_0, hmu1, hL1⟩ : (i1 ≤ l.length) ∧ l.length - i1 < fu1 ∧ F_spec_l1Has_L1 l n fu1 i1 = c11 := hJ1
  change TC _ _ _ _ (Hp w []) [(0, vl), (1, (.int .i64 n)), (5, (.int .i64 (i1 : Int)))]
  obtain ⟨mf1, rfl⟩ : ∃ m, fu1 = m + 1 := ⟨fu1 - 1, by omega⟩
  rw [F_spec_l1Has_L1_s] at hL1
  refine TC.seq ?_
  refine TC.seq ?_
  refine TC.region ?_
  refine TL.op (yq (y_move (ev_t rfl))) rfl rfl rfl ?_
  refine TL.op (yq (y_move (ev_t rfl))) rfl rfl rfl ?_
  refine TL.op (yq (y_len (ev_t rfl) Try.underlying25 (fun w hw => ((ri_arg hl) w hw).ln))) rfl rfl rfl ?_
  refine TL.op (yq (y_lss (ev_t rfl) (ev_t rfl))) rfl rfl rfl ?_
  refine TL.nil ?_
  refine TN.seq ?_
  refine TC.cond (b := decide ((i1 : Int) < (l.length : Int))) (ev_t rfl) (fun h13 => ?_) (fun h13 => ?_)
  · rw [bif_pos h13] at hL1
    have q14 := (of_decide_eq_true h13)
    refine TC.skip ?_
    refine TN.seq ?_
    refine TC.seq ?_
    refine TC.block ?_
    refine TC.seq ?_
    refine TC.region ?_
    refine TL.op (yq (y_move (ev_t rfl))) rfl rfl rfl ?_
    refine TL.op (yq (y_move (ev_t rfl))) rfl rfl rfl ?_
    have hb15 : i1 < l.length := (by first | omega | (simp only [List.length_set, List.length_append, List.length_cons, List.length_nil, List.length_replicate]; omega) | (rw [sortI_length]; simp only [List.length_cons, List.length_nil]; omega))
    refine TL.op (yq (y_idx (k := i1) (ev_t rfl) (ev_t rfl) (by first | omega | simp) slT_25 (ri_arg hl) hb15)) rfl rfl rfl ?_
    refine TL.op (yq (y_ldi (ev_t rfl) one_3 (ri_arg hl) hb15)) rfl rfl rfl ?_
    refine TL.op (yq (y_move (ev_t rfl))) rfl rfl rfl ?_
    refine TL.op (yq (y_eql (ev_t rfl) (ev_t rfl))) rfl rfl rfl ?_
    refine TL.nil ?_
    refine TN.seq ?_
    refine TC.cond (b := decide ((l.getD i1 0) = n)) (ev_t rfl) (fun h16 => ?_) (fun h16 => ?_)
    · rw [bif_pos h16] at hL1
      have q17 := (of_decide_eq_true h16)
      refine TC.seq ?_
      refine TC.region ?_
      refine TL.op (yq (y_assign ev_c)) rfl rfl rfl ?_
      refine TL.nil ?_
      refine TN.seq ?_
      refine TC.ret ?_
      refine TN.blockR ?_
      refine TN.thenR ?_
      refine TN.thenR ?_
      rw [← hL1, elim_ret] at hF
      refine TN.blockR ?_
      refine TN.thenR ?_
      subst hF
      exact TN.ret1 rfl (ev_t rfl) (fun w' hw => ⟨rfl, hw⟩)
    · rw [bif_neg h16] at hL1
      have q17 := (of_decide_eq_false h16)
      refine TC.skip ?_
      refine TN.blockN ?_
      refine TN.seq ?_
      refine TC.region ?_
      refine TL.op (yq (y_move (ev_t rfl))) rfl rfl rfl ?_
      refine TL.op (yq (y_add (ev_t rfl) ev_c (by unfold In64; omega))) rfl rfl rfl ?_
      refine TL.op (yq (y_assign (ev_t rfl))) rfl rfl rfl ?_
      refine TL.nil ?_
      exact TN.hand (mf1, (i1 + 1)) ⟨(by first | omega | (simp [-List.getD_eq_getElem?_getD] <;> omega)), (by omega), hL1⟩ (Nat.lt_succ_self _) ⟨rfl, rfl, rfl, trivial⟩ (fun w hw => hw)
  · rw [bif_neg h13] at hL1
    have q14 := (of_decide_eq_false h13)
    refine TC.exit ?_
    refine TN.thenE ?_
    refine TN.thenE ?_
    rw [← hL1, elim_next] at hF
    try dsimp only at hF
    refine TN.blockH ?_
    refine TN.seq ?_
    refine TC.seq ?_
    refine TC.region ?_
    refine TL.op (yq (y_assign ev_c)) rfl rfl rfl ?_
    refine TL.nil ?_
    refine TN.seq ?_
    refine TC.ret ?_
    subst hF
    exact TN.ret1 rfl (ev_t rfl) (fun w' hw => ⟨rfl, hw⟩)

set_option maxRecDepth 4000 in
set_option maxHeartbeats 1000000 in
theorem laws_eqIntSS_ok (w : World) (va : Value) (ua : List Value) (a : List (List Int)) (ha : RII w va ua a) (vb : Value) (ub : List Value) (b : List (List Int)) (hb : RII w vb ub b)  :
    Calls Try.prog 29 ([va, vb] : List Value).toArray w (Ret (.bool (F_laws_eqIntSS a b)) (Hp w [])) := by
  obtain ⟨rz, hF⟩ : ∃ rz, (F_laws_eqIntSS a b) = rz := ⟨_, rfl⟩
  rw [hF]
  unfold F_laws_eqIntSS at hF
  have hlen_a := argT_len ha
  have hlen_b := argT_len hb
  refine calls_tc Try.func29 rfl rfl rfl ?_
  change TC _ _ _ _ (Hp w []) [(0, va), (1, vb)]
  refine TC.seq ?_
  refine TC.region ?_
  refine TL.op (yq (y_assign ev_c)) rfl rfl rfl ?_
  refine TL.nil ?_
  refine TN.seq ?_
  refine TC.seq ?_
  refine TC.seq ?_
  refine TC.region ?_
  refine TL.op (yq (y_move (ev_t rfl))) rfl rfl rfl ?_
  refine TL.op (yq (y_len (ev_t rfl) Try.underlying22 (fun w hw => ((fun w hw => ((rii_arg ha) w hw).1) w hw).ln))) rfl rfl rfl ?_
  refine TL.op (yq (y_move (ev_t rfl))) rfl rfl rfl ?_
  refine TL.op (yq (y_len (ev_t rfl) Try.underlying22 (fun w hw => ((fun w hw => ((rii_arg hb) w hw).1) w hw).ln))) rfl rfl rfl ?_
  refine TL.op (yq (y_neq (ev_t rfl) (ev_t rfl))) rfl rfl rfl ?_
  refine TL.nil ?_
  refine TN.seq ?_
  refine TC.cond (b := !decide ((a.length : Int) = (b.length : Int))) (ev_t rfl) (fun h19 => ?_) (fun h19 => ?_)
  · rw [bif_pos h19] at hF
    have q20 := (of_decide_eq_false (not_t h19))
    refine TC.seq ?_
    refine TC.region ?_
    refine TL.op (yq (y_assign ev_c)) rfl rfl rfl ?_
    refine TL.nil ?_
    refine TN.seq ?_
    refine TC.ret ?_
    refine TN.thenR ?_
    subst hF
    exact TN.ret1 rfl (ev_t rfl) (fun w' hw => ⟨rfl, hw⟩)
  · rw [bif_neg h19] at hF
    have q20 := (of_decide_eq_true (not_f h19))
    refine TC.skip ?_
    refine TN.seq ?_
    refine TC.seq ?_
    refine TC.seq ?_
    refine TC.region ?_
    refine TL.op (yq (y_assign ev_c)) rfl rfl rfl ?_
    refine TL.nil ?_
    refine TN.seq ?_
    refine TC.block ?_
    obtain ⟨c21, hc22⟩ : ∃ c, F_laws_eqIntSS_L1 a b ((a.length - 0) + 1) 0 = c := ⟨_, rfl⟩
    rw [hc22] at hF
    refine TC.loop (ι := Nat × Nat) (fun (fu1, i1) => [(0, va), (1, vb), (5, (.int .i64 (i1 : Int)))]) (fun (fu1, i1) => Hp w []) (fun (fu1, i1) => (i1 ≤ a.length) ∧ a.length - i1 < fu1 ∧ F_laws_eqIntSS_L1 a b fu1 i1 = c21) (fun (fu1, i1) => fu1) ((a.length - 0) + 1, 0) ⟨(by first | omega | (simp [-List.getD_eq_getElem?_getD] <;> omega)), (by omega), hc22⟩ ⟨rfl, rfl, rfl, trivial⟩ (fun w hw => hw) ?_
    rintro ⟨fu1, i1⟩ hJ1
    obtain ⟨hi1_0, hmu1, hL1⟩ : (i1 ≤ a.length) ∧ a.length - i1 < fu1 ∧ F_laws_eqIntSS_L1 a b fu1 i1 = c21 := hJ1
    change TC _ _ _ _ (Hp w []) [(0, va), (1, vb), (5, (.int .i64 (i1 : Int)))]
    obtain ⟨mf1, rfl⟩ : ∃ m, fu1 = m + 1 := ⟨fu1 - 1, by omega⟩
    rw [F_laws_eqIntSS_L1_s] at hL1
    refine TC.seq ?_
    refine TC.seq ?_
    refine TC.region ?_
    refine TL.op (yq (y_move (ev_t rfl))) rfl rfl rfl ?_
    refine TL.op (yq (y_move (ev_t rfl))) rfl rfl rfl ?_
    refine TL.op (yq (y_len (ev_t rfl) Try.underlying22 (fun w hw => ((fun w hw => ((rii_arg ha) w hw).1) w hw).ln))) rfl rfl rfl ?_
    refine TL.op (yq (y_lss (ev_t rfl) (ev_t rfl))) rfl rfl rfl ?_
    refine TL.nil ?_
    refine TN.seq ?_
    refine TC.cond (b := decide ((i1 : Int) < (a.length : Int))) (ev_t rfl) (fun h23 => ?_) (fun h23 => ?_)
    · rw [bif_pos h23] at hL1
      have q24 := (of_decide_eq_true h23)
      refine TC.skip ?_
      refine TN.seq ?_
      refine TC.seq ?_
      refine TC.block ?_
      refine TC.seq ?_
      refine TC.regionQ (by kernel_rfl) (by kernel_rfl) dr_hp ?_
      refine TQ.op (yq (y_move (ev_t rfl))) rfl rfl rfl ?_
      refine TQ.op (yq (y_move (ev_t rfl))) rfl rfl rfl ?_
      have hb25 : i1 < a.length := (by first | omega | (simp only [List.length_set, List.length_append, List.length_cons, List.length_nil, List.length_replicate]; omega) | (rw [sortI_length]; simp only [List.length_cons, List.length_nil]; omega))
      refine TQ.op (yq (y_idx (k := i1) (ev_t rfl) (ev_t rfl) (by first | omega | simp) slT_22 (fun w hw => ((rii_arg ha) w hw).1) hb25)) rfl rfl rfl ?_
      have ha26 := ha.row (i := i1) hb25
      refine TQ.op (yq (y_ldA (ev_t rfl) one_25 (rii_arg ha) hb25)) rfl rfl rfl ?_
      refine TQ.op (yq (y_move (ev_t rfl))) rfl rfl rfl ?_
      refine TQ.op (yq (y_move (ev_t rfl))) rfl rfl rfl ?_
      have hb27 : i1 < b.length := (by first | omega | (simp only [List.length_set, List.length_append, List.length_cons, List.length_nil, List.length_replicate]; omega) | (rw [sortI_length]; simp only [List.length_cons, List.length_nil]; omega))
      refine TQ.op (yq (y_idx (k := i1) (ev_t rfl) (ev_t rfl) (by first | omega | simp) slT_22 (fun w hw => ((rii_arg hb) w hw).1) hb27)) rfl rfl rfl ?_
      have ha28 := hb.row (i := i1) hb27
      refine TQ.op (yq (y_ldA (ev_t rfl) one_25 (rii_arg hb) hb27)) rfl rfl rfl ?_
      refine TQ.op (y_call (vs := [(ua.getD i1 undef), (ub.getD i1 undef)]) (v := (.bool (F_laws_eqIntS (a.getD i1 []) (b.getD i1 [])))) en_21 ⟨(ev_t rfl), (ev_t rfl), trivial⟩ (fun w hw => laws_eqIntS_ok w (ua.getD i1 undef) (a.getD i1 []) ((ri_arg ha26) w hw) (ub.getD i1 undef) (b.getD i1 []) ((ri_arg ha28) w hw))) rfl rfl rfl ?_
      refine TQ.op (yq (y_not (ev_t rfl))) rfl rfl rfl ?_
      refine TQ.nil ?_
      refine TN.seq ?_
      refine TC.cond (b := !(F_laws_eqIntS (a.getD i1 []) (b.getD i1 []))) (ev_t rfl) (fun h29 => ?_) (fun h29 => ?_)
      · rw [bif_pos h29] at hL1
        have q30 := (not_t h29)
        refine TC.seq ?_
        refine TC.region ?_
        refine TL.op (yq (y_assign ev_c)) rfl rfl rfl ?_
        refine TL.nil ?_
        refine TN.seq ?_
        refine TC.ret ?_
        refine TN.blockR ?_
        refine TN.thenR ?_
        refine TN.thenR ?_
        rw [← hL1, elim_ret] at hF
        refine TN.blockR ?_
        refine TN.thenR ?_
        subst hF
        exact TN.ret1 rfl (ev_t rfl) (fun w' hw => ⟨rfl, hw⟩)
      · rw [bif_neg h29] at hL1
        have q30 := (not_f h29)
        refine TC.skip ?_
        refine TN.blockN ?_
        refine TN.seq ?_
        refine TC.region ?_
        refine TL.op (yq (y_move (ev_t rfl))) rfl rfl rfl ?_
        refine TL.op (yq (y_add (ev_t rfl) ev_c (by unfold In64; omega))) rfl rfl rfl ?_
        refine TL.op (yq (y_assign (ev_t rfl))) rfl rfl rfl ?_
        refine TL.nil ?_
        exact TN.hand (mf1, (i1 + 1)) ⟨(by first | omega | (simp [-List.getD_eq_getElem?_getD] <;> omega)), (by omega), hL1⟩ (Nat.lt_succ_self _) ⟨rfl, rfl, rfl, trivial⟩ (fun w hw => hw)
    · rw [bif_neg h23] at hL1
      have q24 := (of_decide_eq_false h23)
      refine TC.exit ?_
      refine TN.thenE ?_
      refine TN.thenE ?_
      rw [← hL1, elim_next] at hF
      try dsimp only at hF
      refine TN.blockH ?_
      refine TN.seq ?_
      refine TC.seq ?_
      refine TC.region ?_
      refine TL.op (yq (y_assign ev_c)) rfl rfl rfl ?_
      refine TL.nil ?_
      refine TN.seq ?_
      refine TC.ret ?_
      subst hF
      exact TN.ret1 rfl (ev_t rfl) (fun w' hw => ⟨rfl, hw⟩)

set_option maxRecDepth 4000 in
set_option maxHeartbeats 1000000 in
theorem laws_markIntS_ok (w0 w : World) (fr : List Ck) (va : Value) (a : List Int) (hw : Hp w0 (rowI 3 va a :: fr) w) (k : Int) (hp0 : 0 ≤ k) (hp1 : k + a.length ≤ 4611686018427387904) :
    Calls Try.prog 25 ([va, (.int .i64 k)] : List Value).toArray w (fun e w' => ∃ _i : Unit, e = .returned (.int .i64 ((F_laws_markIntS a k).1)) ∧ Hp w0 (rowI 3 va ((F_laws_markIntS a k).2) :: fr) w') := by
  obtain ⟨rz, hF⟩ : ∃ rz, (F_laws_markIntS a k) = rz := ⟨_, rfl⟩
  rw [hF]
  unfold F_laws_markIntS at hF
  have hlen_a : a.length ≤ 9223372036854775807 := (hw.get 0 rfl).maxn
  refine calls_tcm Try.func25 rfl rfl rfl hw ?_
  change TC _ _ _ _ (Hp w0 ([rowI 3 va a] ++ fr)) [(0, va), (1, (.int .i64 k))]
  refine TC.seq ?_
  refine TC.region ?_
  refine TL.op (yq (y_assign ev_c)) rfl rfl rfl ?_
  refine TL.nil ?_
  refine TN.seq ?_
  refine TC.seq ?_
  refine TC.seq ?_
  refine TC.region ?_
  refine TL.op (yq (y_assign ev_c)) rfl rfl rfl ?_
  refine TL.nil ?_
  refine TN.seq ?_
  refine TC.block ?_
  obtain ⟨c10, hc11⟩ : ∃ c, F_laws_markIntS_L1  ((a.length - 0) + 1) (k, 0, a) = c := ⟨_, rfl⟩
  rw [hc11] at hF
  refine TC.loop (ι := Nat × Int × Nat × List Int) (fun (fu1, k1, i1, a1) => [(0, va), (1, (.int .i64 k1)), (5, (.int .i64 (i1 : Int)))]) (fun (fu1, k1, i1, a1) => Hp w0 ([rowI 3 va a1] ++ fr)) (fun (fu1, k1, i1, a1) => (a1.length = a.length) ∧ (i1 ≤ a.length) ∧ (k1 = k + i1) ∧ a.length - i1 < fu1 ∧ F_laws_markIntS_L1  fu1 (k1, i1, a1) = c10) (fun (fu1, k1, i1, a1) => fu1) ((a.length - 0) + 1, k, 0, a) ⟨(by first | omega | (simp [-List.getD_eq_getElem?_getD] <;> omega)), (by first | omega | (simp [-List.getD_eq_getElem?_getD] <;> omega)), (by first | omega | (simp [-List.getD_eq_getElem?_getD] <;> omega)), (by omega), hc11⟩ ⟨rfl, rfl, rfl, trivial⟩ (fun w hw => hw) ?_
  rintro ⟨fu1, k1, i1, a1⟩ hJ1
  obtain ⟨hi1_0, hi1_1, hi1_2, hmu1, hL1⟩ : (a1.length = a.length) ∧ (i1 ≤ a.length) ∧ (k1 = k + i1) ∧ a.length - i1 < fu1 ∧ F_laws_markIntS_L1  fu1 (k1, i1, a1) = c10 := hJ1
  change TC _ _ _ _ (Hp w0 ([rowI 3 va a1] ++ fr)) [(0, va), (1, (.int .i64 k1)), (5, (.int .i64 (i1 : Int)))]
  obtain ⟨mf1, rfl⟩ : ∃ m, fu1 = m + 1 := ⟨fu1 - 1, by omega⟩
  rw [F_laws_markIntS_L1_s] at hL1
  refine TC.seq ?_
  refine TC.seq ?_
  refine TC.region ?_
  refine TL.op (yq (y_move (ev_t rfl))) rfl rfl rfl ?_
  refine TL.op (yq (y_move (ev_t rfl))) rfl rfl rfl ?_
  refine TL.op (yq (y_len (ev_t rfl) Try.underlying25 (fun w hw => ((ri_row 0 rfl) w hw).ln))) rfl rfl rfl ?_
  refine TL.op (yq (y_lss (ev_t rfl) (ev_t rfl))) rfl rfl rfl ?_
  refine TL.nil ?_
  refine TN.seq ?_
  refine TC.cond (b := decide ((i1 : Int) < (a1.length : Int))) (ev_t rfl) (fun h12 => ?_) (fun h12 => ?_)
  · rw [bif_pos h12] at hL1
    have q13 := (of_decide_eq_true h12)
    refine TC.skip ?_
    refine TN.seq ?_
    refine TC.seq ?_
    refine TC.block ?_
    refine TC.seq ?_
    refine TC.region ?_
    refine TL.op (yq (y_move (ev_t rfl))) rfl rfl rfl ?_
    refine TL.op (yq (y_move (ev_t rfl))) rfl rfl rfl ?_
    refine TL.op (yq (y_move (ev_t rfl))) rfl rfl rfl ?_
    have hb14 : i1 < a1.length := (by first | omega | (simp only [List.length_set, List.length_append, List.length_cons, List.length_nil, List.length_replicate]; omega) | (rw [sortI_length]; simp only [List.length_cons, List.length_nil]; omega))
    refine TL.op (yq (y_idx (k := i1) (ev_t rfl) (ev_t rfl) (by first | omega | simp) slT_25 (ri_row 0 rfl) hb14)) rfl rfl rfl ?_
    refine TL.storeI 0 (ev_t rfl) (ev_t rfl) one_3 rfl hb14 ?_
    refine TL.nil ?_
    refine TN.seq ?_
    refine TC.region ?_
    refine TL.op (yq (y_move (ev_t rfl))) rfl rfl rfl ?_
    refine TL.op (yq (y_add (ev_t rfl) ev_c (by unfold In64; omega))) rfl rfl rfl ?_
    refine TL.op (yq (y_assign (ev_t rfl))) rfl rfl rfl ?_
    refine TL.nil ?_
    refine TN.blockN ?_
    refine TN.seq ?_
    refine TC.region ?_
    refine TL.op (yq (y_move (ev_t rfl))) rfl rfl rfl ?_
    refine TL.op (yq (y_add (ev_t rfl) ev_c (by unfold In64; omega))) rfl rfl rfl ?_
    refine TL.op (yq (y_assign (ev_t rfl))) rfl rfl rfl ?_
    refine TL.nil ?_
    exact TN.hand (mf1, k1 + 1, (i1 + 1), (a1.set i1 k1)) ⟨(by first | omega | (simp [-List.getD_eq_getElem?_getD] <;> omega)), (by first | omega | (simp [-List.getD_eq_getElem?_getD] <;> omega)), (by first | omega | (simp [-List.getD_eq_getElem?_getD] <;> omega)), (by omega), hL1⟩ (Nat.lt_succ_self _) ⟨rfl, rfl, rfl, trivial⟩ (fun w hw => hw)
  · rw [bif_neg h12] at hL1
    have q13 := (of_decide_eq_false h12)
    refine TC.exit ?_
    refine TN.thenE ?_
    refine TN.thenE ?_
    rw [← hL1, elim_next] at hF
    try dsimp only at hF
    refine TN.blockH ?_
    refine TN.seq ?_
    refine TC.seq ?_
    refine TC.region ?_
    refine TL.op (yq (y_move (ev_t rfl))) rfl rfl rfl ?_
    refine TL.op (yq (y_assign (ev_t rfl))) rfl rfl rfl ?_
    refine TL.nil ?_
    refine TN.seq ?_
    refine TC.ret ?_
    subst hF
    exact TN.ret1 rfl (ev_t rfl) (fun w' hw => ⟨(), rfl, hw⟩)

set_option maxRecDepth 4000 in
set_option maxHeartbeats 1000000 in
theorem laws_heldIntS_ok (w : World) (va : Value) (a : List Int) (ha : RI w va a) (k : Int) (hp0 : 0 ≤ k) (hp1 : k + a.length ≤ 4611686018427387904) :
    Calls Try.prog 26 ([va, (.int .i64 k)] : List Value).toArray w (Ret (.int .i64 (F_laws_heldIntS a k)) (Hp w [])) := by
  obtain ⟨rz, hF⟩ : ∃ rz, (F_laws_heldIntS a k) = rz := ⟨_, rfl⟩
  rw [hF]
  unfold F_laws_heldIntS at hF
  have hlen_a := arg_len ha
  refine calls_tc Try.func26 rfl rfl rfl ?_
  change TC _ _ _ _ (Hp w []) [(0, va), (1, (.int .i64 k))]
  refine TC.seq ?_
  refine TC.region ?_
  refine TL.op (yq (y_assign ev_c)) rfl rfl rfl ?_
  refine TL.nil ?_
  refine TN.seq ?_
  refine TC.seq ?_
  refine TC.seq ?_
  refine TC.region ?_
  refine TL.op (yq (y_assign ev_c)) rfl rfl rfl ?_
  refine TL.nil ?_
  refine TN.seq ?_
  refine TC.block ?_
  obtain ⟨c11, hc12⟩ : ∃ c, F_laws_heldIntS_L1 a ((a.length - 0) + 1) (k, 0) = c := ⟨_, rfl⟩
  rw [hc12] at hF
  refine TC.loop (ι := Nat × Int × Nat) (fun (fu1, k1, i1) => [(0, va), (1, (.int .i64 k1)), (5, (.int .i64 (i1 : Int)))]) (fun (fu1, k1, i1) => Hp w []) (fun (fu1, k1, i1) => (i1 ≤ a.length) ∧ (k1 = k + i1) ∧ a.length - i1 < fu1 ∧ F_laws_heldIntS_L1 a fu1 (k1, i1) = c11) (fun (fu1, k1, i1) => fu1) ((a.length - 0) + 1, k, 0) ⟨(by first | omega | (simp [-List.getD_eq_getElem?_getD] <;> omega)), (by first | omega | (simp [-List.getD_eq_getElem?_getD] <;> omega)), (by omega), hc12⟩ ⟨rfl, rfl, rfl, trivial⟩ (fun w hw => hw) ?_
  rintro ⟨fu1, k1, i1⟩ hJ1
  obtain ⟨hi1_0, hi1_1, hmu1, hL1⟩ : (i1 ≤ a.length) ∧ (k1 = k + i1) ∧ a.length - i1 < fu1 ∧ F_laws_heldIntS_L1 a fu1 (k1, i1) = c11 := hJ1
  change TC _ _ _ _ (Hp w []) [(0, va), (1, (.int .i64 k1)), (5, (.int .i64 (i1 : Int)))]
  obtain ⟨mf1, rfl⟩ : ∃ m, fu1 = m + 1 := ⟨fu1 - 1, by omega⟩
  rw [F_laws_heldIntS_L1_s] at hL1
  refine TC.seq ?_
  refine TC.seq ?_
  refine TC.region ?_
  refine TL.op (yq (y_move (ev_t rfl))) rfl rfl rfl ?_
  refine TL.op (yq (y_move (ev_t rfl))) rfl rfl rfl ?_
  refine TL.op (yq (y_len (ev_t rfl) Try.underlying25 (fun w hw => ((ri_arg ha) w hw).ln))) rfl rfl rfl ?_
  refine TL.op (yq (y_lss (ev_t rfl) (ev_t rfl))) rfl rfl rfl ?_
  refine TL.nil ?_
  refine TN.seq ?_
  refine TC.cond (b := decide ((i1 : Int) < (a.length : Int))) (ev_t rfl) (fun h13 => ?_) (fun h13 => ?_)
  · rw [bif_pos h13] at hL1
    have q14 := (of_decide_eq_true h13)
    refine TC.skip ?_
    refine TN.seq ?_
    refine TC.seq ?_
    refine TC.block ?_
    refine TC.seq ?_
    refine TC.seq ?_
    refine TC.region ?_
    refine TL.op (yq (y_move (ev_t rfl))) rfl rfl rfl ?_
    refine TL.op (yq (y_move (ev_t rfl))) rfl rfl rfl ?_
    have hb15 : i1 < a.length := (by first | omega | (simp only [List.length_set, List.length_append, List.length_cons, List.length_nil, List.length_replicate]; omega) | (rw [sortI_length]; simp only [List.length_cons, List.length_nil]; omega))
    refine TL.op (yq (y_idx (k := i1) (ev_t rfl) (ev_t rfl) (by first | omega | simp) slT_25 (ri_arg ha) hb15)) rfl rfl rfl ?_
    refine TL.op (yq (y_ldi (ev_t rfl) one_3 (ri_arg ha) hb15)) rfl rfl rfl ?_
    refine TL.op (yq (y_move (ev_t rfl))) rfl rfl rfl ?_
    refine TL.op (yq (y_neq (ev_t rfl) (ev_t rfl))) rfl rfl rfl ?_
    refine TL.nil ?_
    refine TN.seq ?_
    refine TC.cond (b := !decide ((a.getD i1 0) = k1)) (ev_t rfl) (fun h16 => ?_) (fun h16 => ?_)
    · rw [bif_pos h16] at hL1
      have q17 := (of_decide_eq_false (not_t h16))
      refine TC.seq ?_
      refine TC.region ?_
      refine TL.op (yq (y_assign ev_c)) rfl rfl rfl ?_
      refine TL.nil ?_
      refine TN.seq ?_
      refine TC.ret ?_
      refine TN.thenR ?_
      refine TN.blockR ?_
      refine TN.thenR ?_
      refine TN.thenR ?_
      rw [← hL1, elim_ret] at hF
      refine TN.blockR ?_
      refine TN.thenR ?_
      subst hF
      exact TN.ret1 rfl (ev_t rfl) (fun w' hw => ⟨rfl, hw⟩)
    · rw [bif_neg h16] at hL1
      have q17 := (of_decide_eq_true (not_f h16))
      refine TC.skip ?_
      refine TN.seq ?_
      refine TC.region ?_
      refine TL.op (yq (y_move (ev_t rfl))) rfl rfl rfl ?_
      refine TL.op (yq (y_add (ev_t rfl) ev_c (by unfold In64; omega))) rfl rfl rfl ?_
      refine TL.op (yq (y_assign (ev_t rfl))) rfl rfl rfl ?_
      refine TL.nil ?_
      refine TN.blockN ?_
      refine TN.seq ?_
      refine TC.region ?_
      refine TL.op (yq (y_move (ev_t rfl))) rfl rfl rfl ?_
      refine TL.op (yq (y_add (ev_t rfl) ev_c (by unfold In64; omega))) rfl rfl rfl ?_
      refine TL.op (yq (y_assign (ev_t rfl))) rfl rfl rfl ?_
      refine TL.nil ?_
      exact TN.hand (mf1, k1 + 1, (i1 + 1)) ⟨(by first | omega | (simp [-List.getD_eq_getElem?_getD] <;> omega)), (by first | omega | (simp [-List.getD_eq_getElem?_getD] <;> omega)), (by omega), hL1⟩ (Nat.lt_succ_self _) ⟨rfl, rfl, rfl, trivial⟩ (fun w hw => hw)
  · rw [bif_neg h13] at hL1
    have q14 := (of_decide_eq_false h13)
    refine TC.exit ?_
    refine TN.thenE ?_
    refine TN.thenE ?_
    rw [← hL1, elim_next] at hF
    try dsimp only at hF
    refine TN.blockH ?_
    refine TN.seq ?_
    refine TC.seq ?_
    refine TC.region ?_
    refine TL.op (yq (y_move (ev_t rfl))) rfl rfl rfl ?_
    refine TL.op (yq (y_assign (ev_t rfl))) rfl rfl rfl ?_
    refine TL.nil ?_
    refine TN.seq ?_
    refine TC.ret ?_
    subst hF
    exact TN.ret1 rfl (ev_t rfl) (fun w' hw => ⟨rfl, hw⟩)

set_option maxRecDepth 4000 in
set_option maxHeartbeats 1000000 in
theorem impl_configsOf_ok_R (fr : Nat) : ∀ (w : World) (n : Int) (k : Int) (src : Int) (hp0 : 0 ≤ k) (hp1 : k ≤ 3) (hp2 : 0 ≤ src) (hp3 : n ≤ 6) (hfr : k.toNat < fr),
    Calls Try.prog 99 ([(.int .i64 n), (.int .i64 k), (.int .i64 src)] : List Value).toArray w (fun e w' => ∃ i : Value × List Value, e = .returned i.1 ∧ Hp w [tabI 25 3 i.1 i.2 (F_impl_configsOf_R fr n k src)] w') := by
  induction fr with
  | zero => intro w; intros; omega
  | succ mr ih =>
    intro w n k src hp0 hp1 hp2 hp3 hfr
    obtain ⟨rz, hF⟩ : ∃ rz, (F_impl_configsOf_R (mr + 1) n k src) = rz := ⟨_, rfl⟩
    rw [hF]
    rw [F_impl_configsOf_R_s] at hF
    refine calls_tc Try.func99 rfl rfl rfl ?_
    change TC _ _ _ _ (Hp w []) [(0, (.int .i64 n)), (1, (.int .i64 k)), (2, (.int .i64 src))]
    refine TC.seq ?_
    refine TC.region ?_
    refine TL.op (yq (y_assign ev_c)) rfl rfl rfl ?_
    refine TL.nil ?_
    refine TN.seq ?_
    refine TC.seq ?_
    refine TC.seq ?_
    refine TC.region ?_
    refine TL.op (yq (y_move (ev_t rfl))) rfl rfl rfl ?_
    refine TL.op (yq (y_eql (ev_t rfl) ev_c)) rfl rfl rfl ?_
    refine TL.nil ?_
    refine TN.seq ?_
    refine TC.cond (b := decide (k = 0)) (ev_t rfl) (fun h16 => ?_) (fun h16 => ?_)
    · rw [bif_pos h16] at hF
      have q17 := (of_decide_eq_true h16)
      refine TC.seq ?_
      refine TC.region ?_
      refine TL.buildI (zs := []) (qs := []) slT_25 rfl trivial rfl (by decide) rfl (fun v2_0 => ?_)
      refine TL.buildU slT_22 (ev_t rfl) (fun w hw => ((ri_row 0 rfl) w hw).ln) rfl (fun v2_1 => ?_)
      refine TL.cls (fun w hw => hw.uniTab 0 1 rfl rfl rfl) ?_
      refine TL.op (yq (y_assign (ev_t rfl))) rfl rfl rfl ?_
      refine TL.nil ?_
      refine TN.seq ?_
      refine TC.ret ?_
      refine TN.thenR ?_
      subst hF
      exact TN.ret1 rfl (ev_t rfl) (fun w' hw => ⟨(v2_1, [v2_0]), rfl, Hp.sublist hw (.cons_cons _ (.cons _ .slnil))⟩)
    · rw [bif_neg h16] at hF
      have q17 := (of_decide_eq_false h16)
      refine TC.skip ?_
      refine TN.seq ?_
      refine TC.seq ?_
      refine TC.region ?_
      refine TL.buildSlice (zs := []) (vs := []) slT_22 rfl trivial (by simp) rfl (by decide) rfl (fun v3_0 => ?_)
      refine TL.cls (fun w hw => hw.emptyTab 3) ?_
      refine TL.op (yq (y_assign (ev_t rfl))) rfl rfl rfl ?_
      refine TL.nil ?_
      refine TN.seq ?_
      refine TC.seq ?_
      refine TC.seq ?_
      refine TC.region ?_
      refine TL.op (yq (y_move (ev_t rfl))) rfl rfl rfl ?_
      refine TL.op (yq (y_assign (ev_t rfl))) rfl rfl rfl ?_
      refine TL.nil ?_
      refine TN.seq ?_
      refine TC.block ?_
      obtain ⟨c18, hc19⟩ : ∃ c, F_impl_configsOf_L1 n k (F_impl_configsOf_R mr) (((n - src).toNat) + 1) (([]), src) = c := ⟨_, rfl⟩
      rw [hc19] at hF
      refine TC.loop (ι := Nat × List (List Int) × Int × Value × List Value) (fun (fu1, out1, x1, vout1, uout1) => [(0, (.int .i64 n)), (1, (.int .i64 k)), (7, vout1), (8, (.int .i64 x1))]) (fun (fu1, out1, x1, vout1, uout1) => Hp w [tabI 25 3 vout1 uout1 out1]) (fun (fu1, out1, x1, vout1, uout1) => (src ≤ x1) ∧ (out1.length ≤ 36 * (x1 - src).toNat) ∧ (n - x1).toNat < fu1 ∧ F_impl_configsOf_L1 n k (F_impl_configsOf_R mr) fu1 (out1, x1) = c18) (fun (fu1, out1, x1, vout1, uout1) => fu1) (((n - src).toNat) + 1, [], src, v3_0, []) ⟨(by first | omega | (simp [-List.getD_eq_getElem?_getD] <;> omega)), (by first | omega | (simp [-List.getD_eq_getElem?_getD] <;> omega)), (by omega), hc19⟩ ⟨rfl, rfl, rfl, rfl, trivial⟩ (fun w hw => hw) ?_
      rintro ⟨fu1, out1, x1, vout1, uout1⟩ hJ1
      obtain ⟨hi1_0, hi1_1, hmu1, hL1⟩ : (src ≤ x1) ∧ (out1.length ≤ 36 * (x1 - src).toNat) ∧ (n - x1).toNat < fu1 ∧ F_impl_configsOf_L1 n k (F_impl_configsOf_R mr) fu1 (out1, x1) = c18 := hJ1
      change TC _ _ _ _ (Hp w [tabI 25 3 vout1 uout1 out1]) [(0, (.int .i64 n)), (1, (.int .i64 k)), (7, vout1), (8, (.int .i64 x1))]
      obtain ⟨mf1, rfl⟩ : ∃ m, fu1 = m + 1 := ⟨fu1 - 1, by omega⟩
      rw [F_impl_configsOf_L1_s] at hL1
      refine TC.seq ?_
      refine TC.seq ?_
      refine TC.region ?_
      refine TL.op (yq (y_move (ev_t rfl))) rfl rfl rfl ?_
      refine TL.op (yq (y_move (ev_t rfl))) rfl rfl rfl ?_
      refine TL.op (yq (y_lss (ev_t rfl) (ev_t rfl))) rfl rfl rfl ?_
      refine TL.nil ?_
      refine TN.seq ?_
      refine TC.cond (b := decide (x1 < n)) (ev_t rfl) (fun h20 => ?_) (fun h20 => ?_)
      · rw [bif_pos h20] at hL1
        have q21 := (of_decide_eq_true h20)
        refine TC.skip ?_
        refine TN.seq ?_
        refine TC.seq ?_
        refine TC.block ?_
        refine TC.seq ?_
        refine TC.region ?_
        refine TL.op (yq (y_move (ev_t rfl))) rfl rfl rfl ?_
        refine TL.op (yq (y_move (ev_t rfl))) rfl rfl rfl ?_
        refine TL.op (yq (y_sub (ev_t rfl) ev_c (by unfold In64; omega))) rfl rfl rfl ?_
        refine TL.op (yq (y_move (ev_t rfl))) rfl rfl rfl ?_
        refine TL.callr (ι := Value × List Value) (vs := [(.int .i64 n), (.int .i64 (k - 1)), (.int .i64 x1)]) (fun i => i.1) (fun i => [tabI 25 3 i.1 i.2 ((F_impl_configsOf_R mr) n (k - 1) x1)]) en_99 ⟨(ev_t rfl), (ev_t rfl), (ev_t rfl), trivial⟩ rfl (fun w hw => ih w n (k - 1) x1 (by first | assumption | omega | grind) (by first | assumption | omega | grind) (by first | assumption | omega | grind) (by first | assumption | omega | grind) (by omega)) (fun r7_4 => ?_)
        refine TL.op (yq (y_len (ev_t rfl) Try.underlying22 (fun w hw => ((fun w hw => ((rii_tab 0 rfl) w hw).1) w hw).ln))) rfl rfl rfl ?_
        refine TL.op (yq (y_move ev_c)) rfl rfl rfl ?_
        refine TL.nil ?_
        refine TN.seq ?_
        refine TC.block ?_
        have hrl := len_configsOf mr n (k - 1) x1 (by omega) (by omega) (by omega) (by omega)
        obtain ⟨c22, hc23⟩ : ∃ c, F_impl_configsOf_L2 n k (F_impl_configsOf_R mr) x1 (((((F_impl_configsOf_R mr) n (k - 1) x1).length) - 0) + 1) (out1, 0) = c := ⟨_, rfl⟩
        rw [hc23] at hL1
        refine TC.loop (ι := Nat × List (List Int) × Nat × Value × List Value) (fun (fu2, out2, k28_2, vout2, uout2) => [(0, (.int .i64 n)), (1, (.int .i64 k)), (7, vout2), (8, (.int .i64 x1)), (26, r7_4.1), (27, (.int .i64 (((F_impl_configsOf_R mr) n (k - 1) x1).length : Int))), (28, (.int .i64 (k28_2 : Int)))]) (fun (fu2, out2, k28_2, vout2, uout2) => Hp w [tabI 25 3 r7_4.1 r7_4.2 ((F_impl_configsOf_R mr) n (k - 1) x1), tabI 25 3 vout2 uout2 out2]) (fun (fu2, out2, k28_2, vout2, uout2) => (k28_2 ≤ (((F_impl_configsOf_R mr) n (k - 1) x1).length)) ∧ (out2.length ≤ out1.length + k28_2) ∧ (((F_impl_configsOf_R mr) n (k - 1) x1).length) - k28_2 < fu2 ∧ F_impl_configsOf_L2 n k (F_impl_configsOf_R mr) x1 fu2 (out2, k28_2) = c22) (fun (fu2, out2, k28_2, vout2, uout2) => fu2) (((((F_impl_configsOf_R mr) n (k - 1) x1).length) - 0) + 1, out1, 0, vout1, uout1) ⟨(by first | omega | (simp [-List.getD_eq_getElem?_getD] <;> omega)), (by first | omega | (simp [-List.getD_eq_getElem?_getD] <;> omega)), (by omega), hc23⟩ ⟨rfl, rfl, rfl, rfl, rfl, rfl, rfl, trivial⟩ (fun w hw => hw) ?_
        rintro ⟨fu2, out2, k28_2, vout2, uout2⟩ hJ2
        obtain ⟨hi2_0, hi2_1, hmu2, hL2⟩ : (k28_2 ≤ (((F_impl_configsOf_R mr) n (k - 1) x1).length)) ∧ (out2.length ≤ out1.length + k28_2) ∧ (((F_impl_configsOf_R mr) n (k - 1) x1).length) - k28_2 < fu2 ∧ F_impl_configsOf_L2 n k (F_impl_configsOf_R mr) x1 fu2 (out2, k28_2) = c22 := hJ2
        change TC _ _ _ _ (Hp w [tabI 25 3 r7_4.1 r7_4.2 ((F_impl_configsOf_R mr) n (k - 1) x1), tabI 25 3 vout2 uout2 out2]) [(0, (.int .i64 n)), (1, (.int .i64 k)), (7, vout2), (8, (.int .i64 x1)), (26, r7_4.1), (27, (.int .i64 (((F_impl_configsOf_R mr) n (k - 1) x1).length : Int))), (28, (.int .i64 (k28_2 : Int)))]
        obtain ⟨mf2, rfl⟩ : ∃ m, fu2 = m + 1 := ⟨fu2 - 1, by omega⟩
        rw [F_impl_configsOf_L2_s] at hL2
        have hrow := row_configsOf mr n (k - 1) x1 k28_2 (by omega) (by omega)
        refine TC.seq ?_
        refine TC.region ?_
        refine TL.op (yq (y_lss (ev_t rfl) (ev_t rfl))) rfl rfl rfl ?_
        refine TL.nil ?_
        refine TN.seq ?_
        refine TC.seq ?_
        refine TC.cond (b := decide ((k28_2 : Int) < (((F_impl_configsOf_R mr) n (k - 1) x1).length : Int))) (ev_t rfl) (fun h24 => ?_) (fun h24 => ?_)
        · rw [bif_pos h24] at hL2
          have q25 := (of_decide_eq_true h24)
          refine TC.skip ?_
          refine TN.seq ?_
          refine TC.seq ?_
          refine TC.block ?_
          refine TC.seq ?_
          refine TC.region ?_
          have hb26 : k28_2 < ((F_impl_configsOf_R mr) n (k - 1) x1).length := (by first | omega | (simp only [List.length_set, List.length_append, List.length_cons, List.length_nil, List.length_replicate]; omega) | (rw [sortI_length]; simp only [List.length_cons, List.length_nil]; omega))
          refine TL.op (yq (y_idx (k := k28_2) (ev_t rfl) (ev_t rfl) (by first | omega | simp) slT_22 (fun w hw => ((rii_tab 0 rfl) w hw).1) hb26)) rfl rfl rfl ?_
          refine TL.op (yq (y_ldT 0 (ev_t rfl) one_25 rfl hb26)) rfl rfl rfl ?_
          refine TL.op (yq (y_assign (ev_t rfl))) rfl rfl rfl ?_
          refine TL.nil ?_
          refine TN.seq ?_
          refine TC.region ?_
          refine TL.op (yq (y_move (ev_t rfl))) rfl rfl rfl ?_
          refine TL.op (yq (y_move (ev_t rfl))) rfl rfl rfl ?_
          refine TL.buildI (zs := [.tmp 33]) (qs := [x1]) slT_25 rfl ⟨(ev_t rfl), trivial⟩ rfl (by decide) rfl (fun v10_2 => ?_)
          refine TL.op (yq (y_move (ev_t rfl))) rfl rfl rfl ?_
          refine TL.appendI 0 (ev_t rfl) (ev_t rfl) rfl slT_25 (ri_tab 1 k28_2 rfl hb26) (by first | omega | (simp [-List.getD_eq_getElem?_getD] <;> omega)) rfl (fun v10_4 => ?_)
          refine TL.buildU slT_22 (ev_t rfl) (fun w hw => ((ri_row 0 rfl) w hw).ln) rfl (fun v10_5 => ?_)
          refine TL.appendT 3 1 rfl (ev_t rfl) (ev_t rfl) rfl rfl slT_22 (rd_row 0 rfl) (by first | omega | (simp [-List.getD_eq_getElem?_getD] <;> omega)) rfl (fun v10_6 => ?_)
          refine TL.op (yq (y_assign (ev_t rfl))) rfl rfl rfl ?_
          refine TL.nil ?_
          refine TN.blockN ?_
          refine TN.seq ?_
          refine TC.region ?_
          refine TL.op (yq (y_add (ev_t rfl) ev_c (by unfold In64; omega))) rfl rfl rfl ?_
          refine TL.op (yq (y_move (ev_t rfl))) rfl rfl rfl ?_
          refine TL.nil ?_
          exact TN.hand (mf2, (out2 ++ [([x1] ++ (((F_impl_configsOf_R mr) n (k - 1) x1).getD k28_2 []))]), (k28_2 + 1), v10_6, (uout2 ++ [v10_4])) ⟨(by first | omega | (simp [-List.getD_eq_getElem?_getD] <;> omega)), (by first | omega | (simp [-List.getD_eq_getElem?_getD] <;> omega)), (by omega), hL2⟩ (Nat.lt_succ_self _) ⟨rfl, rfl, rfl, rfl, rfl, rfl, rfl, trivial⟩ (fun w hw => Hp.sublist hw (.cons _ (.cons _ (.cons_cons _ (.cons_cons _ .slnil)))))
        · rw [bif_neg h24] at hL2
          have q25 := (of_decide_eq_false h24)
          refine TC.exit ?_
          refine TN.thenE ?_
          refine TN.thenE ?_
          rw [← hL2, elim_next] at hL1
          try dsimp only at hL1
          refine TN.blockH ?_
          refine TN.blockN ?_
          refine TN.seq ?_
          refine TC.region ?_
          refine TL.op (yq (y_move (ev_t rfl))) rfl rfl rfl ?_
          refine TL.op (yq (y_add (ev_t rfl) ev_c (by unfold In64; omega))) rfl rfl rfl ?_
          refine TL.op (yq (y_assign (ev_t rfl))) rfl rfl rfl ?_
          refine TL.nil ?_
          exact TN.hand (mf1, out2, x1 + 1, vout2, uout2) ⟨(by first | omega | (simp [-List.getD_eq_getElem?_getD] <;> omega)), (by first | omega | (simp [-List.getD_eq_getElem?_getD] <;> omega)), (by omega), hL1⟩ (Nat.lt_succ_self _) ⟨rfl, rfl, rfl, rfl, trivial⟩ (fun w hw => Hp.sublist hw (.cons _ (.cons_cons _ .slnil)))
      · rw [bif_neg h20] at hL1
        have q21 := (of_decide_eq_false h20)
        refine TC.exit ?_
        refine TN.thenE ?_
        refine TN.thenE ?_
        rw [← hL1, elim_next] at hF
        try dsimp only at hF
        refine TN.blockH ?_
        refine TN.seq ?_
        refine TC.seq ?_
        refine TC.region ?_
        refine TL.op (yq (y_move (ev_t rfl))) rfl rfl rfl ?_
        refine TL.op (yq (y_assign (ev_t rfl))) rfl rfl rfl ?_
        refine TL.nil ?_
        refine TN.seq ?_
        refine TC.ret ?_
        subst hF
        exact TN.ret1 rfl (ev_t rfl) (fun w' hw => ⟨(vout1, uout1), rfl, hw⟩)
theorem impl_configsOf_ok (w : World) (n : Int) (k : Int) (src : Int) (hp0 : 0 ≤ k) (hp1 : k ≤ 3) (hp2 : 0 ≤ src) (hp3 : n ≤ 6) :
    Calls Try.prog 99 ([(.int .i64 n), (.int .i64 k), (.int .i64 src)] : List Value).toArray w (fun e w' => ∃ i : Value × List Value, e = .returned i.1 ∧ Hp w [tabI 25 3 i.1 i.2 (F_impl_configsOf n k src)] w') := impl_configsOf_ok_R _ w n k src hp0 hp1 hp2 hp3 (Nat.lt_succ_self _)

set_option maxRecDepth 4000 in
set_option maxHeartbeats 1000000 in
theorem laws_markIntSS_ok (w0 w : World) (fr : List Ck) (va : Value) (ua : List Value) (a : List (List Int)) (hw : Hp w0 (tabI 25 3 va ua a :: fr) w) (k : Int) (hp0 : 0 ≤ k) (hp1 : k + total a ≤ 1000000000) :
    Calls Try.prog 30 ([va, (.int .i64 k)] : List Value).toArray w (fun e w' => ∃ _i : Unit, e = .returned (.int .i64 ((F_laws_markIntSS a k).1)) ∧ Hp w0 (tabI 25 3 va ua ((F_laws_markIntSS a k).2) :: fr) w') := by
  obtain ⟨rz, hF⟩ : ∃ rz, (F_laws_markIntSS a k) = rz := ⟨_, rfl⟩
  rw [hF]
  unfold F_laws_markIntSS at hF
  have htot := totalFrom_zero a
  have hlen_a : a.length ≤ 9223372036854775807 := (hw.get 0 rfl).maxn
  refine calls_tcm Try.func30 rfl rfl rfl hw ?_
  change TC _ _ _ _ (Hp w0 ([tabI 25 3 va ua a] ++ fr)) [(0, va), (1, (.int .i64 k))]
  refine TC.seq ?_
  refine TC.region ?_
  refine TL.op (yq (y_assign ev_c)) rfl rfl rfl ?_
  refine TL.nil ?_
  refine TN.seq ?_
  refine TC.seq ?_
  refine TC.seq ?_
  refine TC.region ?_
  refine TL.op (yq (y_assign ev_c)) rfl rfl rfl ?_
  refine TL.nil ?_
  refine TN.seq ?_
  refine TC.block ?_
  obtain ⟨c10, hc11⟩ : ∃ c, F_laws_markIntSS_L1  ((a.length - 0) + 1) (k, 0, a) = c := ⟨_, rfl⟩
  rw [hc11] at hF
  refine TC.loop (ι := Nat × Int × Nat × List (List Int)) (fun (fu1, k1, i1, a1) => [(0, va), (1, (.int .i64 k1)), (5, (.int .i64 (i1 : Int)))]) (fun (fu1, k1, i1, a1) => Hp w0 ([tabI 25 3 va ua a1] ++ fr)) (fun (fu1, k1, i1, a1) => (a1.length = a.length) ∧ (i1 ≤ a.length) ∧ (0 ≤ k1) ∧ (k1 + totalFrom a i1 ≤ 1000000000) ∧ (∀ j, i1 ≤ j → a1.getD j [] = a.getD j []) ∧ a.length - i1 < fu1 ∧ F_laws_markIntSS_L1  fu1 (k1, i1, a1) = c10) (fun (fu1, k1, i1, a1) => fu1) ((a.length - 0) + 1, k, 0, a) ⟨(by first | omega | (simp [-List.getD_eq_getElem?_getD] <;> omega)), (by first | omega | (simp [-List.getD_eq_getElem?_getD] <;> omega)), (by first | omega | (simp [-List.getD_eq_getElem?_getD] <;> omega)), (by first | omega | (simp [-List.getD_eq_getElem?_getD] <;> omega)), (fun _ _ => rfl), (by omega), hc11⟩ ⟨rfl, rfl, rfl, trivial⟩ (fun w hw => hw) ?_
  rintro ⟨fu1, k1, i1, a1⟩ hJ1
  obtain ⟨hi1_0, hi1_1, hi1_2, hi1_3, hi1_4, hmu1, hL1⟩ : (a1.length = a.length) ∧ (i1 ≤ a.length) ∧ (0 ≤ k1) ∧ (k1 + totalFrom a i1 ≤ 1000000000) ∧ (∀ j, i1 ≤ j → a1.getD j [] = a.getD j []) ∧ a.length - i1 < fu1 ∧ F_laws_markIntSS_L1  fu1 (k1, i1, a1) = c10 := hJ1
  change TC _ _ _ _ (Hp w0 ([tabI 25 3 va ua a1] ++ fr)) [(0, va), (1, (.int .i64 k1)), (5, (.int .i64 (i1 : Int)))]
  obtain ⟨mf1, rfl⟩ : ∃ m, fu1 = m + 1 := ⟨fu1 - 1, by omega⟩
  rw [F_laws_markIntSS_L1_s] at hL1
  have hst := totalFrom_step a i1
  have hg := congrArg List.length (hi1_4 i1 (Nat.le_refl _))
  have hmk := markIntS_fst (a1.getD i1 []) k1
  refine TC.seq ?_
  refine TC.seq ?_
  refine TC.region ?_
  refine TL.op (yq (y_move (ev_t rfl))) rfl rfl rfl ?_
  refine TL.op (yq (y_move (ev_t rfl))) rfl rfl rfl ?_
  refine TL.op (yq (y_len (ev_t rfl) Try.underlying22 (fun w hw => ((fun w hw => ((rii_tab 0 rfl) w hw).1) w hw).ln))) rfl rfl rfl ?_
  refine TL.op (yq (y_lss (ev_t rfl) (ev_t rfl))) rfl rfl rfl ?_
  refine TL.nil ?_
  refine TN.seq ?_
  refine TC.cond (b := decide ((i1 : Int) < (a1.length : Int))) (ev_t rfl) (fun h12 => ?_) (fun h12 => ?_)
  · rw [bif_pos h12] at hL1
    have q13 := (of_decide_eq_true h12)
    refine TC.skip ?_
    refine TN.seq ?_
    refine TC.seq ?_
    refine TC.block ?_
    refine TC.region ?_
    refine TL.op (yq (y_move (ev_t rfl))) rfl rfl rfl ?_
    refine TL.op (yq (y_move (ev_t rfl))) rfl rfl rfl ?_
    have hb14 : i1 < a1.length := (by first | omega | (simp only [List.length_set, List.length_append, List.length_cons, List.length_nil, List.length_replicate]; omega) | (rw [sortI_length]; simp only [List.length_cons, List.length_nil]; omega))
    refine TL.op (yq (y_idx (k := i1) (ev_t rfl) (ev_t rfl) (by first | omega | simp) slT_22 (fun w hw => ((rii_tab 0 rfl) w hw).1) hb14)) rfl rfl rfl ?_
    refine TL.op (yq (y_ldT 0 (ev_t rfl) one_25 rfl hb14)) rfl rfl rfl ?_
    refine TL.op (yq (y_move (ev_t rfl))) rfl rfl rfl ?_
    refine TL.callmT 0 i1 (vs := [(ua.getD i1 undef), (.int .i64 k1)]) (.int .i64 ((F_laws_markIntS (a1.getD i1 []) k1).1)) ((F_laws_markIntS (a1.getD i1 []) k1).2) en_25 ⟨(ev_t rfl), (ev_t rfl), trivial⟩ rfl rfl hb14 (fun w1 fr1 hw => laws_markIntS_ok w0 w1 fr1 (ua.getD i1 undef) (a1.getD i1 []) hw k1 (by first | assumption | omega | grind) (by first | assumption | omega | grind)) ?_
    refine TL.op (yq (y_assign (ev_t rfl))) rfl rfl rfl ?_
    refine TL.nil ?_
    refine TN.blockN ?_
    refine TN.seq ?_
    refine TC.region ?_
    refine TL.op (yq (y_move (ev_t rfl))) rfl rfl rfl ?_
    refine TL.op (yq (y_add (ev_t rfl) ev_c (by unfold In64; omega))) rfl rfl rfl ?_
    refine TL.op (yq (y_assign (ev_t rfl))) rfl rfl rfl ?_
    refine TL.nil ?_
    exact TN.hand (mf1, (F_laws_markIntS (a1.getD i1 []) k1).1, (i1 + 1), (a1.set i1 ((F_laws_markIntS (a1.getD i1 []) k1).2))) ⟨(by first | omega | (simp [-List.getD_eq_getElem?_getD] <;> omega)), (by first | omega | (simp [-List.getD_eq_getElem?_getD] <;> omega)), (by first | omega | (simp [-List.getD_eq_getElem?_getD] <;> omega)), (by first | omega | (simp [-List.getD_eq_getElem?_getD] <;> omega)), (fun j hj => by rw [getD_set_ne _ _ _ _ _ (by omega)]; exact hi1_4 j (by omega)), (by omega), hL1⟩ (Nat.lt_succ_self _) ⟨rfl, rfl, rfl, trivial⟩ (fun w hw => hw)
  · rw [bif_neg h12] at hL1
    have q13 := (of_decide_eq_false h12)
    refine TC.exit ?_
    refine TN.thenE ?_
    refine TN.thenE ?_
    rw [← hL1, elim_next] at hF
    try dsimp only at hF
    refine TN.blockH ?_
    refine TN.seq ?_
    refine TC.seq ?_
    refine TC.region ?_
    refine TL.op (yq (y_move (ev_t rfl))) rfl rfl rfl ?_
    refine TL.op (yq (y_assign (ev_t rfl))) rfl rfl rfl ?_
    refine TL.nil ?_
    refine TN.seq ?_
    refine TC.ret ?_
    subst hF
    exact TN.ret1 rfl (ev_t rfl) (fun w' hw => ⟨(), rfl, hw⟩)

set_option maxRecDepth 4000 in
set_option maxHeartbeats 1000000 in
theorem spec_l6Configs_ok (w : World) (n : Int) (k : Int) (hp0 : n ≤ 6) (hp1 : k ≤ 3) :
    Calls Try.prog 54 ([(.int .i64 n), (.int .i64 k)] : List Value).toArray w (fun e w' => ∃ i : Value × List Value, e = .returned i.1 ∧ Hp w [tabI 25 3 i.1 i.2 (F_spec_l6Configs n k)] w') := by
  obtain ⟨rz, hF⟩ : ∃ rz, (F_spec_l6Configs n k) = rz := ⟨_, rfl⟩
  rw [hF]
  unfold F_spec_l6Configs at hF
  refine calls_tc Try.func54 rfl rfl rfl ?_
  change TC _ _ _ _ (Hp w []) [(0, (.int .i64 n)), (1, (.int .i64 k))]
  refine TC.seq ?_
  refine TC.region ?_
  refine TL.op (yq (y_assign ev_c)) rfl rfl rfl ?_
  refine TL.nil ?_
  refine TN.seq ?_
  refine TC.seq ?_
  refine TC.region ?_
  refine TL.buildI (zs := []) (qs := []) slT_25 rfl trivial rfl (by decide) rfl (fun v1_0 => ?_)
  refine TL.buildU slT_22 (ev_t rfl) (fun w hw => ((ri_row 0 rfl) w hw).ln) rfl (fun v1_1 => ?_)
  refine TL.cls (fun w hw => hw.uniTab 0 1 rfl rfl rfl) ?_
  refine TL.op (yq (y_assign (ev_t rfl))) rfl rfl rfl ?_
  refine TL.nil ?_
  refine TN.seq ?_
  refine TC.seq ?_
  refine TC.seq ?_
  refine TC.region ?_
  refine TL.op (yq (y_assign ev_c)) rfl rfl rfl ?_
  refine TL.nil ?_
  refine TN.seq ?_
  refine TC.block ?_
  obtain ⟨c47, hc48⟩ : ∃ c, F_spec_l6Configs_L1 n k ((((k).toNat) - 0) + 1) (([([] : List Int)]), 0) = c := ⟨_, rfl⟩
  rw [hc48] at hF
  refine TC.loop (ι := Nat × List (List Int) × Nat × Value × List Value) (fun (fu1, now1, i1, vnow1, unow1) => [(0, (.int .i64 n)), (1, (.int .i64 k)), (5, vnow1), (6, (.int .i64 (i1 : Int)))]) (fun (fu1, now1, i1, vnow1, unow1) => Hp w [tabI 25 3 vnow1 unow1 now1]) (fun (fu1, now1, i1, vnow1, unow1) => (i1 ≤ ((k).toNat)) ∧ (now1.length ≤ 6 ^ i1) ∧ (Cfg i1 now1) ∧ ((k).toNat) - i1 < fu1 ∧ F_spec_l6Configs_L1 n k fu1 (now1, i1) = c47) (fun (fu1, now1, i1, vnow1, unow1) => fu1) ((((k).toNat) - 0) + 1, [([] : List Int)], 0, v1_1, [v1_0]) ⟨(by first | omega | (simp [-List.getD_eq_getElem?_getD] <;> omega)), (by simp), Cfg.one, (by omega), hc48⟩ ⟨rfl, rfl, rfl, rfl, trivial⟩ (fun w hw => Hp.sublist hw (.cons_cons _ (.cons _ .slnil))) ?_
  rintro ⟨fu1, now1, i1, vnow1, unow1⟩ hJ1
  obtain ⟨hi1_0, hi1_1, hi1_2, hmu1, hL1⟩ : (i1 ≤ ((k).toNat)) ∧ (now1.length ≤ 6 ^ i1) ∧ (Cfg i1 now1) ∧ ((k).toNat) - i1 < fu1 ∧ F_spec_l6Configs_L1 n k fu1 (now1, i1) = c47 := hJ1
  change TC _ _ _ _ (Hp w [tabI 25 3 vnow1 unow1 now1]) [(0, (.int .i64 n)), (1, (.int .i64 k)), (5, vnow1), (6, (.int .i64 (i1 : Int)))]
  obtain ⟨mf1, rfl⟩ : ∃ m, fu1 = m + 1 := ⟨fu1 - 1, by omega⟩
  rw [F_spec_l6Configs_L1_s] at hL1
  have hpw : 6 ^ i1 ≤ 6 ^ 3 := Nat.pow_le_pow_right (by decide) (by omega)
  refine TC.seq ?_
  refine TC.seq ?_
  refine TC.region ?_
  refine TL.op (yq (y_move (ev_t rfl))) rfl rfl rfl ?_
  refine TL.op (yq (y_move (ev_t rfl))) rfl rfl rfl ?_
  refine TL.op (yq (y_lss (ev_t rfl) (ev_t rfl))) rfl rfl rfl ?_
  refine TL.nil ?_
  refine TN.seq ?_
  refine TC.cond (b := decide ((i1 : Int) < k)) (ev_t rfl) (fun h49 => ?_) (fun h49 => ?_)
  · rw [bif_pos h49] at hL1
    have q50 := (of_decide_eq_true h49)
    refine TC.skip ?_
    refine TN.seq ?_
    refine TC.seq ?_
    refine TC.block ?_
    refine TC.seq ?_
    refine TC.region ?_
    refine TL.buildSlice (zs := []) (vs := []) slT_22 rfl trivial (by simp) rfl (by decide) rfl (fun v5_0 => ?_)
    refine TL.cls (fun w hw => hw.emptyTab 3) ?_
    refine TL.op (yq (y_assign (ev_t rfl))) rfl rfl rfl ?_
    refine TL.nil ?_
    refine TN.seq ?_
    refine TC.seq ?_
    refine TC.seq ?_
    refine TC.region ?_
    refine TL.op (yq (y_assign ev_c)) rfl rfl rfl ?_
    refine TL.nil ?_
    refine TN.seq ?_
    refine TC.block ?_
    obtain ⟨c51, hc52⟩ : ∃ c, F_spec_l6Configs_L2 n now1 i1 ((now1.length - 0) + 1) (([]), 0) = c := ⟨_, rfl⟩
    rw [hc52] at hL1
    refine TC.loop (ι := Nat × List (List Int) × Nat × Value × List Value) (fun (fu2, next2, j2, vnext2, unext2) => [(0, (.int .i64 n)), (1, (.int .i64 k)), (5, vnow1), (6, (.int .i64 (i1 : Int))), (7, vnext2), (8, (.int .i64 (j2 : Int)))]) (fun (fu2, next2, j2, vnext2, unext2) => Hp w [tabI 25 3 vnext2 unext2 next2, tabI 25 3 vnow1 unow1 now1]) (fun (fu2, next2, j2, vnext2, unext2) => (j2 ≤ now1.length) ∧ (next2.length ≤ 6 * j2) ∧ (Cfg (i1 + 1) next2) ∧ now1.length - j2 < fu2 ∧ F_spec_l6Configs_L2 n now1 i1 fu2 (next2, j2) = c51) (fun (fu2, next2, j2, vnext2, unext2) => fu2) ((now1.length - 0) + 1, [], 0, v5_0, []) ⟨(by first | omega | (simp [-List.getD_eq_getElem?_getD] <;> omega)), (by first | omega | (simp [-List.getD_eq_getElem?_getD] <;> omega)), (Cfg.nil _), (by omega), hc52⟩ ⟨rfl, rfl, rfl, rfl, rfl, rfl, trivial⟩ (fun w hw => hw) ?_
    rintro ⟨fu2, next2, j2, vnext2, unext2⟩ hJ2
    obtain ⟨hi2_0, hi2_1, hi2_2, hmu2, hL2⟩ : (j2 ≤ now1.length) ∧ (next2.length ≤ 6 * j2) ∧ (Cfg (i1 + 1) next2) ∧ now1.length - j2 < fu2 ∧ F_spec_l6Configs_L2 n now1 i1 fu2 (next2, j2) = c51 := hJ2
    change TC _ _ _ _ (Hp w [tabI 25 3 vnext2 unext2 next2, tabI 25 3 vnow1 unow1 now1]) [(0, (.int .i64 n)), (1, (.int .i64 k)), (5, vnow1), (6, (.int .i64 (i1 : Int))), (7, vnext2), (8, (.int .i64 (j2 : Int)))]
    obtain ⟨mf2, rfl⟩ : ∃ m, fu2 = m + 1 := ⟨fu2 - 1, by omega⟩
    rw [F_spec_l6Configs_L2_s] at hL2
    refine TC.seq ?_
    refine TC.seq ?_
    refine TC.region ?_
    refine TL.op (yq (y_move (ev_t rfl))) rfl rfl rfl ?_
    refine TL.op (yq (y_move (ev_t rfl))) rfl rfl rfl ?_
    refine TL.op (yq (y_len (ev_t rfl) Try.underlying22 (fun w hw => ((fun w hw => ((rii_tab 1 rfl) w hw).1) w hw).ln))) rfl rfl rfl ?_
    refine TL.op (yq (y_lss (ev_t rfl) (ev_t rfl))) rfl rfl rfl ?_
    refine TL.nil ?_
    refine TN.seq ?_
    refine TC.cond (b := decide ((j2 : Int) < (now1.length : Int))) (ev_t rfl) (fun h53 => ?_) (fun h53 => ?_)
    · rw [bif_pos h53] at hL2
      have q54 := (of_decide_eq_true h53)
      refine TC.skip ?_
      refine TN.seq ?_
      refine TC.seq ?_
      refine TC.block ?_
      refine TC.seq ?_
      refine TC.region ?_
      refine TL.op (yq (y_assign ev_c)) rfl rfl rfl ?_
      refine TL.nil ?_
      refine TN.seq ?_
      have hcp := hi1_2.pos j2 (((i1 : Int) - 1).toNat)
      have hcl := hi1_2.len (j := j2) (by omega)
      obtain ⟨c59, hcj10⟩ : ∃ c, ((bif decide (0 < (i1 : Int)) then (Ctl.next ((now1.getD j2 []).getD (((i1 : Int) - 1).toNat) 0)) else (Ctl.next 0)) : Ctl (Int) (List (List Int))) = c := ⟨_, rfl⟩
      rw [hcj10] at hL2
      refine TC.cut (fun a' w' => ∃ fromj10 : Int, Slots 55 [(0, (.int .i64 n)), (1, (.int .i64 k)), (5, vnow1), (6, (.int .i64 (i1 : Int))), (7, vnext2), (8, (.int .i64 (j2 : Int))), (9, (.int .i64 fromj10))] a' ∧ Hp w [tabI 25 3 vnext2 unext2 next2, tabI 25 3 vnow1 unow1 now1] w' ∧ (Ctl.next fromj10 : Ctl (Int) (List (List Int))) = c59 ∧ (0 ≤ fromj10)) ?_ ?_
      · refine TC.seq ?_
        refine TC.region ?_
        refine TL.op (yq (y_move (ev_t rfl))) rfl rfl rfl ?_
        refine TL.op (yq (y_gtr (ev_t rfl) ev_c)) rfl rfl rfl ?_
        refine TL.nil ?_
        refine TN.seq ?_
        refine TC.cond (b := decide (0 < (i1 : Int))) (ev_t rfl) (fun h60 => ?_) (fun h60 => ?_)
        · rw [bif_pos h60] at hcj10
          have q61 := (of_decide_eq_true h60)
          refine TC.region ?_
          refine TL.op (yq (y_move (ev_t rfl))) rfl rfl rfl ?_
          refine TL.op (yq (y_move (ev_t rfl))) rfl rfl rfl ?_
          have hb62 : j2 < now1.length := (by first | omega | (simp only [List.length_set, List.length_append, List.length_cons, List.length_nil, List.length_replicate]; omega) | (rw [sortI_length]; simp only [List.length_cons, List.length_nil]; omega))
          refine TL.op (yq (y_idx (k := j2) (ev_t rfl) (ev_t rfl) (by first | omega | simp) slT_22 (fun w hw => ((rii_tab 1 rfl) w hw).1) hb62)) rfl rfl rfl ?_
          refine TL.op (yq (y_ldT 1 (ev_t rfl) one_25 rfl hb62)) rfl rfl rfl ?_
          refine TL.op (yq (y_move (ev_t rfl))) rfl rfl rfl ?_
          refine TL.op (yq (y_sub (ev_t rfl) ev_c (by unfold In64; omega))) rfl rfl rfl ?_
          have hb63 : ((i1 : Int) - 1).toNat < (now1.getD j2 []).length := (by first | omega | (simp only [List.length_set, List.length_append, List.length_cons, List.length_nil, List.length_replicate]; omega) | (rw [sortI_length]; simp only [List.length_cons, List.length_nil]; omega))
          refine TL.op (yq (y_idx (k := ((i1 : Int) - 1).toNat) (ev_t rfl) (ev_t rfl) (by first | omega | simp) slT_25 (ri_tab 1 j2 rfl hb62) hb63)) rfl rfl rfl ?_
          refine TL.op (yq (y_ldi (ev_t rfl) one_3 (ri_tab 1 j2 rfl hb62) hb63)) rfl rfl rfl ?_
          refine TL.op (yq (y_assign (ev_t rfl))) rfl rfl rfl ?_
          refine TL.nil ?_
          exact fun a' w' hs hw => ⟨((now1.getD j2 []).getD (((i1 : Int) - 1).toNat) 0), hs.sub ⟨rfl, rfl, rfl, rfl, rfl, rfl, rfl, trivial⟩, hw, hcj10, (by first | omega | (simp [-List.getD_eq_getElem?_getD] <;> omega))⟩
        · rw [bif_neg h60] at hcj10
          have q61 := (of_decide_eq_false h60)
          refine TC.skip ?_
          exact fun a' w' hs hw => ⟨0, hs.sub ⟨rfl, rfl, rfl, rfl, rfl, rfl, rfl, trivial⟩, hw, hcj10, (by first | omega | (simp [-List.getD_eq_getElem?_getD] <;> omega))⟩
      · rintro a' w' ⟨fromj10, hs', hw', hdj10, hij10_0⟩
        rw [← hdj10, elim_next] at hL2
        try dsimp only at hL2
        refine (?_ : TC _ _ _ 55 (Hp w [tabI 25 3 vnext2 unext2 next2, tabI 25 3 vnow1 unow1 now1]) [(0, (.int .i64 n)), (1, (.int .i64 k)), (5, vnow1), (6, (.int .i64 (i1 : Int))), (7, vnext2), (8, (.int .i64 (j2 : Int))), (9, (.int .i64 fromj10))]) a' w' hs' hw'
        clear hs' hw' hcj10
        refine TC.seq ?_
        refine TC.region ?_
        refine TL.op (yq (y_move (ev_t rfl))) rfl rfl rfl ?_
        refine TL.op (yq (y_assign (ev_t rfl))) rfl rfl rfl ?_
        refine TL.nil ?_
        refine TN.seq ?_
        refine TC.block ?_
        have hcl := hi1_2.len (j := j2) (by omega)
        obtain ⟨c64, hc65⟩ : ∃ c, F_spec_l6Configs_L3 n now1 j2 (((n - fromj10).toNat) + 1) (next2, fromj10) = c := ⟨_, rfl⟩
        rw [hc65] at hL2
        refine TC.loop (ι := Nat × List (List Int) × Int × Value × List Value) (fun (fu3, next3, x3, vnext3, unext3) => [(0, (.int .i64 n)), (1, (.int .i64 k)), (5, vnow1), (6, (.int .i64 (i1 : Int))), (7, vnext3), (8, (.int .i64 (j2 : Int))), (10, (.int .i64 x3))]) (fun (fu3, next3, x3, vnext3, unext3) => Hp w [tabI 25 3 vnext3 unext3 next3, tabI 25 3 vnow1 unow1 now1]) (fun (fu3, next3, x3, vnext3, unext3) => (0 ≤ x3) ∧ (next3.length ≤ next2.length + (x3 - fromj10).toNat) ∧ (Cfg (i1 + 1) next3) ∧ (fromj10 ≤ x3) ∧ (x3 ≤ 6 ∨ x3 = fromj10) ∧ (n - x3).toNat < fu3 ∧ F_spec_l6Configs_L3 n now1 j2 fu3 (next3, x3) = c64) (fun (fu3, next3, x3, vnext3, unext3) => fu3) (((n - fromj10).toNat) + 1, next2, fromj10, vnext2, unext2) ⟨(by first | omega | (simp [-List.getD_eq_getElem?_getD] <;> omega)), (by first | omega | (simp [-List.getD_eq_getElem?_getD] <;> omega)), hi2_2, (by first | omega | (simp [-List.getD_eq_getElem?_getD] <;> omega)), (by first | omega | (simp [-List.getD_eq_getElem?_getD] <;> omega)), (by omega), hc65⟩ ⟨rfl, rfl, rfl, rfl, rfl, rfl, rfl, trivial⟩ (fun w hw => hw) ?_
        rintro ⟨fu3, next3, x3, vnext3, unext3⟩ hJ3
        obtain ⟨hi3_0, hi3_1, hi3_2, hi3_3, hi3_4, hmu3, hL3⟩ : (0 ≤ x3) ∧ (next3.length ≤ next2.length + (x3 - fromj10).toNat) ∧ (Cfg (i1 + 1) next3) ∧ (fromj10 ≤ x3) ∧ (x3 ≤ 6 ∨ x3 = fromj10) ∧ (n - x3).toNat < fu3 ∧ F_spec_l6Configs_L3 n now1 j2 fu3 (next3, x3) = c64 := hJ3
        change TC _ _ _ _ (Hp w [tabI 25 3 vnext3 unext3 next3, tabI 25 3 vnow1 unow1 now1]) [(0, (.int .i64 n)), (1, (.int .i64 k)), (5, vnow1), (6, (.int .i64 (i1 : Int))), (7, vnext3), (8, (.int .i64 (j2 : Int))), (10, (.int .i64 x3))]
        obtain ⟨mf3, rfl⟩ : ∃ m, fu3 = m + 1 := ⟨fu3 - 1, by omega⟩
        rw [F_spec_l6Configs_L3_s] at hL3
        refine TC.seq ?_
        refine TC.seq ?_
        refine TC.region ?_
        refine TL.op (yq (y_move (ev_t rfl))) rfl rfl rfl ?_
        refine TL.op (yq (y_move (ev_t rfl))) rfl rfl rfl ?_
        refine TL.op (yq (y_lss (ev_t rfl) (ev_t rfl))) rfl rfl rfl ?_
        refine TL.nil ?_
        refine TN.seq ?_
        refine TC.cond (b := decide (x3 < n)) (ev_t rfl) (fun h66 => ?_) (fun h66 => ?_)
        · rw [bif_pos h66] at hL3
          have q67 := (of_decide_eq_true h66)
          refine TC.skip ?_
          refine TN.seq ?_
          refine TC.seq ?_
          refine TC.block ?_
          refine TC.region ?_
          refine TL.op (yq (y_move (ev_t rfl))) rfl rfl rfl ?_
          refine TL.buildI (zs := []) (qs := []) slT_25 rfl trivial rfl (by decide) rfl (fun v15_1 => ?_)
          refine TL.op (yq (y_move (ev_t rfl))) rfl rfl rfl ?_
          refine TL.op (yq (y_move (ev_t rfl))) rfl rfl rfl ?_
          have hb68 : j2 < now1.length := (by first | omega | (simp only [List.length_set, List.length_append, List.length_cons, List.length_nil, List.length_replicate]; omega) | (rw [sortI_length]; simp only [List.length_cons, List.length_nil]; omega))
          refine TL.op (yq (y_idx (k := j2) (ev_t rfl) (ev_t rfl) (by first | omega | simp) slT_22 (fun w hw => ((rii_tab 2 rfl) w hw).1) hb68)) rfl rfl rfl ?_
          refine TL.op (yq (y_ldT 2 (ev_t rfl) one_25 rfl hb68)) rfl rfl rfl ?_
          refine TL.appendI 0 (ev_t rfl) (ev_t rfl) rfl slT_25 (ri_tab 2 j2 rfl hb68) (by first | omega | (simp [-List.getD_eq_getElem?_getD] <;> omega)) rfl (fun v15_6 => ?_)
          refine TL.op (yq (y_move (ev_t rfl))) rfl rfl rfl ?_
          refine TL.buildI (zs := [.tmp 48]) (qs := [x3]) slT_25 rfl ⟨(ev_t rfl), trivial⟩ rfl (by decide) rfl (fun v15_8 => ?_)
          refine TL.appendI 1 (ev_t rfl) (ev_t rfl) rfl slT_25 (ri_row 0 rfl) (by first | omega | (simp [-List.getD_eq_getElem?_getD] <;> omega)) rfl (fun v15_9 => ?_)
          refine TL.buildU slT_22 (ev_t rfl) (fun w hw => ((ri_row 1 rfl) w hw).ln) rfl (fun v15_10 => ?_)
          refine TL.appendT 3 2 rfl (ev_t rfl) (ev_t rfl) rfl rfl slT_22 (rd_row 0 rfl) (by first | omega | (simp [-List.getD_eq_getElem?_getD] <;> omega)) rfl (fun v15_11 => ?_)
          refine TL.op (yq (y_assign (ev_t rfl))) rfl rfl rfl ?_
          refine TL.nil ?_
          refine TN.blockN ?_
          refine TN.seq ?_
          refine TC.region ?_
          refine TL.op (yq (y_move (ev_t rfl))) rfl rfl rfl ?_
          refine TL.op (yq (y_add (ev_t rfl) ev_c (by unfold In64; omega))) rfl rfl rfl ?_
          refine TL.op (yq (y_assign (ev_t rfl))) rfl rfl rfl ?_
          refine TL.nil ?_
          exact TN.hand (mf3, (next3 ++ [((([] : List Int) ++ (now1.getD j2 [])) ++ ([x3]))]), x3 + 1, v15_11, (unext3 ++ [v15_9])) ⟨(by first | omega | (simp [-List.getD_eq_getElem?_getD] <;> omega)), (by first | omega | (simp [-List.getD_eq_getElem?_getD] <;> omega)), (hi1_2.push hi3_2 (by omega) hi3_0), (by first | omega | (simp [-List.getD_eq_getElem?_getD] <;> omega)), (by first | omega | (simp [-List.getD_eq_getElem?_getD] <;> omega)), (by omega), hL3⟩ (Nat.lt_succ_self _) ⟨rfl, rfl, rfl, rfl, rfl, rfl, rfl, trivial⟩ (fun w hw => Hp.sublist hw (.cons _ (.cons _ (.cons _ (.cons_cons _ (.cons_cons _ .slnil))))))
        · rw [bif_neg h66] at hL3
          have q67 := (of_decide_eq_false h66)
          refine TC.exit ?_
          refine TN.thenE ?_
          refine TN.thenE ?_
          rw [← hL3, elim_next] at hL2
          try dsimp only at hL2
          refine TN.blockH ?_
          refine TN.blockN ?_
          refine TN.seq ?_
          refine TC.region ?_
          refine TL.op (yq (y_move (ev_t rfl))) rfl rfl rfl ?_
          refine TL.op (yq (y_add (ev_t rfl) ev_c (by unfold In64; omega))) rfl rfl rfl ?_
          refine TL.op (yq (y_assign (ev_t rfl))) rfl rfl rfl ?_
          refine TL.nil ?_
          exact TN.hand (mf2, next3, (j2 + 1), vnext3, unext3) ⟨(by first | omega | (simp [-List.getD_eq_getElem?_getD] <;> omega)), (by first | omega | (simp [-List.getD_eq_getElem?_getD] <;> omega)), hi3_2, (by omega), hL2⟩ (Nat.lt_succ_self _) ⟨rfl, rfl, rfl, rfl, rfl, rfl, trivial⟩ (fun w hw => hw)
    · rw [bif_neg h53] at hL2
      have q54 := (of_decide_eq_false h53)
      refine TC.exit ?_
      refine TN.thenE ?_
      refine TN.thenE ?_
      rw [← hL2, elim_next] at hL1
      try dsimp only at hL1
      refine TN.blockH ?_
      refine TN.seq ?_
      refine TC.region ?_
      refine TL.op (yq (y_move (ev_t rfl))) rfl rfl rfl ?_
      refine TL.op (yq (y_assign (ev_t rfl))) rfl rfl rfl ?_
      refine TL.nil ?_
      refine TN.blockN ?_
      refine TN.seq ?_
      refine TC.region ?_
      refine TL.op (yq (y_move (ev_t rfl))) rfl rfl rfl ?_
      refine TL.op (yq (y_add (ev_t rfl) ev_c (by unfold In64; omega))) rfl rfl rfl ?_
      refine TL.op (yq (y_assign (ev_t rfl))) rfl rfl rfl ?_
      refine TL.nil ?_
      exact TN.hand (mf1, next2, (i1 + 1), vnext2, unext2) ⟨(by first | omega | (simp [-List.getD_eq_getElem?_getD] <;> omega)), (by rw [Nat.pow_succ]; omega), hi2_2, (by omega), hL1⟩ (Nat.lt_succ_self _) ⟨rfl, rfl, rfl, rfl, trivial⟩ (fun w hw => Hp.sublist hw (.cons_cons _ (.cons _ .slnil)))
  · rw [bif_neg h49] at hL1
    have q50 := (of_decide_eq_false h49)
    refine TC.exit ?_
    refine TN.thenE ?_
    refine TN.thenE ?_
    rw [← hL1, elim_next] at hF
    try dsimp only at hF
    refine TN.blockH ?_
    refine TN.seq ?_
    refine TC.seq ?_
    refine TC.region ?_
    refine TL.op (yq (y_move (ev_t rfl))) rfl rfl rfl ?_
    refine TL.op (yq (y_assign (ev_t rfl))) rfl rfl rfl ?_
    refine TL.nil ?_
    refine TN.seq ?_
    refine TC.ret ?_
    subst hF
    exact TN.ret1 rfl (ev_t rfl) (fun w' hw => ⟨(vnow1, unow1), rfl, hw⟩)

set_option maxRecDepth 4000 in
set_option maxHeartbeats 1000000 in
theorem cmp_isNaN_int_ok (w : World) (x : Int)  :
    Calls Try.prog 140 ([(.int .i64 x)] : List Value).toArray w (Ret (.bool (F_cmp_isNaN_int x)) (Hp w [])) := by
  obtain ⟨rz, hF⟩ : ∃ rz, (F_cmp_isNaN_int x) = rz := ⟨_, rfl⟩
  rw [hF]
  unfold F_cmp_isNaN_int at hF
  refine calls_tc Try.func140 rfl rfl rfl ?_
  change TC _ _ _ _ (Hp w []) [(0, (.int .i64 x))]
  refine TC.seq ?_
  refine TC.region ?_
  refine TL.op (yq (y_assign ev_c)) rfl rfl rfl ?_
  refine TL.nil ?_
  refine TN.seq ?_
  refine TC.seq ?_
  refine TC.region ?_
  refine TL.op (yq (y_move (ev_t rfl))) rfl rfl rfl ?_
  refine TL.op (yq (y_move (ev_t rfl))) rfl rfl rfl ?_
  refine TL.op (yq (y_neq (ev_t rfl) (ev_t rfl))) rfl rfl rfl ?_
  refine TL.op (yq (y_assign (ev_t rfl))) rfl rfl rfl ?_
  refine TL.nil ?_
  refine TN.seq ?_
  refine TC.ret ?_
  subst hF
  exact TN.ret1 rfl (ev_t rfl) (fun w' hw => ⟨rfl, hw⟩)

set_option maxRecDepth 4000 in
set_option maxHeartbeats 1000000 in
theorem cmp_Less_int_ok (w : World) (x : Int) (y : Int)  :
    Calls Try.prog 128 ([(.int .i64 x), (.int .i64 y)] : List Value).toArray w (Ret (.bool (F_cmp_Less_int x y)) (Hp w [])) := by
  obtain ⟨rz, hF⟩ : ∃ rz, (F_cmp_Less_int x y) = rz := ⟨_, rfl⟩
  rw [hF]
  unfold F_cmp_Less_int at hF
  refine calls_tc Try.func128 rfl rfl rfl ?_
  change TC _ _ _ _ (Hp w []) [(0, (.int .i64 x)), (1, (.int .i64 y))]
  refine TC.seq ?_
  refine TC.region ?_
  refine TL.op (yq (y_assign ev_c)) rfl rfl rfl ?_
  refine TL.nil ?_
  refine TN.seq ?_
  refine TC.seq ?_
  refine TC.region ?_
  refine TL.op (yq (y_move (ev_t rfl))) rfl rfl rfl ?_
  refine TL.op (y_call (vs := [(.int .i64 x)]) (v := (.bool (!decide (x = x)))) en_140 ⟨(ev_t rfl), trivial⟩ (fun w hw => cmp_isNaN_int_ok w x)) rfl rfl rfl ?_
  refine TL.op (yq (y_move (ev_t rfl))) rfl rfl rfl ?_
  refine TL.opw (w_t rfl rfl rfl) (fun hg => yq (y_move (ev_t rfl))) rfl rfl ?_
  refine TL.opw (w_t rfl rfl rfl) (fun hg => y_call (vs := [(.int .i64 y)]) (v := (.bool (!decide (y = y)))) en_140 ⟨(ev_g rfl hg), trivial⟩ (fun w hw => cmp_isNaN_int_ok w y)) rfl rfl ?_
  refine TL.opw (w_t rfl rfl rfl) (fun hg => yq (y_not (ev_g rfl hg))) rfl rfl ?_
  refine TL.op (yq (y_and (ev_t rfl) (fun hq => (ev_g rfl hq)))) rfl rfl rfl ?_
  refine TL.op (yq (y_move (ev_t rfl))) rfl rfl rfl ?_
  refine TL.opw (w_f rfl rfl rfl) (fun hg => yq (y_move (ev_t rfl))) rfl rfl ?_
  refine TL.opw (w_f rfl rfl rfl) (fun hg => yq (y_move (ev_t rfl))) rfl rfl ?_
  refine TL.opw (w_f rfl rfl rfl) (fun hg => yq (y_lss (ev_g rfl hg) (ev_g rfl hg))) rfl rfl ?_
  refine TL.op (yq (y_or (ev_t rfl) (fun hq => (ev_g rfl hq)))) rfl rfl rfl ?_
  refine TL.op (yq (y_assign (ev_t rfl))) rfl rfl rfl ?_
  refine TL.nil ?_
  refine TN.seq ?_
  refine TC.ret ?_
  subst hF
  exact TN.ret1 rfl (ev_t rfl) (fun w' hw => ⟨rfl, hw⟩)

set_option maxRecDepth 4000 in
set_option maxHeartbeats 1000000 in
theorem slices_IndexFunc_Sint_int_ok (w : World) (vs : Value) (s : List Int) (hs : RI w vs s) (kf : Nat) (cf : List Value) (f : Int → Bool) (ef : En Try.prog kf) (hf : ∀ (w' : World) (_ : Below w.heap.size w w') (x0 : Int), Calls Try.prog kf ([(.int .i64 x0)] ++ cf : List Value).toArray w' (Ret (.bool (f x0)) (Hp w' [])))  :
    Calls Try.prog 139 ([vs, (.func (.func kf) #[] cf.toArray)] : List Value).toArray w (Ret (.int .i64 (F_slices_IndexFunc_Sint_int s f)) (Hp w [])) := by
  obtain ⟨rz, hF⟩ : ∃ rz, (F_slices_IndexFunc_Sint_int s f) = rz := ⟨_, rfl⟩
  rw [hF]
  unfold F_slices_IndexFunc_Sint_int at hF
  have hlen_s := arg_len hs
  refine calls_tc Try.func139 rfl rfl rfl ?_
  change TC _ _ _ _ (Hp w []) [(0, vs), (1, (.func (.func kf) #[] cf.toArray))]
  refine TC.seq ?_
  refine TC.region ?_
  refine TL.op (yq (y_assign ev_c)) rfl rfl rfl ?_
  refine TL.nil ?_
  refine TN.seq ?_
  refine TC.seq ?_
  refine TC.seq ?_
  refine TC.region ?_
  refine TL.op (yq (y_move (ev_t rfl))) rfl rfl rfl ?_
  refine TL.op (yq (y_len (ev_t rfl) Try.underlying25 (fun w hw => ((ri_arg hs) w hw).ln))) rfl rfl rfl ?_
  refine TL.op (yq (y_move ev_c)) rfl rfl rfl ?_
  refine TL.nil ?_
  refine TN.seq ?_
  refine TC.block ?_
  obtain ⟨c11, hc12⟩ : ∃ c, F_slices_IndexFunc_Sint_int_L1 s f ((s.length - 0) + 1) 0 = c := ⟨_, rfl⟩
  rw [hc12] at hF
  refine TC.loop (ι := Nat × Nat) (fun (fu1, k8_1) => [(0, vs), (1, (.func (.func kf) #[] cf.toArray)), (7, (.int .i64 (s.length : Int))), (8, (.int .i64 (k8_1 : Int)))]) (fun (fu1, k8_1) => Hp w []) (fun (fu1, k8_1) => (k8_1 ≤ s.length) ∧ s.length - k8_1 < fu1 ∧ F_slices_IndexFunc_Sint_int_L1 s f fu1 k8_1 = c11) (fun (fu1, k8_1) => fu1) ((s.length - 0) + 1, 0) ⟨(by first | omega | (simp [-List.getD_eq_getElem?_getD] <;> omega)), (by omega), hc12⟩ ⟨rfl, rfl, rfl, rfl, trivial⟩ (fun w hw => hw) ?_
  rintro ⟨fu1, k8_1⟩ hJ1
  obtain ⟨hi1_0, hmu1, hL1⟩ : (k8_1 ≤ s.length) ∧ s.length - k8_1 < fu1 ∧ F_slices_IndexFunc_Sint_int_L1 s f fu1 k8_1 = c11 := hJ1
  change TC _ _ _ _ (Hp w []) [(0, vs), (1, (.func (.func kf) #[] cf.toArray)), (7, (.int .i64 (s.length : Int))), (8, (.int .i64 (k8_1 : Int)))]
  obtain ⟨mf1, rfl⟩ : ∃ m, fu1 = m + 1 := ⟨fu1 - 1, by omega⟩
  rw [F_slices_IndexFunc_Sint_int_L1_s] at hL1
  refine TC.seq ?_
  refine TC.region ?_
  refine TL.op (yq (y_lss (ev_t rfl) (ev_t rfl))) rfl rfl rfl ?_
  refine TL.nil ?_
  refine TN.seq ?_
  refine TC.seq ?_
  refine TC.cond (b := decide ((k8_1 : Int) < (s.length : Int))) (ev_t rfl) (fun h13 => ?_) (fun h13 => ?_)
  · rw [bif_pos h13] at hL1
    have q14 := (of_decide_eq_true h13)
    refine TC.skip ?_
    refine TN.seq ?_
    refine TC.seq ?_
    refine TC.block ?_
    refine TC.seq ?_
    refine TC.region ?_
    refine TL.op (yq (y_move (ev_t rfl))) rfl rfl rfl ?_
    refine TL.op (yq (y_assign (ev_t rfl))) rfl rfl rfl ?_
    refine TL.nil ?_
    refine TN.seq ?_
    refine TC.seq ?_
    refine TC.region ?_
    refine TL.op (yq (y_move (ev_t rfl))) rfl rfl rfl ?_
    refine TL.op (yq (y_move (ev_t rfl))) rfl rfl rfl ?_
    refine TL.op (yq (y_move (ev_t rfl))) rfl rfl rfl ?_
    have hb15 : k8_1 < s.length := (by first | omega | (simp only [List.length_set, List.length_append, List.length_cons, List.length_nil, List.length_replicate]; omega) | (rw [sortI_length]; simp only [List.length_cons, List.length_nil]; omega))
    refine TL.op (yq (y_idx (k := k8_1) (ev_t rfl) (ev_t rfl) (by first | omega | simp) slT_25 (ri_arg hs) hb15)) rfl rfl rfl ?_
    refine TL.op (yq (y_ldi (ev_t rfl) one_3 (ri_arg hs) hb15)) rfl rfl rfl ?_
    refine TL.op (y_callv (vs := [(.int .i64 (s.getD k8_1 0))]) (v := (.bool (f (s.getD k8_1 0)))) ef (ev_t rfl) ⟨(ev_t rfl), trivial⟩ (fun w hw => hf w hw.1 (s.getD k8_1 0))) rfl rfl rfl ?_
    refine TL.nil ?_
    refine TN.seq ?_
    refine TC.cond (b := (f (s.getD k8_1 0))) (ev_t rfl) (fun h16 => ?_) (fun h16 => ?_)
    · rw [bif_pos h16] at hL1
      have q17 := h16
      refine TC.seq ?_
      refine TC.region ?_
      refine TL.op (yq (y_move (ev_t rfl))) rfl rfl rfl ?_
      refine TL.op (yq (y_assign (ev_t rfl))) rfl rfl rfl ?_
      refine TL.nil ?_
      refine TN.seq ?_
      refine TC.ret ?_
      refine TN.blockR ?_
      refine TN.thenR ?_
      refine TN.thenR ?_
      rw [← hL1, elim_ret] at hF
      refine TN.blockR ?_
      refine TN.thenR ?_
      subst hF
      exact TN.ret1 rfl (ev_t rfl) (fun w' hw => ⟨rfl, hw⟩)
    · rw [bif_neg h16] at hL1
      have q17 := h16
      refine TC.skip ?_
      refine TN.blockN ?_
      refine TN.seq ?_
      refine TC.region ?_
      refine TL.op (yq (y_add (ev_t rfl) ev_c (by unfold In64; omega))) rfl rfl rfl ?_
      refine TL.op (yq (y_move (ev_t rfl))) rfl rfl rfl ?_
      refine TL.nil ?_
      exact TN.hand (mf1, (k8_1 + 1)) ⟨(by first | omega | (simp [-List.getD_eq_getElem?_getD] <;> omega)), (by omega), hL1⟩ (Nat.lt_succ_self _) ⟨rfl, rfl, rfl, rfl, trivial⟩ (fun w hw => hw)
  · rw [bif_neg h13] at hL1
    have q14 := (of_decide_eq_false h13)
    refine TC.exit ?_
    refine TN.thenE ?_
    refine TN.thenE ?_
    rw [← hL1, elim_next] at hF
    try dsimp only at hF
    refine TN.blockH ?_
    refine TN.seq ?_
    refine TC.seq ?_
    refine TC.region ?_
    refine TL.op (yq (y_assign ev_c)) rfl rfl rfl ?_
    refine TL.nil ?_
    refine TN.seq ?_
    refine TC.ret ?_
    subst hF
    exact TN.ret1 rfl (ev_t rfl) (fun w' hw => ⟨rfl, hw⟩)

set_option maxRecDepth 4000 in
set_option maxHeartbeats 1000000 in
theorem slices_ContainsFunc_Sint_int_ok (w : World) (vs : Value) (s : List Int) (hs : RI w vs s) (kf : Nat) (cf : List Value) (f : Int → Bool) (ef : En Try.prog kf) (hf : ∀ (w' : World) (_ : Below w.heap.size w w') (x0 : Int), Calls Try.prog kf ([(.int .i64 x0)] ++ cf : List Value).toArray w' (Ret (.bool (f x0)) (Hp w' [])))  :
    Calls Try.prog 125 ([vs, (.func (.func kf) #[] cf.toArray)] : List Value).toArray w (Ret (.bool (F_slices_ContainsFunc_Sint_int s f)) (Hp w [])) := by
  obtain ⟨rz, hF⟩ : ∃ rz, (F_slices_ContainsFunc_Sint_int s f) = rz := ⟨_, rfl⟩
  rw [hF]
  unfold F_slices_ContainsFunc_Sint_int at hF
  have hlen_s := arg_len hs
  refine calls_tc Try.func125 rfl rfl rfl ?_
  change TC _ _ _ _ (Hp w []) [(0, vs), (1, (.func (.func kf) #[] cf.toArray))]
  refine TC.seq ?_
  refine TC.region ?_
  refine TL.op (yq (y_assign ev_c)) rfl rfl rfl ?_
  refine TL.nil ?_
  refine TN.seq ?_
  refine TC.seq ?_
  refine TC.region ?_
  refine TL.op (yq (y_move (ev_t rfl))) rfl rfl rfl ?_
  refine TL.op (yq (y_move (ev_t rfl))) rfl rfl rfl ?_
  refine TL.op (y_call (vs := [vs, (.func (.func kf) #[] cf.toArray)]) (v := (.int .i64 (F_slices_IndexFunc_Sint_int s f))) en_139 ⟨(ev_t rfl), (ev_t rfl), trivial⟩ (fun w hw => slices_IndexFunc_Sint_int_ok w vs s ((ri_arg hs) w hw) kf cf f ef (fun w2 hb => hf w2 (hw.1.trans (hb.mono hw.1.size))))) rfl rfl rfl ?_
  refine TL.op (yq (y_geq (ev_t rfl) ev_c)) rfl rfl rfl ?_
  refine TL.op (yq (y_assign (ev_t rfl))) rfl rfl rfl ?_
  refine TL.nil ?_
  refine TN.seq ?_
  refine TC.ret ?_
  subst hF
  exact TN.ret1 rfl (ev_t rfl) (fun w' hw => ⟨rfl, hw⟩)

set_option maxRecDepth 4000 in
set_option maxHeartbeats 1000000 in
theorem slices_IndexFunc_SSint_Sint_ok (w : World) (vs : Value) (us : List Value) (s : List (List Int)) (hs : RII w vs us s) (kf : Nat) (cf : List Value) (f : List Int → Bool) (ef : En Try.prog kf) (hf : ∀ (w' : World) (_ : Below w.heap.size w w') (vx0 : Value) (x0 : List Int) (_ : RI w' vx0 x0), Calls Try.prog kf ([vx0] ++ cf : List Value).toArray w' (Ret (.bool (f x0)) (Hp w' [])))  :
    Calls Try.prog 116 ([vs, (.func (.func kf) #[] cf.toArray)] : List Value).toArray w (Ret (.int .i64 (F_slices_IndexFunc_SSint_Sint s f)) (Hp w [])) := by
  obtain ⟨rz, hF⟩ : ∃ rz, (F_slices_IndexFunc_SSint_Sint s f) = rz := ⟨_, rfl⟩
  rw [hF]
  unfold F_slices_IndexFunc_SSint_Sint at hF
  have hlen_s := argT_len hs
  refine calls_tc Try.func116 rfl rfl rfl ?_
  change TC _ _ _ _ (Hp w []) [(0, vs), (1, (.func (.func kf) #[] cf.toArray))]
  refine TC.seq ?_
  refine TC.region ?_
  refine TL.op (yq (y_assign ev_c)) rfl rfl rfl ?_
  refine TL.nil ?_
  refine TN.seq ?_
  refine TC.seq ?_
  refine TC.seq ?_
  refine TC.region ?_
  refine TL.op (yq (y_move (ev_t rfl))) rfl rfl rfl ?_
  refine TL.op (yq (y_len (ev_t rfl) Try.underlying22 (fun w hw => ((fun w hw => ((rii_arg hs) w hw).1) w hw).ln))) rfl rfl rfl ?_
  refine TL.op (yq (y_move ev_c)) rfl rfl rfl ?_
  refine TL.nil ?_
  refine TN.seq ?_
  refine TC.block ?_
  obtain ⟨c13, hc14⟩ : ∃ c, F_slices_IndexFunc_SSint_Sint_L1 s f ((s.length - 0) + 1) 0 = c := ⟨_, rfl⟩
  rw [hc14] at hF
  refine TC.loop (ι := Nat × Nat) (fun (fu1, k8_1) => [(0, vs), (1, (.func (.func kf) #[] cf.toArray)), (7, (.int .i64 (s.length : Int))), (8, (.int .i64 (k8_1 : Int)))]) (fun (fu1, k8_1) => Hp w []) (fun (fu1, k8_1) => (k8_1 ≤ s.length) ∧ s.length - k8_1 < fu1 ∧ F_slices_IndexFunc_SSint_Sint_L1 s f fu1 k8_1 = c13) (fun (fu1, k8_1) => fu1) ((s.length - 0) + 1, 0) ⟨(by first | omega | (simp [-List.getD_eq_getElem?_getD] <;> omega)), (by omega), hc14⟩ ⟨rfl, rfl, rfl, rfl, trivial⟩ (fun w hw => hw) ?_
  rintro ⟨fu1, k8_1⟩ hJ1
  obtain ⟨hi1_0, hmu1, hL1⟩ : (k8_1 ≤ s.length) ∧ s.length - k8_1 < fu1 ∧ F_slices_IndexFunc_SSint_Sint_L1 s f fu1 k8_1 = c13 := hJ1
  change TC _ _ _ _ (Hp w []) [(0, vs), (1, (.func (.func kf) #[] cf.toArray)), (7, (.int .i64 (s.length : Int))), (8, (.int .i64 (k8_1 : Int)))]
  obtain ⟨mf1, rfl⟩ : ∃ m, fu1 = m + 1 := ⟨fu1 - 1, by omega⟩
  rw [F_slices_IndexFunc_SSint_Sint_L1_s] at hL1
  refine TC.seq ?_
  refine TC.region ?_
  refine TL.op (yq (y_lss (ev_t rfl) (ev_t rfl))) rfl rfl rfl ?_
  refine TL.nil ?_
  refine TN.seq ?_
  refine TC.seq ?_
  refine TC.cond (b := decide ((k8_1 : Int) < (s.length : Int))) (ev_t rfl) (fun h15 => ?_) (fun h15 => ?_)
  · rw [bif_pos h15] at hL1
    have q16 := (of_decide_eq_true h15)
    refine TC.skip ?_
    refine TN.seq ?_
    refine TC.seq ?_
    refine TC.block ?_
    refine TC.seq ?_
    refine TC.region ?_
    refine TL.op (yq (y_move (ev_t rfl))) rfl rfl rfl ?_
    refine TL.op (yq (y_assign (ev_t rfl))) rfl rfl rfl ?_
    refine TL.nil ?_
    refine TN.seq ?_
    refine TC.seq ?_
    refine TC.region ?_
    refine TL.op (yq (y_move (ev_t rfl))) rfl rfl rfl ?_
    refine TL.op (yq (y_move (ev_t rfl))) rfl rfl rfl ?_
    refine TL.op (yq (y_move (ev_t rfl))) rfl rfl rfl ?_
    have hb17 : k8_1 < s.length := (by first | omega | (simp only [List.length_set, List.length_append, List.length_cons, List.length_nil, List.length_replicate]; omega) | (rw [sortI_length]; simp only [List.length_cons, List.length_nil]; omega))
    refine TL.op (yq (y_idx (k := k8_1) (ev_t rfl) (ev_t rfl) (by first | omega | simp) slT_22 (fun w hw => ((rii_arg hs) w hw).1) hb17)) rfl rfl rfl ?_
    have ha18 := hs.row (i := k8_1) hb17
    refine TL.op (yq (y_ldA (ev_t rfl) one_25 (rii_arg hs) hb17)) rfl rfl rfl ?_
    refine TL.op (y_callv (vs := [(us.getD k8_1 undef)]) (v := (.bool (f (s.getD k8_1 [])))) ef (ev_t rfl) ⟨(ev_t rfl), trivial⟩ (fun w hw => hf w hw.1 (us.getD k8_1 undef) (s.getD k8_1 []) ((ri_arg ha18) w hw))) rfl rfl rfl ?_
    refine TL.nil ?_
    refine TN.seq ?_
    refine TC.cond (b := (f (s.getD k8_1 []))) (ev_t rfl) (fun h19 => ?_) (fun h19 => ?_)
    · rw [bif_pos h19] at hL1
      have q20 := h19
      refine TC.seq ?_
      refine TC.region ?_
      refine TL.op (yq (y_move (ev_t rfl))) rfl rfl rfl ?_
      refine TL.op (yq (y_assign (ev_t rfl))) rfl rfl rfl ?_
      refine TL.nil ?_
      refine TN.seq ?_
      refine TC.ret ?_
      refine TN.blockR ?_
      refine TN.thenR ?_
      refine TN.thenR ?_
      rw [← hL1, elim_ret] at hF
      refine TN.blockR ?_
      refine TN.thenR ?_
      subst hF
      exact TN.ret1 rfl (ev_t rfl) (fun w' hw => ⟨rfl, hw⟩)
    · rw [bif_neg h19] at hL1
      have q20 := h19
      refine TC.skip ?_
      refine TN.blockN ?_
      refine TN.seq ?_
      refine TC.region ?_
      refine TL.op (yq (y_add (ev_t rfl) ev_c (by unfold In64; omega))) rfl rfl rfl ?_
      refine TL.op (yq (y_move (ev_t rfl))) rfl rfl rfl ?_
      refine TL.nil ?_
      exact TN.hand (mf1, (k8_1 + 1)) ⟨(by first | omega | (simp [-List.getD_eq_getElem?_getD] <;> omega)), (by omega), hL1⟩ (Nat.lt_succ_self _) ⟨rfl, rfl, rfl, rfl, trivial⟩ (fun w hw => hw)
  · rw [bif_neg h15] at hL1
    have q16 := (of_decide_eq_false h15)
    refine TC.exit ?_
    refine TN.thenE ?_
    refine TN.thenE ?_
    rw [← hL1, elim_next] at hF
    try dsimp only at hF
    refine TN.blockH ?_
    refine TN.seq ?_
    refine TC.seq ?_
    refine TC.region ?_
    refine TL.op (yq (y_assign ev_c)) rfl rfl rfl ?_
    refine TL.nil ?_
    refine TN.seq ?_
    refine TC.ret ?_
    subst hF
    exact TN.ret1 rfl (ev_t rfl) (fun w' hw => ⟨rfl, hw⟩)

set_option maxRecDepth 4000 in
set_option maxHeartbeats 1000000 in
theorem slices_ContainsFunc_SSint_Sint_ok (w : World) (vs : Value) (us : List Value) (s : List (List Int)) (hs : RII w vs us s) (kf : Nat) (cf : List Value) (f : List Int → Bool) (ef : En Try.prog kf) (hf : ∀ (w' : World) (_ : Below w.heap.size w w') (vx0 : Value) (x0 : List Int) (_ : RI w' vx0 x0), Calls Try.prog kf ([vx0] ++ cf : List Value).toArray w' (Ret (.bool (f x0)) (Hp w' [])))  :
    Calls Try.prog 80 ([vs, (.func (.func kf) #[] cf.toArray)] : List Value).toArray w (Ret (.bool (F_slices_ContainsFunc_SSint_Sint s f)) (Hp w [])) := by
  obtain ⟨rz, hF⟩ : ∃ rz, (F_slices_ContainsFunc_SSint_Sint s f) = rz := ⟨_, rfl⟩
  rw [hF]
  unfold F_slices_ContainsFunc_SSint_Sint at hF
  have hlen_s := argT_len hs
  refine calls_tc Try.func80 rfl rfl rfl ?_
  change TC _ _ _ _ (Hp w []) [(0, vs), (1, (.func (.func kf) #[] cf.toArray))]
  refine TC.seq ?_
  refine TC.region ?_
  refine TL.op (yq (y_assign ev_c)) rfl rfl rfl ?_
  refine TL.nil ?_
  refine TN.seq ?_
  refine TC.seq ?_
  refine TC.region ?_
  refine TL.op (yq (y_move (ev_t rfl))) rfl rfl rfl ?_
  refine TL.op (yq (y_move (ev_t rfl))) rfl rfl rfl ?_
  refine TL.op (y_call (vs := [vs, (.func (.func kf) #[] cf.toArray)]) (v := (.int .i64 (F_slices_IndexFunc_SSint_Sint s f))) en_116 ⟨(ev_t rfl), (ev_t rfl), trivial⟩ (fun w hw => slices_IndexFunc_SSint_Sint_ok w vs us s ((rii_arg hs) w hw) kf cf f ef (fun w2 hb => hf w2 (hw.1.trans (hb.mono hw.1.size))))) rfl rfl rfl ?_
  refine TL.op (yq (y_geq (ev_t rfl) ev_c)) rfl rfl rfl ?_
  refine TL.op (yq (y_assign (ev_t rfl))) rfl rfl rfl ?_
  refine TL.nil ?_
  refine TN.seq ?_
  refine TC.ret ?_
  subst hF
  exact TN.ret1 rfl (ev_t rfl) (fun w' hw => ⟨rfl, hw⟩)

set_option maxRecDepth 4000 in
set_option maxHeartbeats 1000000 in
theorem slices_IsSorted_Sint_int_ok (w : World) (vx : Value) (x : List Int) (hx : RI w vx x)  :
    Calls Try.prog 111 ([vx] : List Value).toArray w (Ret (.bool (F_slices_IsSorted_Sint_int x)) (Hp w [])) := by
  obtain ⟨rz, hF⟩ : ∃ rz, (F_slices_IsSorted_Sint_int x) = rz := ⟨_, rfl⟩
  rw [hF]
  unfold F_slices_IsSorted_Sint_int at hF
  have hlen_x := arg_len hx
  refine calls_tc Try.func111 rfl rfl rfl ?_
  change TC _ _ _ _ (Hp w []) [(0, vx)]
  refine TC.seq ?_
  refine TC.region ?_
  refine TL.op (yq (y_assign ev_c)) rfl rfl rfl ?_
  refine TL.nil ?_
  refine TN.seq ?_
  refine TC.seq ?_
  refine TC.seq ?_
  refine TC.region ?_
  refine TL.op (yq (y_move (ev_t rfl))) rfl rfl rfl ?_
  refine TL.op (yq (y_len (ev_t rfl) Try.underlying25 (fun w hw => ((ri_arg hx) w hw).ln))) rfl rfl rfl ?_
  refine TL.op (yq (y_sub (ev_t rfl) ev_c (by unfold In64; omega))) rfl rfl rfl ?_
  refine TL.op (yq (y_assign (ev_t rfl))) rfl rfl rfl ?_
  refine TL.nil ?_
  refine TN.seq ?_
  refine TC.block ?_
  obtain ⟨c13, hc14⟩ : ∃ c, F_slices_IsSorted_Sint_int_L1 x (((((x.length : Int) - 1) + 1).toNat) + 1) ((x.length : Int) - 1) = c := ⟨_, rfl⟩
  rw [hc14] at hF
  refine TC.loop (ι := Nat × Int) (fun (fu1, i1) => [(0, vx), (3, (.int .i64 i1))]) (fun (fu1, i1) => Hp w []) (fun (fu1, i1) => (i1 < x.length) ∧ (-1 ≤ i1) ∧ (i1 + 1).toNat < fu1 ∧ F_slices_IsSorted_Sint_int_L1 x fu1 i1 = c13) (fun (fu1, i1) => fu1) (((((x.length : Int) - 1) + 1).toNat) + 1, (x.length : Int) - 1) ⟨(by first | omega | (simp [-List.getD_eq_getElem?_getD] <;> omega)), (by first | omega | (simp [-List.getD_eq_getElem?_getD] <;> omega)), (by omega), hc14⟩ ⟨rfl, rfl, trivial⟩ (fun w hw => hw) ?_
  rintro ⟨fu1, i1⟩ hJ1
  obtain ⟨hi1_0, hi1_1, hmu1, hL1⟩ : (i1 < x.length) ∧ (-1 ≤ i1) ∧ (i1 + 1).toNat < fu1 ∧ F_slices_IsSorted_Sint_int_L1 x fu1 i1 = c13 := hJ1
  change TC _ _ _ _ (Hp w []) [(0, vx), (3, (.int .i64 i1))]
  obtain ⟨mf1, rfl⟩ : ∃ m, fu1 = m + 1 := ⟨fu1 - 1, by omega⟩
  rw [F_slices_IsSorted_Sint_int_L1_s] at hL1
  refine TC.seq ?_
  refine TC.seq ?_
  refine TC.region ?_
  refine TL.op (yq (y_move (ev_t rfl))) rfl rfl rfl ?_
  refine TL.op (yq (y_gtr (ev_t rfl) ev_c)) rfl rfl rfl ?_
  refine TL.nil ?_
  refine TN.seq ?_
  refine TC.cond (b := decide (0 < i1)) (ev_t rfl) (fun h15 => ?_) (fun h15 => ?_)
  · rw [bif_pos h15] at hL1
    have q16 := (of_decide_eq_true h15)
    refine TC.skip ?_
    refine TN.seq ?_
    refine TC.seq ?_
    refine TC.block ?_
    refine TC.seq ?_
    refine TC.regionQ (by kernel_rfl) (by kernel_rfl) dr_hp ?_
    refine TQ.op (yq (y_move (ev_t rfl))) rfl rfl rfl ?_
    refine TQ.op (yq (y_move (ev_t rfl))) rfl rfl rfl ?_
    have hb17 : (i1).toNat < x.length := (by first | omega | (simp only [List.length_set, List.length_append, List.length_cons, List.length_nil, List.length_replicate]; omega) | (rw [sortI_length]; simp only [List.length_cons, List.length_nil]; omega))
    refine TQ.op (yq (y_idx (k := (i1).toNat) (ev_t rfl) (ev_t rfl) (by first | omega | simp) slT_25 (ri_arg hx) hb17)) rfl rfl rfl ?_
    refine TQ.op (yq (y_ldi (ev_t rfl) one_3 (ri_arg hx) hb17)) rfl rfl rfl ?_
    refine TQ.op (yq (y_move (ev_t rfl))) rfl rfl rfl ?_
    refine TQ.op (yq (y_move (ev_t rfl))) rfl rfl rfl ?_
    refine TQ.op (yq (y_sub (ev_t rfl) ev_c (by unfold In64; omega))) rfl rfl rfl ?_
    have hb18 : (i1 - 1).toNat < x.length := (by first | omega | (simp only [List.length_set, List.length_append, List.length_cons, List.length_nil, List.length_replicate]; omega) | (rw [sortI_length]; simp only [List.length_cons, List.length_nil]; omega))
    refine TQ.op (yq (y_idx (k := (i1 - 1).toNat) (ev_t rfl) (ev_t rfl) (by first | omega | simp) slT_25 (ri_arg hx) hb18)) rfl rfl rfl ?_
    refine TQ.op (yq (y_ldi (ev_t rfl) one_3 (ri_arg hx) hb18)) rfl rfl rfl ?_
    refine TQ.op (y_call (vs := [(.int .i64 (x.getD ((i1).toNat) 0)), (.int .i64 (x.getD ((i1 - 1).toNat) 0))]) (v := (.bool (F_cmp_Less_int (x.getD ((i1).toNat) 0) (x.getD ((i1 - 1).toNat) 0)))) en_128 ⟨(ev_t rfl), (ev_t rfl), trivial⟩ (fun w hw => cmp_Less_int_ok w (x.getD ((i1).toNat) 0) (x.getD ((i1 - 1).toNat) 0))) rfl rfl rfl ?_
    refine TQ.nil ?_
    refine TN.seq ?_
    refine TC.cond (b := (F_cmp_Less_int (x.getD ((i1).toNat) 0) (x.getD ((i1 - 1).toNat) 0))) (ev_t rfl) (fun h19 => ?_) (fun h19 => ?_)
    · rw [bif_pos h19] at hL1
      have q20 := h19
      refine TC.seq ?_
      refine TC.region ?_
      refine TL.op (yq (y_assign ev_c)) rfl rfl rfl ?_
      refine TL.nil ?_
      refine TN.seq ?_
      refine TC.ret ?_
      refine TN.blockR ?_
      refine TN.thenR ?_
      refine TN.thenR ?_
      rw [← hL1, elim_ret] at hF
      refine TN.blockR ?_
      refine TN.thenR ?_
      subst hF
      exact TN.ret1 rfl (ev_t rfl) (fun w' hw => ⟨rfl, hw⟩)
    · rw [bif_neg h19] at hL1
      have q20 := h19
      refine TC.skip ?_
      refine TN.blockN ?_
      refine TN.seq ?_
      refine TC.region ?_
      refine TL.op (yq (y_move (ev_t rfl))) rfl rfl rfl ?_
      refine TL.op (yq (y_sub (ev_t rfl) ev_c (by unfold In64; omega))) rfl rfl rfl ?_
      refine TL.op (yq (y_assign (ev_t rfl))) rfl rfl rfl ?_
      refine TL.nil ?_
      exact TN.hand (mf1, i1 - 1) ⟨(by first | omega | (simp [-List.getD_eq_getElem?_getD] <;> omega)), (by first | omega | (simp [-List.getD_eq_getElem?_getD] <;> omega)), (by omega), hL1⟩ (Nat.lt_succ_self _) ⟨rfl, rfl, trivial⟩ (fun w hw => hw)
  · rw [bif_neg h15] at hL1
    have q16 := (of_decide_eq_false h15)
    refine TC.exit ?_
    refine TN.thenE ?_
    refine TN.thenE ?_
    rw [← hL1, elim_next] at hF
    try dsimp only at hF
    refine TN.blockH ?_
    refine TN.seq ?_
    refine TC.seq ?_
    refine TC.region ?_
    refine TL.op (yq (y_assign ev_c)) rfl rfl rfl ?_
    refine TL.nil ?_
    refine TN.seq ?_
    refine TC.ret ?_
    subst hF
    exact TN.ret1 rfl (ev_t rfl) (fun w' hw => ⟨rfl, hw⟩)

set_option maxRecDepth 4000 in
set_option maxHeartbeats 1000000 in
theorem spec_l6Ascending_ok (w : World) (vlist : Value) (list : List Int) (hlist : RI w vlist list)  :
    Calls Try.prog 106 ([vlist] : List Value).toArray w (Ret (.bool (F_spec_l6Ascending list)) (Hp w [])) := by
  obtain ⟨rz, hF⟩ : ∃ rz, (F_spec_l6Ascending list) = rz := ⟨_, rfl⟩
  rw [hF]
  unfold F_spec_l6Ascending at hF
  have hlen_list := arg_len hlist
  refine calls_tc Try.func106 rfl rfl rfl ?_
  change TC _ _ _ _ (Hp w []) [(0, vlist)]
  refine TC.seq ?_
  refine TC.region ?_
  refine TL.op (yq (y_assign ev_c)) rfl rfl rfl ?_
  refine TL.nil ?_
  refine TN.seq ?_
  refine TC.seq ?_
  refine TC.seq ?_
  refine TC.region ?_
  refine TL.op (yq (y_assign ev_c)) rfl rfl rfl ?_
  refine TL.nil ?_
  refine TN.seq ?_
  refine TC.block ?_
  obtain ⟨c13, hc14⟩ : ∃ c, F_spec_l6Ascending_L1 list ((list.length - 1) + 1) 1 = c := ⟨_, rfl⟩
  rw [hc14] at hF
  refine TC.loop (ι := Nat × Nat) (fun (fu1, i1) => [(0, vlist), (3, (.int .i64 (i1 : Int)))]) (fun (fu1, i1) => Hp w []) (fun (fu1, i1) => (i1 ≤ max list.length 1) ∧ (1 ≤ i1) ∧ list.length - i1 < fu1 ∧ F_spec_l6Ascending_L1 list fu1 i1 = c13) (fun (fu1, i1) => fu1) ((list.length - 1) + 1, 1) ⟨(by first | omega | (simp [-List.getD_eq_getElem?_getD] <;> omega)), (by first | omega | (simp [-List.getD_eq_getElem?_getD] <;> omega)), (by omega), hc14⟩ ⟨rfl, rfl, trivial⟩ (fun w hw => hw) ?_
  rintro ⟨fu1, i1⟩ hJ1
  obtain ⟨hi1_0, hi1_1, hmu1, hL1⟩ : (i1 ≤ max list.length 1) ∧ (1 ≤ i1) ∧ list.length - i1 < fu1 ∧ F_spec_l6Ascending_L1 list fu1 i1 = c13 := hJ1
  change TC _ _ _ _ (Hp w []) [(0, vlist), (3, (.int .i64 (i1 : Int)))]
  obtain ⟨mf1, rfl⟩ : ∃ m, fu1 = m + 1 := ⟨fu1 - 1, by omega⟩
  rw [F_spec_l6Ascending_L1_s] at hL1
  refine TC.seq ?_
  refine TC.seq ?_
  refine TC.region ?_
  refine TL.op (yq (y_move (ev_t rfl))) rfl rfl rfl ?_
  refine TL.op (yq (y_move (ev_t rfl))) rfl rfl rfl ?_
  refine TL.op (yq (y_len (ev_t rfl) Try.underlying25 (fun w hw => ((ri_arg hlist) w hw).ln))) rfl rfl rfl ?_
  refine TL.op (yq (y_lss (ev_t rfl) (ev_t rfl))) rfl rfl rfl ?_
  refine TL.nil ?_
  refine TN.seq ?_
  refine TC.cond (b := decide ((i1 : Int) < (list.length : Int))) (ev_t rfl) (fun h15 => ?_) (fun h15 => ?_)
  · rw [bif_pos h15] at hL1
    have q16 := (of_decide_eq_true h15)
    refine TC.skip ?_
    refine TN.seq ?_
    refine TC.seq ?_
    refine TC.block ?_
    refine TC.seq ?_
    refine TC.regionQ (by kernel_rfl) (by kernel_rfl) dr_hp ?_
    refine TQ.op (yq (y_move (ev_t rfl))) rfl rfl rfl ?_
    refine TQ.op (yq (y_move (ev_t rfl))) rfl rfl rfl ?_
    refine TQ.op (yq (y_sub (ev_t rfl) ev_c (by unfold In64; omega))) rfl rfl rfl ?_
    have hb17 : ((i1 : Int) - 1).toNat < list.length := (by first | omega | (simp only [List.length_set, List.length_append, List.length_cons, List.length_nil, List.length_replicate]; omega) | (rw [sortI_length]; simp only [List.length_cons, List.length_nil]; omega))
    refine TQ.op (yq (y_idx (k := ((i1 : Int) - 1).toNat) (ev_t rfl) (ev_t rfl) (by first | omega | simp) slT_25 (ri_arg hlist) hb17)) rfl rfl rfl ?_
    refine TQ.op (yq (y_ldi (ev_t rfl) one_3 (ri_arg hlist) hb17)) rfl rfl rfl ?_
    refine TQ.op (yq (y_move (ev_t rfl))) rfl rfl rfl ?_
    refine TQ.op (yq (y_move (ev_t rfl))) rfl rfl rfl ?_
    have hb18 : i1 < list.length := (by first | omega | (simp only [List.length_set, List.length_append, List.length_cons, List.length_nil, List.length_replicate]; omega) | (rw [sortI_length]; simp only [List.length_cons, List.length_nil]; omega))
    refine TQ.op (yq (y_idx (k := i1) (ev_t rfl) (ev_t rfl) (by first | omega | simp) slT_25 (ri_arg hlist) hb18)) rfl rfl rfl ?_
    refine TQ.op (yq (y_ldi (ev_t rfl) one_3 (ri_arg hlist) hb18)) rfl rfl rfl ?_
    refine TQ.op (yq (y_gtr (ev_t rfl) (ev_t rfl))) rfl rfl rfl ?_
    refine TQ.nil ?_
    refine TN.seq ?_
    refine TC.cond (b := decide ((list.getD i1 0) < (list.getD (((i1 : Int) - 1).toNat) 0))) (ev_t rfl) (fun h19 => ?_) (fun h19 => ?_)
    · rw [bif_pos h19] at hL1
      have q20 := (of_decide_eq_true h19)
      refine TC.seq ?_
      refine TC.region ?_
      refine TL.op (yq (y_assign ev_c)) rfl rfl rfl ?_
      refine TL.nil ?_
      refine TN.seq ?_
      refine TC.ret ?_
      refine TN.blockR ?_
      refine TN.thenR ?_
      refine TN.thenR ?_
      rw [← hL1, elim_ret] at hF
      refine TN.blockR ?_
      refine TN.thenR ?_
      subst hF
      exact TN.ret1 rfl (ev_t rfl) (fun w' hw => ⟨rfl, hw⟩)
    · rw [bif_neg h19] at hL1
      have q20 := (of_decide_eq_false h19)
      refine TC.skip ?_
      refine TN.blockN ?_
      refine TN.seq ?_
      refine TC.region ?_
      refine TL.op (yq (y_move (ev_t rfl))) rfl rfl rfl ?_
      refine TL.op (yq (y_add (ev_t rfl) ev_c (by unfold In64; omega))) rfl rfl rfl ?_
      refine TL.op (yq (y_assign (ev_t rfl))) rfl rfl rfl ?_
      refine TL.nil ?_
      exact TN.hand (mf1, (i1 + 1)) ⟨(by first | omega | (simp [-List.getD_eq_getElem?_getD] <;> omega)), (by first | omega | (simp [-List.getD_eq_getElem?_getD] <;> omega)), (by omega), hL1⟩ (Nat.lt_succ_self _) ⟨rfl, rfl, trivial⟩ (fun w hw => hw)
  · rw [bif_neg h15] at hL1
    have q16 := (of_decide_eq_false h15)
    refine TC.exit ?_
    refine TN.thenE ?_
    refine TN.thenE ?_
    rw [← hL1, elim_next] at hF
    try dsimp only at hF
    refine TN.blockH ?_
    refine TN.seq ?_
    refine TC.seq ?_
    refine TC.region ?_
    refine TL.op (yq (y_assign ev_c)) rfl rfl rfl ?_
    refine TL.nil ?_
    refine TN.seq ?_
    refine TC.ret ?_
    subst hF
    exact TN.ret1 rfl (ev_t rfl) (fun w' hw => ⟨rfl, hw⟩)

set_option maxRecDepth 4000 in
set_option maxHeartbeats 1000000 in
theorem laws_szIntS_ok (w : World) (va : Value) (a : List Int) (ha : RI w va a) (left : Int) (hp0 : 0 ≤ left) (hp1 : left ≤ 1048576) :
    Calls Try.prog 74 ([va, (.int .i64 left)] : List Value).toArray w (Ret (.int .i64 (F_laws_szIntS a left)) (Hp w [])) := by
  obtain ⟨rz, hF⟩ : ∃ rz, (F_laws_szIntS a left) = rz := ⟨_, rfl⟩
  rw [hF]
  unfold F_laws_szIntS at hF
  have hlen_a := arg_len ha
  refine calls_tc Try.func74 rfl rfl rfl ?_
  change TC _ _ _ _ (Hp w []) [(0, va), (1, (.int .i64 left))]
  refine TC.seq ?_
  refine TC.region ?_
  refine TL.op (yq (y_assign ev_c)) rfl rfl rfl ?_
  refine TL.nil ?_
  refine TN.seq ?_
  refine TC.seq ?_
  refine TC.region ?_
  refine TL.op (yq (y_move (ev_t rfl))) rfl rfl rfl ?_
  refine TL.op (yq (y_move (ev_t rfl))) rfl rfl rfl ?_
  refine TL.op (yq (y_len (ev_t rfl) Try.underlying25 (fun w hw => ((ri_arg ha) w hw).ln))) rfl rfl rfl ?_
  refine TL.op (yq (y_sub (ev_t rfl) (ev_t rfl) (by unfold In64; omega))) rfl rfl rfl ?_
  refine TL.op (yq (y_assign (ev_t rfl))) rfl rfl rfl ?_
  refine TL.nil ?_
  refine TN.seq ?_
  refine TC.seq ?_
  refine TC.seq ?_
  refine TC.region ?_
  refine TL.op (yq (y_move (ev_t rfl))) rfl rfl rfl ?_
  refine TL.op (yq (y_lss (ev_t rfl) ev_c)) rfl rfl rfl ?_
  refine TL.nil ?_
  refine TN.seq ?_
  refine TC.cond (b := decide (left - (a.length : Int) < 0)) (ev_t rfl) (fun h3 => ?_) (fun h3 => ?_)
  · rw [bif_pos h3] at hF
    have q4 := (of_decide_eq_true h3)
    refine TC.seq ?_
    refine TC.region ?_
    refine TL.op (yq (y_assign ev_c)) rfl rfl rfl ?_
    refine TL.nil ?_
    refine TN.seq ?_
    refine TC.ret ?_
    refine TN.thenR ?_
    subst hF
    exact TN.ret1 rfl (ev_t rfl) (fun w' hw => ⟨rfl, hw⟩)
  · rw [bif_neg h3] at hF
    have q4 := (of_decide_eq_false h3)
    refine TC.skip ?_
    refine TN.seq ?_
    refine TC.seq ?_
    refine TC.region ?_
    refine TL.op (yq (y_move (ev_t rfl))) rfl rfl rfl ?_
    refine TL.op (yq (y_assign (ev_t rfl))) rfl rfl rfl ?_
    refine TL.nil ?_
    refine TN.seq ?_
    refine TC.ret ?_
    subst hF
    exact TN.ret1 rfl (ev_t rfl) (fun w' hw => ⟨rfl, hw⟩)

set_option maxRecDepth 4000 in
set_option maxHeartbeats 1000000 in
theorem laws_szIntSS_ok (w : World) (va : Value) (ua : List Value) (a : List (List Int)) (ha : RII w va ua a) (left : Int) (hp0 : 0 ≤ left) (hp1 : left ≤ 1048576) :
    Calls Try.prog 38 ([va, (.int .i64 left)] : List Value).toArray w (Ret (.int .i64 (F_laws_szIntSS a left)) (Hp w [])) := by
  obtain ⟨rz, hF⟩ : ∃ rz, (F_laws_szIntSS a left) = rz := ⟨_, rfl⟩
  rw [hF]
  unfold F_laws_szIntSS at hF
  have hlen_a := argT_len ha
  refine calls_tc Try.func38 rfl rfl rfl ?_
  change TC _ _ _ _ (Hp w []) [(0, va), (1, (.int .i64 left))]
  refine TC.seq ?_
  refine TC.region ?_
  refine TL.op (yq (y_assign ev_c)) rfl rfl rfl ?_
  refine TL.nil ?_
  refine TN.seq ?_
  refine TC.seq ?_
  refine TC.region ?_
  refine TL.op (yq (y_move (ev_t rfl))) rfl rfl rfl ?_
  refine TL.op (yq (y_move (ev_t rfl))) rfl rfl rfl ?_
  refine TL.op (yq (y_len (ev_t rfl) Try.underlying22 (fun w hw => ((fun w hw => ((rii_arg ha) w hw).1) w hw).ln))) rfl rfl rfl ?_
  refine TL.op (yq (y_sub (ev_t rfl) (ev_t rfl) (by unfold In64; omega))) rfl rfl rfl ?_
  refine TL.op (yq (y_assign (ev_t rfl))) rfl rfl rfl ?_
  refine TL.nil ?_
  refine TN.seq ?_
  refine TC.seq ?_
  refine TC.seq ?_
  refine TC.region ?_
  refine TL.op (yq (y_move (ev_t rfl))) rfl rfl rfl ?_
  refine TL.op (yq (y_lss (ev_t rfl) ev_c)) rfl rfl rfl ?_
  refine TL.nil ?_
  refine TN.seq ?_
  refine TC.cond (b := decide (left - (a.length : Int) < 0)) (ev_t rfl) (fun h15 => ?_) (fun h15 => ?_)
  · rw [bif_pos h15] at hF
    have q16 := (of_decide_eq_true h15)
    refine TC.seq ?_
    refine TC.region ?_
    refine TL.op (yq (y_assign ev_c)) rfl rfl rfl ?_
    refine TL.nil ?_
    refine TN.seq ?_
    refine TC.ret ?_
    refine TN.thenR ?_
    subst hF
    exact TN.ret1 rfl (ev_t rfl) (fun w' hw => ⟨rfl, hw⟩)
  · rw [bif_neg h15] at hF
    have q16 := (of_decide_eq_false h15)
    refine TC.skip ?_
    refine TN.seq ?_
    refine TC.seq ?_
    refine TC.seq ?_
    refine TC.region ?_
    refine TL.op (yq (y_assign ev_c)) rfl rfl rfl ?_
    refine TL.nil ?_
    refine TN.seq ?_
    refine TC.block ?_
    obtain ⟨c17, hc18⟩ : ∃ c, F_laws_szIntSS_L1 a ((a.length - 0) + 1) ((left - (a.length : Int)), 0) = c := ⟨_, rfl⟩
    rw [hc18] at hF
    refine TC.loop (ι := Nat × Int × Nat) (fun (fu1, left1, i1) => [(0, va), (1, (.int .i64 left1)), (5, (.int .i64 (i1 : Int)))]) (fun (fu1, left1, i1) => Hp w []) (fun (fu1, left1, i1) => (i1 ≤ a.length) ∧ (0 ≤ left1) ∧ (left1 ≤ 1048576) ∧ a.length - i1 < fu1 ∧ F_laws_szIntSS_L1 a fu1 (left1, i1) = c17) (fun (fu1, left1, i1) => fu1) ((a.length - 0) + 1, left - (a.length : Int), 0) ⟨(by first | omega | (simp [-List.getD_eq_getElem?_getD] <;> omega)), (by first | omega | (simp [-List.getD_eq_getElem?_getD] <;> omega)), (by first | omega | (simp [-List.getD_eq_getElem?_getD] <;> omega)), (by omega), hc18⟩ ⟨rfl, rfl, rfl, trivial⟩ (fun w hw => hw) ?_
    rintro ⟨fu1, left1, i1⟩ hJ1
    obtain ⟨hi1_0, hi1_1, hi1_2, hmu1, hL1⟩ : (i1 ≤ a.length) ∧ (0 ≤ left1) ∧ (left1 ≤ 1048576) ∧ a.length - i1 < fu1 ∧ F_laws_szIntSS_L1 a fu1 (left1, i1) = c17 := hJ1
    change TC _ _ _ _ (Hp w []) [(0, va), (1, (.int .i64 left1)), (5, (.int .i64 (i1 : Int)))]
    obtain ⟨mf1, rfl⟩ : ∃ m, fu1 = m + 1 := ⟨fu1 - 1, by omega⟩
    rw [F_laws_szIntSS_L1_s] at hL1
    have hsz := szIntS_le (a.getD i1 []) left1 (by omega)
    refine TC.seq ?_
    refine TC.seq ?_
    refine TC.region ?_
    refine TL.op (yq (y_move (ev_t rfl))) rfl rfl rfl ?_
    refine TL.op (yq (y_move (ev_t rfl))) rfl rfl rfl ?_
    refine TL.op (yq (y_len (ev_t rfl) Try.underlying22 (fun w hw => ((fun w hw => ((rii_arg ha) w hw).1) w hw).ln))) rfl rfl rfl ?_
    refine TL.op (yq (y_lss (ev_t rfl) (ev_t rfl))) rfl rfl rfl ?_
    refine TL.nil ?_
    refine TN.seq ?_
    refine TC.cond (b := decide ((i1 : Int) < (a.length : Int))) (ev_t rfl) (fun h19 => ?_) (fun h19 => ?_)
    · rw [bif_pos h19] at hL1
      have q20 := (of_decide_eq_true h19)
      refine TC.skip ?_
      refine TN.seq ?_
      refine TC.seq ?_
      refine TC.block ?_
      refine TC.seq ?_
      refine TC.region ?_
      refine TL.op (yq (y_move (ev_t rfl))) rfl rfl rfl ?_
      refine TL.op (yq (y_move (ev_t rfl))) rfl rfl rfl ?_
      have hb21 : i1 < a.length := (by first | omega | (simp only [List.length_set, List.length_append, List.length_cons, List.length_nil, List.length_replicate]; omega) | (rw [sortI_length]; simp only [List.length_cons, List.length_nil]; omega))
      refine TL.op (yq (y_idx (k := i1) (ev_t rfl) (ev_t rfl) (by first | omega | simp) slT_22 (fun w hw => ((rii_arg ha) w hw).1) hb21)) rfl rfl rfl ?_
      have ha22 := ha.row (i := i1) hb21
      refine TL.op (yq (y_ldA (ev_t rfl) one_25 (rii_arg ha) hb21)) rfl rfl rfl ?_
      refine TL.op (yq (y_move (ev_t rfl))) rfl rfl rfl ?_
      refine TL.op (y_call (vs := [(ua.getD i1 undef), (.int .i64 left1)]) (v := (.int .i64 (F_laws_szIntS (a.getD i1 []) left1))) en_74 ⟨(ev_t rfl), (ev_t rfl), trivial⟩ (fun w hw => laws_szIntS_ok w (ua.getD i1 undef) (a.getD i1 []) ((ri_arg ha22) w hw) left1 (by first | assumption | omega | grind) (by first | assumption | omega | grind))) rfl rfl rfl ?_
      refine TL.op (yq (y_assign (ev_t rfl))) rfl rfl rfl ?_
      refine TL.nil ?_
      refine TN.seq ?_
      refine TC.seq ?_
      refine TC.region ?_
      refine TL.op (yq (y_move (ev_t rfl))) rfl rfl rfl ?_
      refine TL.op (yq (y_lss (ev_t rfl) ev_c)) rfl rfl rfl ?_
      refine TL.nil ?_
      refine TN.seq ?_
      refine TC.cond (b := decide ((F_laws_szIntS (a.getD i1 []) left1) < 0)) (ev_t rfl) (fun h23 => ?_) (fun h23 => ?_)
      · rw [bif_pos h23] at hL1
        have q24 := (of_decide_eq_true h23)
        refine TC.seq ?_
        refine TC.region ?_
        refine TL.op (yq (y_assign ev_c)) rfl rfl rfl ?_
        refine TL.nil ?_
        refine TN.seq ?_
        refine TC.ret ?_
        refine TN.blockR ?_
        refine TN.thenR ?_
        refine TN.thenR ?_
        rw [← hL1, elim_ret] at hF
        refine TN.blockR ?_
        refine TN.thenR ?_
        subst hF
        exact TN.ret1 rfl (ev_t rfl) (fun w' hw => ⟨rfl, hw⟩)
      · rw [bif_neg h23] at hL1
        have q24 := (of_decide_eq_false h23)
        refine TC.skip ?_
        refine TN.blockN ?_
        refine TN.seq ?_
        refine TC.region ?_
        refine TL.op (yq (y_move (ev_t rfl))) rfl rfl rfl ?_
        refine TL.op (yq (y_add (ev_t rfl) ev_c (by unfold In64; omega))) rfl rfl rfl ?_
        refine TL.op (yq (y_assign (ev_t rfl))) rfl rfl rfl ?_
        refine TL.nil ?_
        exact TN.hand (mf1, (F_laws_szIntS (a.getD i1 []) left1), (i1 + 1)) ⟨(by first | omega | (simp [-List.getD_eq_getElem?_getD] <;> omega)), (by first | omega | (simp [-List.getD_eq_getElem?_getD] <;> omega)), (by first | omega | (simp [-List.getD_eq_getElem?_getD] <;> omega)), (by omega), hL1⟩ (Nat.lt_succ_self _) ⟨rfl, rfl, rfl, trivial⟩ (fun w hw => hw)
    · rw [bif_neg h19] at hL1
      have q20 := (of_decide_eq_false h19)
      refine TC.exit ?_
      refine TN.thenE ?_
      refine TN.thenE ?_
      rw [← hL1, elim_next] at hF
      try dsimp only at hF
      refine TN.blockH ?_
      refine TN.seq ?_
      refine TC.seq ?_
      refine TC.region ?_
      refine TL.op (yq (y_move (ev_t rfl))) rfl rfl rfl ?_
      refine TL.op (yq (y_assign (ev_t rfl))) rfl rfl rfl ?_
      refine TL.nil ?_
      refine TN.seq ?_
      refine TC.ret ?_
      subst hF
      exact TN.ret1 rfl (ev_t rfl) (fun w' hw => ⟨rfl, hw⟩)

set_option maxRecDepth 4000 in
set_option maxHeartbeats 1000000 in
theorem laws_szMetric_ok (w : World) (vm : Value) (um : List Value) (m : List (List Int)) (hm : RII w vm um m) (left : Int) (hp0 : 0 ≤ left) (hp1 : left ≤ 1048576) :
    Calls Try.prog 15 ([(.agg #[vm]), (.int .i64 left)] : List Value).toArray w (Ret (.int .i64 (F_laws_szMetric m left)) (Hp w [])) := by
  obtain ⟨rz, hF⟩ : ∃ rz, (F_laws_szMetric m left) = rz := ⟨_, rfl⟩
  rw [hF]
  unfold F_laws_szMetric at hF
  have hlen_m := argT_len hm
  refine calls_tc Try.func15 rfl rfl rfl ?_
  change TC _ _ _ _ (Hp w []) [(0, (.agg #[vm])), (1, (.int .i64 left))]
  refine TC.seq ?_
  refine TC.region ?_
  refine TL.box (ev_t rfl) rfl (fun g0_0 => ?_)
  refine TL.op (yq (y_assign ev_c)) rfl rfl rfl ?_
  refine TL.nil ?_
  refine TN.seq ?_
  refine TC.seq ?_
  refine TC.region ?_
  refine TL.op (yq (y_fa (fa_24_0 g0_0) (ev_t rfl))) rfl rfl rfl ?_
  refine TL.op (yq (y_ldb 0 (ev_t rfl) one_22 rfl rfl)) rfl rfl rfl ?_
  refine TL.op (yq (y_move (ev_t rfl))) rfl rfl rfl ?_
  refine TL.op (y_call (vs := [vm, (.int .i64 left)]) (v := (.int .i64 (F_laws_szIntSS m left))) en_38 ⟨(ev_t rfl), (ev_t rfl), trivial⟩ (fun w hw => laws_szIntSS_ok w vm um m ((rii_arg hm) w hw) left (by first | assumption | omega | grind) (by first | assumption | omega | grind))) rfl rfl rfl ?_
  refine TL.op (yq (y_assign (ev_t rfl))) rfl rfl rfl ?_
  refine TL.nil ?_
  refine TN.seq ?_
  refine TC.seq ?_
  refine TC.seq ?_
  refine TC.region ?_
  refine TL.op (yq (y_move (ev_t rfl))) rfl rfl rfl ?_
  refine TL.op (yq (y_lss (ev_t rfl) ev_c)) rfl rfl rfl ?_
  refine TL.nil ?_
  refine TN.seq ?_
  refine TC.cond (b := decide ((F_laws_szIntSS m left) < 0)) (ev_t rfl) (fun h3 => ?_) (fun h3 => ?_)
  · rw [bif_pos h3] at hF
    have q4 := (of_decide_eq_true h3)
    refine TC.seq ?_
    refine TC.region ?_
    refine TL.op (yq (y_assign ev_c)) rfl rfl rfl ?_
    refine TL.nil ?_
    refine TN.seq ?_
    refine TC.ret ?_
    refine TN.thenR ?_
    subst hF
    exact TN.ret1 rfl (ev_t rfl) (fun w' hw => ⟨rfl, Hp.sublist hw (List.nil_sublist _)⟩)
  · rw [bif_neg h3] at hF
    have q4 := (of_decide_eq_false h3)
    have hss := szIntSS_t m left (by omega)
    have hss1 : ∀ i, (m.getD i []).length ≤ 1048576 := fun i => by have := row_le_total m i; omega
    refine TC.skip ?_
    refine TN.seq ?_
    refine TC.seq ?_
    refine TC.region ?_
    refine TL.op (yq (y_move (ev_t rfl))) rfl rfl rfl ?_
    refine TL.op (yq (y_assign (ev_t rfl))) rfl rfl rfl ?_
    refine TL.nil ?_
    refine TN.seq ?_
    refine TC.ret ?_
    subst hF
    exact TN.ret1 rfl (ev_t rfl) (fun w' hw => ⟨rfl, Hp.sublist hw (List.nil_sublist _)⟩)

set_option maxRecDepth 4000 in
set_option maxHeartbeats 1000000 in
theorem laws_toIntSS_ok (w : World) (va : Value) (ua : List Value) (a : List (List Int)) (ha : RII w va ua a) (hp0 : a.length ≤ 1048576) (hp1 : ∀ i, (a.getD i []).length ≤ 1048576) :
    Calls Try.prog 40 ([va] : List Value).toArray w (fun e w' => ∃ i : Value × List Value, e = .returned i.1 ∧ Hp w [tabI 25 3 i.1 i.2 (F_laws_toIntSS a)] w') := by
  obtain ⟨rz, hF⟩ : ∃ rz, (F_laws_toIntSS a) = rz := ⟨_, rfl⟩
  rw [hF]
  unfold F_laws_toIntSS at hF
  have hlen_a := argT_len ha
  refine calls_tc Try.func40 rfl rfl rfl ?_
  change TC _ _ _ _ (Hp w []) [(0, va)]
  refine TC.seq ?_
  refine TC.region ?_
  refine TL.op (yq (y_assign ev_c)) rfl rfl rfl ?_
  refine TL.nil ?_
  refine TN.seq ?_
  refine TC.seq ?_
  refine TC.region ?_
  refine TL.op (yq (y_move (ev_t rfl))) rfl rfl rfl ?_
  refine TL.op (yq (y_len (ev_t rfl) Try.underlying22 (fun w hw => ((fun w hw => ((rii_arg ha) w hw).1) w hw).ln))) rfl rfl rfl ?_
  refine TL.makeSlice (n := a.length) (ev_t rfl) (ev_t rfl) (by omega) slT_22 rfl (by omega) (by unfold maxLen; omega) rfl (fun v1_2 => ?_)
  refine TL.cls (fun w hw => hw.madeTab 3) ?_
  refine TL.op (yq (y_assign (ev_t rfl))) rfl rfl rfl ?_
  refine TL.nil ?_
  refine TN.seq ?_
  refine TC.seq ?_
  refine TC.seq ?_
  refine TC.region ?_
  refine TL.op (yq (y_assign ev_c)) rfl rfl rfl ?_
  refine TL.nil ?_
  refine TN.seq ?_
  refine TC.block ?_
  obtain ⟨c16, hc17⟩ : ∃ c, F_laws_toIntSS_L1 a ((a.length - 0) + 1) (0, (List.replicate a.length ([] : List Int))) = c := ⟨_, rfl⟩
  rw [hc17] at hF
  refine TC.loop (ι := Nat × Nat × List (List Int) × List Value) (fun (fu1, i1, out1, uout1) => [(0, va), (3, v1_2), (4, (.int .i64 (i1 : Int)))]) (fun (fu1, i1, out1, uout1) => Hp w [tabI 25 3 v1_2 uout1 out1]) (fun (fu1, i1, out1, uout1) => (i1 ≤ a.length) ∧ (out1.length = a.length) ∧ a.length - i1 < fu1 ∧ F_laws_toIntSS_L1 a fu1 (i1, out1) = c16) (fun (fu1, i1, out1, uout1) => fu1) ((a.length - 0) + 1, 0, (List.replicate a.length ([] : List Int)), (List.replicate a.length (.slice none 0 0))) ⟨(by first | omega | (simp [-List.getD_eq_getElem?_getD] <;> omega)), (by first | omega | (simp [-List.getD_eq_getElem?_getD] <;> omega)), (by omega), hc17⟩ ⟨rfl, rfl, rfl, trivial⟩ (fun w hw => hw) ?_
  rintro ⟨fu1, i1, out1, uout1⟩ hJ1
  obtain ⟨hi1_0, hi1_1, hmu1, hL1⟩ : (i1 ≤ a.length) ∧ (out1.length = a.length) ∧ a.length - i1 < fu1 ∧ F_laws_toIntSS_L1 a fu1 (i1, out1) = c16 := hJ1
  change TC _ _ _ _ (Hp w [tabI 25 3 v1_2 uout1 out1]) [(0, va), (3, v1_2), (4, (.int .i64 (i1 : Int)))]
  obtain ⟨mf1, rfl⟩ : ∃ m, fu1 = m + 1 := ⟨fu1 - 1, by omega⟩
  rw [F_laws_toIntSS_L1_s] at hL1
  have hrow := hp1 i1
  refine TC.seq ?_
  refine TC.seq ?_
  refine TC.region ?_
  refine TL.op (yq (y_move (ev_t rfl))) rfl rfl rfl ?_
  refine TL.op (yq (y_move (ev_t rfl))) rfl rfl rfl ?_
  refine TL.op (yq (y_len (ev_t rfl) Try.underlying22 (fun w hw => ((fun w hw => ((rii_arg ha) w hw).1) w hw).ln))) rfl rfl rfl ?_
  refine TL.op (yq (y_lss (ev_t rfl) (ev_t rfl))) rfl rfl rfl ?_
  refine TL.nil ?_
  refine TN.seq ?_
  refine TC.cond (b := decide ((i1 : Int) < (a.length : Int))) (ev_t rfl) (fun h18 => ?_) (fun h18 => ?_)
  · rw [bif_pos h18] at hL1
    have q19 := (of_decide_eq_true h18)
    refine TC.skip ?_
    refine TN.seq ?_
    refine TC.seq ?_
    refine TC.block ?_
    refine TC.region ?_
    refine TL.op (yq (y_move (ev_t rfl))) rfl rfl rfl ?_
    refine TL.op (yq (y_move (ev_t rfl))) rfl rfl rfl ?_
    refine TL.op (yq (y_move (ev_t rfl))) rfl rfl rfl ?_
    refine TL.op (yq (y_move (ev_t rfl))) rfl rfl rfl ?_
    have hb20 : i1 < a.length := (by first | omega | (simp only [List.length_set, List.length_append, List.length_cons, List.length_nil, List.length_replicate]; omega) | (rw [sortI_length]; simp only [List.length_cons, List.length_nil]; omega))
    refine TL.op (yq (y_idx (k := i1) (ev_t rfl) (ev_t rfl) (by first | omega | simp) slT_22 (fun w hw => ((rii_arg ha) w hw).1) hb20)) rfl rfl rfl ?_
    have ha21 := ha.row (i := i1) hb20
    refine TL.op (yq (y_ldA (ev_t rfl) one_25 (rii_arg ha) hb20)) rfl rfl rfl ?_
    refine TL.callr (ι := Value) (vs := [(ua.getD i1 undef)]) (fun i => i) (fun i => [rowI 3 i (F_laws_toIntS (a.getD i1 []))]) en_18 ⟨(ev_t rfl), trivial⟩ rfl (fun w hw => laws_toIntS_ok w (ua.getD i1 undef) (a.getD i1 []) ((ri_arg ha21) w hw) (by first | assumption | omega | grind)) (fun r5_6 => ?_)
    have hb22 : i1 < out1.length := (by first | omega | (simp only [List.length_set, List.length_append, List.length_cons, List.length_nil, List.length_replicate]; omega) | (rw [sortI_length]; simp only [List.length_cons, List.length_nil]; omega))
    refine TL.op (yq (y_idx (k := i1) (ev_t rfl) (ev_t rfl) (by first | omega | simp) slT_22 (fun w hw => ((rii_tab 1 rfl) w hw).1) hb22)) rfl rfl rfl ?_
    refine TL.storeU 1 0 rfl (ev_t rfl) (ev_t rfl) one_25 rfl rfl hb22 ?_
    refine TL.nil ?_
    refine TN.blockN ?_
    refine TN.seq ?_
    refine TC.region ?_
    refine TL.op (yq (y_move (ev_t rfl))) rfl rfl rfl ?_
    refine TL.op (yq (y_add (ev_t rfl) ev_c (by unfold In64; omega))) rfl rfl rfl ?_
    refine TL.op (yq (y_assign (ev_t rfl))) rfl rfl rfl ?_
    refine TL.nil ?_
    exact TN.hand (mf1, (i1 + 1), (out1.set i1 (F_laws_toIntS (a.getD i1 []))), (uout1.set i1 r5_6)) ⟨(by first | omega | (simp [-List.getD_eq_getElem?_getD] <;> omega)), (by first | omega | (simp [-List.getD_eq_getElem?_getD] <;> omega)), (by omega), hL1⟩ (Nat.lt_succ_self _) ⟨rfl, rfl, rfl, trivial⟩ (fun w hw => Hp.sublist hw (.cons _ (.cons_cons _ .slnil)))
  · rw [bif_neg h18] at hL1
    have q19 := (of_decide_eq_false h18)
    refine TC.exit ?_
    refine TN.thenE ?_
    refine TN.thenE ?_
    rw [← hL1, elim_next] at hF
    try dsimp only at hF
    refine TN.blockH ?_
    refine TN.seq ?_
    refine TC.seq ?_
    refine TC.region ?_
    refine TL.op (yq (y_move (ev_t rfl))) rfl rfl rfl ?_
    refine TL.op (yq (y_assign (ev_t rfl))) rfl rfl rfl ?_
    refine TL.nil ?_
    refine TN.seq ?_
    refine TC.ret ?_
    subst hF
    exact TN.ret1 rfl (ev_t rfl) (fun w' hw => ⟨(v1_2, uout1), rfl, hw⟩)

set_option maxRecDepth 4000 in
set_option maxHeartbeats 1000000 in
theorem laws_toMetric_ok (w : World) (vm : Value) (um : List Value) (m : List (List Int)) (hm : RII w vm um m) (hp0 : m.length ≤ 1048576) (hp1 : ∀ i, (m.getD i []).length ≤ 1048576) :
    Calls Try.prog 17 ([(.agg #[vm])] : List Value).toArray w (fun e w' => ∃ i : Value × List Value, e = .returned (.agg #[i.1]) ∧ Hp w [tabI 25 3 i.1 i.2 (F_laws_toMetric m)] w') := by
  obtain ⟨rz, hF⟩ : ∃ rz, (F_laws_toMetric m) = rz := ⟨_, rfl⟩
  rw [hF]
  unfold F_laws_toMetric at hF
  have hlen_m := argT_len hm
  refine calls_tc Try.func17 rfl rfl rfl ?_
  change TC _ _ _ _ (Hp w []) [(0, (.agg #[vm]))]
  refine TC.seq ?_
  refine TC.region ?_
  refine TL.box (ev_t rfl) rfl (fun g0_0 => ?_)
  refine TL.alloc (u := (.agg #[(.slice none 0 0)])) (by kernel_rfl) rfl (fun g0_1 => ?_)
  refine TL.nil ?_
  refine TN.seq ?_
  refine TC.seq ?_
  refine TC.region ?_
  refine TL.alloc (u := (.agg #[(.slice none 0 0)])) (by kernel_rfl) rfl (fun g1_0 => ?_)
  refine TL.nil ?_
  refine TN.seq ?_
  refine TC.seq ?_
  refine TC.region ?_
  refine TL.op (yq (y_fa (fa_24_0 g0_0) (ev_t rfl))) rfl rfl rfl ?_
  refine TL.op (yq (y_ldb 2 (ev_t rfl) one_22 rfl rfl)) rfl rfl rfl ?_
  refine TL.callr (ι := Value × List Value) (vs := [vm]) (fun i => i.1) (fun i => [tabI 25 3 i.1 i.2 (F_laws_toIntSS m)]) en_40 ⟨(ev_t rfl), trivial⟩ rfl (fun w hw => laws_toIntSS_ok w vm um m ((rii_arg hm) w hw) (by first | assumption | omega | grind) (by first | assumption | omega | grind)) (fun r2_2 => ?_)
  refine TL.op (yq (y_fa (fa_29_0 g1_0) (ev_t rfl))) rfl rfl rfl ?_
  refine TL.storeB 1 (ev_t rfl) (ev_t rfl) one_22 rfl (by first | decide | simp) (fun w hw => (ln_one ((fun w hw => ((rii_tab 0 rfl) w hw).1) w hw).ln)) ?_
  refine TL.nil ?_
  refine TN.seq ?_
  refine TC.seq ?_
  refine TC.region ?_
  refine TL.op (yq (y_ldagg (cs := [r2_2.1]) 1 (ev_t rfl) agg_29 rfl)) rfl rfl rfl ?_
  refine TL.storeAgg (cs := [(.slice none 0 0)]) (us := [r2_2.1]) 2 (ev_t rfl) (ev_t rfl) agg_29 rfl rfl (fun w hw => (ocs_cons (ln_one ((fun w hw => ((rii_tab 0 rfl) w hw).1) w hw).ln) ocs_nil)) ?_
  refine TL.nil ?_
  refine TN.seq ?_
  refine TC.ret ?_
  subst hF
  exact TN.retC (cs := [r2_2.1]) 2 (by simp) rfl (ev_t rfl) agg_29 rfl (fun w' hw => ⟨(r2_2.1, r2_2.2), rfl, Hp.sublist hw (.cons_cons _ (.cons _ (.cons _ (.cons _ .slnil))))⟩)

set_option maxRecDepth 4000 in
set_option maxHeartbeats 1000000 in
theorem laws_eqMetric_ok (w : World) (va : Value) (ua : List Value) (a : List (List Int)) (ha : RII w va ua a) (vb : Value) (ub : List Value) (b : List (List Int)) (hb : RII w vb ub b)  :
    Calls Try.prog 20 ([(.agg #[va]), (.agg #[vb])] : List Value).toArray w (Ret (.bool (F_laws_eqMetric a b)) (Hp w [])) := by
  obtain ⟨rz, hF⟩ : ∃ rz, (F_laws_eqMetric a b) = rz := ⟨_, rfl⟩
  rw [hF]
  unfold F_laws_eqMetric at hF
  have hlen_a := argT_len ha
  have hlen_b := argT_len hb
  refine calls_tc Try.func20 rfl rfl rfl ?_
  change TC _ _ _ _ (Hp w []) [(0, (.agg #[va])), (1, (.agg #[vb]))]
  refine TC.seq ?_
  refine TC.region ?_
  refine TL.box (ev_t rfl) rfl (fun g0_0 => ?_)
  refine TL.box (ev_t rfl) rfl (fun g0_1 => ?_)
  refine TL.op (yq (y_assign ev_c)) rfl rfl rfl ?_
  refine TL.nil ?_
  refine TN.seq ?_
  refine TC.seq ?_
  refine TC.seq ?_
  refine TC.region ?_
  refine TL.op (yq (y_fa (fa_29_0 g0_0) (ev_t rfl))) rfl rfl rfl ?_
  refine TL.op (yq (y_ldb 1 (ev_t rfl) one_22 rfl rfl)) rfl rfl rfl ?_
  refine TL.op (yq (y_fa (fa_29_0 g0_1) (ev_t rfl))) rfl rfl rfl ?_
  refine TL.op (yq (y_ldb 0 (ev_t rfl) one_22 rfl rfl)) rfl rfl rfl ?_
  refine TL.op (y_call (vs := [va, vb]) (v := (.bool (F_laws_eqIntSS a b))) en_29 ⟨(ev_t rfl), (ev_t rfl), trivial⟩ (fun w hw => laws_eqIntSS_ok w va ua a ((rii_arg ha) w hw) vb ub b ((rii_arg hb) w hw))) rfl rfl rfl ?_
  refine TL.op (yq (y_not (ev_t rfl))) rfl rfl rfl ?_
  refine TL.nil ?_
  refine TN.seq ?_
  refine TC.cond (b := !(F_laws_eqIntSS a b)) (ev_t rfl) (fun h3 => ?_) (fun h3 => ?_)
  · rw [bif_pos h3] at hF
    have q4 := (not_t h3)
    refine TC.seq ?_
    refine TC.region ?_
    refine TL.op (yq (y_assign ev_c)) rfl rfl rfl ?_
    refine TL.nil ?_
    refine TN.seq ?_
    refine TC.ret ?_
    refine TN.thenR ?_
    subst hF
    exact TN.ret1 rfl (ev_t rfl) (fun w' hw => ⟨rfl, Hp.sublist hw (List.nil_sublist _)⟩)
  · rw [bif_neg h3] at hF
    have q4 := (not_f h3)
    refine TC.skip ?_
    refine TN.seq ?_
    refine TC.seq ?_
    refine TC.region ?_
    refine TL.op (yq (y_assign ev_c)) rfl rfl rfl ?_
    refine TL.nil ?_
    refine TN.seq ?_
    refine TC.ret ?_
    subst hF
    exact TN.ret1 rfl (ev_t rfl) (fun w' hw => ⟨rfl, Hp.sublist hw (List.nil_sublist _)⟩)

set_option maxRecDepth 4000 in
set_option maxHeartbeats 1000000 in
theorem laws_markMetric_ok (w0 w : World) (fr : List Ck) (va : Value) (ua : List Value) (a : List (List Int)) (hw : Hp w0 (tabI 25 3 va ua a :: fr) w) (k : Int) (hp0 : 0 ≤ k) (hp1 : k + total a ≤ 1000000000) :
    Calls Try.prog 24 ([(.agg #[va]), (.int .i64 k)] : List Value).toArray w (fun e w' => ∃ _i : Unit, e = .returned (.int .i64 ((F_laws_markMetric a k).1)) ∧ Hp w0 (tabI 25 3 va ua ((F_laws_markMetric a k).2) :: fr) w') := by
  obtain ⟨rz, hF⟩ : ∃ rz, (F_laws_markMetric a k) = rz := ⟨_, rfl⟩
  rw [hF]
  unfold F_laws_markMetric at hF
  have hlen_a : a.length ≤ 9223372036854775807 := (hw.get 0 rfl).maxn
  refine calls_tcm Try.func24 rfl rfl rfl hw ?_
  change TC _ _ _ _ (Hp w0 ([tabI 25 3 va ua a] ++ fr)) [(0, (.agg #[va])), (1, (.int .i64 k))]
  refine TC.seq ?_
  refine TC.region ?_
  refine TL.box (ev_t rfl) rfl (fun g0_0 => ?_)
  refine TL.op (yq (y_assign ev_c)) rfl rfl rfl ?_
  refine TL.nil ?_
  refine TN.seq ?_
  refine TC.seq ?_
  refine TC.region ?_
  refine TL.op (yq (y_fa (fa_29_0 g0_0) (ev_t rfl))) rfl rfl rfl ?_
  refine TL.op (yq (y_ldb 0 (ev_t rfl) one_22 rfl rfl)) rfl rfl rfl ?_
  refine TL.op (yq (y_move (ev_t rfl))) rfl rfl rfl ?_
  refine TL.callm (ι := Unit) 1 (vs := [va, (.int .i64 k)]) (fun _ => (.int .i64 ((F_laws_markIntSS a k).1))) (fun _ => tabI 25 3 va ua ((F_laws_markIntSS a k).2)) en_30 ⟨(ev_t rfl), (ev_t rfl), trivial⟩ rfl rfl (fun w1 fr1 hw => laws_markIntSS_ok w0 w1 fr1 va ua a hw k (by first | assumption | omega | grind) (by first | assumption | omega | grind)) (fun _ => ?_)
  refine TL.op (yq (y_assign (ev_t rfl))) rfl rfl rfl ?_
  refine TL.nil ?_
  refine TN.seq ?_
  refine TC.seq ?_
  refine TC.region ?_
  refine TL.op (yq (y_move (ev_t rfl))) rfl rfl rfl ?_
  refine TL.op (yq (y_assign (ev_t rfl))) rfl rfl rfl ?_
  refine TL.nil ?_
  refine TN.seq ?_
  refine TC.ret ?_
  subst hF
  exact TN.ret1 rfl (ev_t rfl) (fun w' hw => ⟨(), rfl, Hp.sublist hw (.cons _ (.cons_cons _ (List.Sublist.refl _)))⟩)

set_option maxRecDepth 4000 in
set_option maxHeartbeats 1000000 in
theorem impl_Metric_isTable_1_ok (w : World) (vrow : Value) (row : List Int) (hrow : RI w vrow row) (gn : Nat) (n : Int) (hn : CellAt w gn (.int .i64 n))  :
    Calls Try.prog 132 ([vrow, (.pointer (some ⟨gn, 0, none⟩))] : List Value).toArray w (Ret (.bool (F_impl_Metric_isTable_1 row n)) (Hp w [])) := by
  obtain ⟨rz, hF⟩ : ∃ rz, (F_impl_Metric_isTable_1 row n) = rz := ⟨_, rfl⟩
  rw [hF]
  unfold F_impl_Metric_isTable_1 at hF
  have hlen_row := arg_len hrow
  refine calls_tc Try.func132 rfl rfl rfl ?_
  change TC _ _ _ _ (Hp w []) [(0, vrow), (1, (.pointer (some ⟨gn, 0, none⟩)))]
  refine TC.seq ?_
  refine TC.region ?_
  refine TL.op (yq (y_assign ev_c)) rfl rfl rfl ?_
  refine TL.nil ?_
  refine TN.seq ?_
  refine TC.seq ?_
  refine TC.region ?_
  refine TL.op (yq (y_move (ev_t rfl))) rfl rfl rfl ?_
  refine TL.op (yq (y_len (ev_t rfl) Try.underlying25 (fun w hw => ((ri_arg hrow) w hw).ln))) rfl rfl rfl ?_
  refine TL.op (yq (y_ldc (ev_t rfl) one_3 hn)) rfl rfl rfl ?_
  refine TL.op (yq (y_neq (ev_t rfl) (ev_t rfl))) rfl rfl rfl ?_
  refine TL.op (yq (y_assign (ev_t rfl))) rfl rfl rfl ?_
  refine TL.nil ?_
  refine TN.seq ?_
  refine TC.ret ?_
  subst hF
  exact TN.ret1 rfl (ev_t rfl) (fun w' hw => ⟨rfl, hw⟩)

set_option maxRecDepth 4000 in
set_option maxHeartbeats 1000000 in
theorem impl_Metric_isTable_ok (w : World) (vm : Value) (um : List Value) (m : List (List Int)) (hm : RII w vm um m) (opn : Bool)  :
    Calls Try.prog 114 ([(.agg #[vm]), (.bool opn)] : List Value).toArray w (Ret (.bool (F_impl_Metric_isTable m opn)) (Hp w [])) := by
  obtain ⟨rz, hF⟩ : ∃ rz, (F_impl_Metric_isTable m opn) = rz := ⟨_, rfl⟩
  rw [hF]
  unfold F_impl_Metric_isTable at hF
  have hlen_m := argT_len hm
  refine calls_tc Try.func114 rfl rfl rfl ?_
  change TC _ _ _ _ (Hp w []) [(0, (.agg #[vm])), (1, (.bool opn))]
  refine TC.seq ?_
  refine TC.region ?_
  refine TL.box (ev_t rfl) rfl (fun g0_0 => ?_)
  refine TL.op (yq (y_assign ev_c)) rfl rfl rfl ?_
  refine TL.nil ?_
  refine TN.seq ?_
  refine TC.seq ?_
  refine TC.region ?_
  refine TL.op (yq (y_fa (fa_29_0 g0_0) (ev_t rfl))) rfl rfl rfl ?_
  refine TL.op (yq (y_ldb 0 (ev_t rfl) one_22 rfl rfl)) rfl rfl rfl ?_
  refine TL.op (yq (y_len (ev_t rfl) Try.underlying22 (fun w hw => ((fun w hw => ((rii_arg hm) w hw).1) w hw).ln))) rfl rfl rfl ?_
  refine TL.alloc (u := (.int .i64 0)) (by kernel_rfl) rfl (fun g1_3 => ?_)
  refine TL.storeB 0 (ev_t rfl) (ev_t rfl) one_3 rfl (by first | decide | simp) (fun w hw => rfl) ?_
  refine TL.nil ?_
  refine TN.seq ?_
  refine TC.seq ?_
  refine TC.seq ?_
  refine TC.region ?_
  refine TL.op (yq (y_ldb 0 (ev_t rfl) one_3 rfl rfl)) rfl rfl rfl ?_
  refine TL.op (y_call (vs := [(.int .i64 (m.length : Int)), (.int .i64 1), (.int .i64 6)]) (v := (.bool ((decide (1 ≤ (m.length : Int))) && (decide ((m.length : Int) ≤ 6))))) en_78 ⟨(ev_t rfl), ev_c, ev_c, trivial⟩ (fun w hw => impl_within_ok w (m.length : Int) 1 6)) rfl rfl rfl ?_
  refine TL.op (yq (y_not (ev_t rfl))) rfl rfl rfl ?_
  refine TL.op (yq (y_move (ev_t rfl))) rfl rfl rfl ?_
  refine TL.opw (w_f rfl rfl rfl) (fun hg => yq (y_fa (fa_29_0 g0_0) (ev_t rfl))) rfl rfl ?_
  refine TL.opw (w_f rfl rfl rfl) (fun hg => yq (y_ldb 1 (ev_g rfl hg) one_22 rfl rfl)) rfl rfl ?_
  refine TL.opw (w_f rfl rfl rfl) (fun hg => yq (y_mkf (us := [(.pointer (some ⟨g1_3, 0, none⟩))]) ⟨(ev_t rfl), trivial⟩)) rfl rfl ?_
  refine TL.opw (w_f rfl rfl rfl) (fun hg => y_call (vs := [vm, (.func (.func 132) #[] ([(.pointer (some ⟨g1_3, 0, none⟩))] : List Value).toArray)]) (v := (.bool (F_slices_ContainsFunc_SSint_Sint m (fun row => F_impl_Metric_isTable_1 row (m.length : Int))))) en_80 ⟨(ev_g rfl hg), (ev_g rfl hg), trivial⟩ (fun w hw => slices_ContainsFunc_SSint_Sint_ok w vm um m ((rii_arg hm) w hw) 132 [(.pointer (some ⟨g1_3, 0, none⟩))] (fun row => F_impl_Metric_isTable_1 row (m.length : Int)) en_132 (fun w2 hb vrow row hrow => impl_Metric_isTable_1_ok w2 vrow row hrow g1_3 (m.length : Int) (cell_blk 0 rfl rfl hw hb)))) rfl rfl ?_
  refine TL.op (yq (y_or (ev_t rfl) (fun hq => (ev_g rfl hq)))) rfl rfl rfl ?_
  refine TL.nil ?_
  refine TN.seq ?_
  refine TC.cond (b := ((!((decide (1 ≤ (m.length : Int))) && (decide ((m.length : Int) ≤ 6)))) || (F_slices_ContainsFunc_SSint_Sint m (fun row => F_impl_Metric_isTable_1 row (m.length : Int))))) (ev_t rfl) (fun h65 => ?_) (fun h65 => ?_)
  · rw [bif_pos h65] at hF
    have q66 := ((or_t h65).imp (fun h => ((and_f (not_t h)).imp (fun h => (of_decide_eq_false h)) (fun h => (of_decide_eq_false h)))) (fun h => h))
    refine TC.seq ?_
    refine TC.region ?_
    refine TL.op (yq (y_assign ev_c)) rfl rfl rfl ?_
    refine TL.nil ?_
    refine TN.seq ?_
    refine TC.ret ?_
    refine TN.thenR ?_
    subst hF
    exact TN.ret1 rfl (ev_t rfl) (fun w' hw => ⟨rfl, Hp.sublist hw (List.nil_sublist _)⟩)
  · rw [bif_neg h65] at hF
    have q66 := (and_imp (or_f h65) (fun h => (and_imp (and_t (not_f h)) (fun h => (of_decide_eq_true h)) (fun h => (of_decide_eq_true h)))) (fun h => h))
    refine TC.skip ?_
    refine TN.seq ?_
    refine TC.seq ?_
    refine TC.seq ?_
    refine TC.region ?_
    refine TL.op (yq (y_ldb 0 (ev_t rfl) one_3 rfl rfl)) rfl rfl rfl ?_
    refine TL.op (yq (y_move ev_c)) rfl rfl rfl ?_
    refine TL.nil ?_
    refine TN.seq ?_
    refine TC.block ?_
    have hrows := rows_of (m := m) (And.right (by assumption))
    obtain ⟨c67, hc68⟩ : ∃ c, F_impl_Metric_isTable_L1 m opn ((m.length - 0) + 1) 0 = c := ⟨_, rfl⟩
    rw [hc68] at hF
    refine TC.loop (ι := Nat × Nat) (fun (fu1, k22_1) => [(1, (.bool opn)), (2, (.pointer (some ⟨g0_0, 0, none⟩))), (21, (.int .i64 (m.length : Int))), (22, (.int .i64 (k22_1 : Int)))]) (fun (fu1, k22_1) => Hp w [.blk g0_0 29 [vm]]) (fun (fu1, k22_1) => (k22_1 ≤ m.length) ∧ m.length - k22_1 < fu1 ∧ F_impl_Metric_isTable_L1 m opn fu1 k22_1 = c67) (fun (fu1, k22_1) => fu1) ((m.length - 0) + 1, 0) ⟨(by first | omega | (simp [-List.getD_eq_getElem?_getD] <;> omega)), (by omega), hc68⟩ ⟨rfl, rfl, rfl, rfl, trivial⟩ (fun w hw => Hp.sublist hw (.cons _ (.cons_cons _ .slnil))) ?_
    rintro ⟨fu1, k22_1⟩ hJ1
    obtain ⟨hi1_0, hmu1, hL1⟩ : (k22_1 ≤ m.length) ∧ m.length - k22_1 < fu1 ∧ F_impl_Metric_isTable_L1 m opn fu1 k22_1 = c67 := hJ1
    change TC _ _ _ _ (Hp w [.blk g0_0 29 [vm]]) [(1, (.bool opn)), (2, (.pointer (some ⟨g0_0, 0, none⟩))), (21, (.int .i64 (m.length : Int))), (22, (.int .i64 (k22_1 : Int)))]
    obtain ⟨mf1, rfl⟩ : ∃ m, fu1 = m + 1 := ⟨fu1 - 1, by omega⟩
    rw [F_impl_Metric_isTable_L1_s] at hL1
    have hrw := hrows k22_1
    refine TC.seq ?_
    refine TC.region ?_
    refine TL.op (yq (y_lss (ev_t rfl) (ev_t rfl))) rfl rfl rfl ?_
    refine TL.nil ?_
    refine TN.seq ?_
    refine TC.seq ?_
    refine TC.cond (b := decide ((k22_1 : Int) < (m.length : Int))) (ev_t rfl) (fun h69 => ?_) (fun h69 => ?_)
    · rw [bif_pos h69] at hL1
      have q70 := (of_decide_eq_true h69)
      refine TC.skip ?_
      refine TN.seq ?_
      refine TC.seq ?_
      refine TC.block ?_
      refine TC.seq ?_
      refine TC.region ?_
      refine TL.op (yq (y_move (ev_t rfl))) rfl rfl rfl ?_
      refine TL.op (yq (y_assign (ev_t rfl))) rfl rfl rfl ?_
      refine TL.nil ?_
      refine TN.seq ?_
      refine TC.seq ?_
      refine TC.region ?_
      refine TL.op (yq (y_fa (fa_29_0 g0_0) (ev_t rfl))) rfl rfl rfl ?_
      refine TL.op (yq (y_ldb 0 (ev_t rfl) one_22 rfl rfl)) rfl rfl rfl ?_
      refine TL.op (yq (y_move (ev_t rfl))) rfl rfl rfl ?_
      have hb71 : k22_1 < m.length := (by first | omega | (simp only [List.length_set, List.length_append, List.length_cons, List.length_nil, List.length_replicate]; omega) | (rw [sortI_length]; simp only [List.length_cons, List.length_nil]; omega))
      refine TL.op (yq (y_idx (k := k22_1) (ev_t rfl) (ev_t rfl) (by first | omega | simp) slT_22 (fun w hw => ((rii_arg hm) w hw).1) hb71)) rfl rfl rfl ?_
      have ha72 := hm.row (i := k22_1) hb71
      refine TL.op (yq (y_ldA (ev_t rfl) one_25 (rii_arg hm) hb71)) rfl rfl rfl ?_
      refine TL.op (yq (y_len (ev_t rfl) Try.underlying25 (fun w hw => ((ri_arg ha72) w hw).ln))) rfl rfl rfl ?_
      refine TL.op (yq (y_move ev_c)) rfl rfl rfl ?_
      refine TL.nil ?_
      refine TN.seq ?_
      refine TC.block ?_
      obtain ⟨c73, hc74⟩ : ∃ c, F_impl_Metric_isTable_L2 m opn k22_1 ((((m.getD k22_1 []).length) - 0) + 1) 0 = c := ⟨_, rfl⟩
      rw [hc74] at hL1
      refine TC.loop (ι := Nat × Nat) (fun (fu2, k31_2) => [(1, (.bool opn)), (2, (.pointer (some ⟨g0_0, 0, none⟩))), (6, (.int .i64 (k22_1 : Int))), (21, (.int .i64 (m.length : Int))), (22, (.int .i64 (k22_1 : Int))), (29, (um.getD k22_1 undef)), (30, (.int .i64 ((m.getD k22_1 []).length : Int))), (31, (.int .i64 (k31_2 : Int)))]) (fun (fu2, k31_2) => Hp w [.blk g0_0 29 [vm]]) (fun (fu2, k31_2) => (k31_2 ≤ ((m.getD k22_1 []).length)) ∧ ((m.getD k22_1 []).length) - k31_2 < fu2 ∧ F_impl_Metric_isTable_L2 m opn k22_1 fu2 k31_2 = c73) (fun (fu2, k31_2) => fu2) ((((m.getD k22_1 []).length) - 0) + 1, 0) ⟨(by first | omega | (simp [-List.getD_eq_getElem?_getD] <;> omega)), (by omega), hc74⟩ ⟨rfl, rfl, rfl, rfl, rfl, rfl, rfl, rfl, trivial⟩ (fun w hw => hw) ?_
      rintro ⟨fu2, k31_2⟩ hJ2
      obtain ⟨hi2_0, hmu2, hL2⟩ : (k31_2 ≤ ((m.getD k22_1 []).length)) ∧ ((m.getD k22_1 []).length) - k31_2 < fu2 ∧ F_impl_Metric_isTable_L2 m opn k22_1 fu2 k31_2 = c73 := hJ2
      change TC _ _ _ _ (Hp w [.blk g0_0 29 [vm]]) [(1, (.bool opn)), (2, (.pointer (some ⟨g0_0, 0, none⟩))), (6, (.int .i64 (k22_1 : Int))), (21, (.int .i64 (m.length : Int))), (22, (.int .i64 (k22_1 : Int))), (29, (um.getD k22_1 undef)), (30, (.int .i64 ((m.getD k22_1 []).length : Int))), (31, (.int .i64 (k31_2 : Int)))]
      obtain ⟨mf2, rfl⟩ : ∃ m, fu2 = m + 1 := ⟨fu2 - 1, by omega⟩
      rw [F_impl_Metric_isTable_L2_s] at hL2
      have hrw2 := hrows k31_2
      refine TC.seq ?_
      refine TC.region ?_
      refine TL.op (yq (y_lss (ev_t rfl) (ev_t rfl))) rfl rfl rfl ?_
      refine TL.nil ?_
      refine TN.seq ?_
      refine TC.seq ?_
      refine TC.cond (b := decide ((k31_2 : Int) < ((m.getD k22_1 []).length : Int))) (ev_t rfl) (fun h75 => ?_) (fun h75 => ?_)
      · rw [bif_pos h75] at hL2
        have q76 := (of_decide_eq_true h75)
        refine TC.skip ?_
        refine TN.seq ?_
        refine TC.seq ?_
        refine TC.block ?_
        refine TC.seq ?_
        refine TC.region ?_
        refine TL.op (yq (y_move (ev_t rfl))) rfl rfl rfl ?_
        have hb77 : k31_2 < (m.getD k22_1 []).length := (by first | omega | (simp only [List.length_set, List.length_append, List.length_cons, List.length_nil, List.length_replicate]; omega) | (rw [sortI_length]; simp only [List.length_cons, List.length_nil]; omega))
        refine TL.op (yq (y_idx (k := k31_2) (ev_t rfl) (ev_t rfl) (by first | omega | simp) slT_25 (ri_arg ha72) hb77)) rfl rfl rfl ?_
        refine TL.op (yq (y_ldi (ev_t rfl) one_3 (ri_arg ha72) hb77)) rfl rfl rfl ?_
        refine TL.op (yq (y_assign (ev_t rfl))) rfl rfl rfl ?_
        refine TL.op (yq (y_assign (ev_t rfl))) rfl rfl rfl ?_
        refine TL.nil ?_
        refine TN.seq ?_
        refine TC.block ?_
        refine TC.seq ?_
        refine TC.seq ?_
        refine TC.region ?_
        refine TL.op (yq (y_move (ev_t rfl))) rfl rfl rfl ?_
        refine TL.op (yq (y_move (ev_t rfl))) rfl rfl rfl ?_
        refine TL.op (yq (y_eql (ev_t rfl) (ev_t rfl))) rfl rfl rfl ?_
        refine TL.op (yq (y_move (ev_t rfl))) rfl rfl rfl ?_
        refine TL.opw (w_t rfl rfl rfl) (fun hg => yq (y_move (ev_t rfl))) rfl rfl ?_
        refine TL.opw (w_t rfl rfl rfl) (fun hg => yq (y_neq (ev_g rfl hg) ev_c)) rfl rfl ?_
        refine TL.op (yq (y_and (ev_t rfl) (fun hq => (ev_g rfl hq)))) rfl rfl rfl ?_
        refine TL.op (yq (y_assign (ev_t rfl))) rfl rfl rfl ?_
        refine TL.nil ?_
        refine TN.seq ?_
        refine TC.cond (b := ((decide ((k22_1 : Int) = (k31_2 : Int))) && (!decide (((m.getD k22_1 []).getD k31_2 0) = 0)))) (ev_t rfl) (fun h78 => ?_) (fun h78 => ?_)
        · rw [bif_pos h78] at hL2
          have q79 := (and_imp (and_t h78) (fun h => (of_decide_eq_true h)) (fun h => (of_decide_eq_false (not_t h))))
          refine TC.skip ?_
          refine TN.seq ?_
          refine TC.condT (ev_t rfl) h78 ?_
          refine TC.seq ?_
          refine TC.region ?_
          refine TL.op (yq (y_assign ev_c)) rfl rfl rfl ?_
          refine TL.nil ?_
          refine TN.seq ?_
          refine TC.ret ?_
          refine TN.blockR ?_
          refine TN.blockR ?_
          refine TN.thenR ?_
          refine TN.thenR ?_
          rw [← hL2, elim_ret] at hL1
          refine TN.blockR ?_
          refine TN.blockR ?_
          refine TN.thenR ?_
          refine TN.thenR ?_
          rw [← hL1, elim_ret] at hF
          refine TN.blockR ?_
          refine TN.thenR ?_
          subst hF
          exact TN.ret1 rfl (ev_t rfl) (fun w' hw => ⟨rfl, Hp.sublist hw (List.nil_sublist _)⟩)
        · rw [bif_neg h78] at hL2
          have q79 := ((and_f h78).imp (fun h => (of_decide_eq_false h)) (fun h => (of_decide_eq_true (not_f h))))
          refine TC.seq ?_
          refine TC.region ?_
          refine TL.op (yq (y_move (ev_t rfl))) rfl rfl rfl ?_
          refine TL.op (yq (y_fa (fa_29_0 g0_0) (ev_t rfl))) rfl rfl rfl ?_
          refine TL.op (yq (y_ldb 0 (ev_t rfl) one_22 rfl rfl)) rfl rfl rfl ?_
          refine TL.op (yq (y_move (ev_t rfl))) rfl rfl rfl ?_
          have hb82 : k31_2 < m.length := (by first | omega | (simp only [List.length_set, List.length_append, List.length_cons, List.length_nil, List.length_replicate]; omega) | (rw [sortI_length]; simp only [List.length_cons, List.length_nil]; omega))
          refine TL.op (yq (y_idx (k := k31_2) (ev_t rfl) (ev_t rfl) (by first | omega | simp) slT_22 (fun w hw => ((rii_arg hm) w hw).1) hb82)) rfl rfl rfl ?_
          have ha83 := hm.row (i := k31_2) hb82
          refine TL.op (yq (y_ldA (ev_t rfl) one_25 (rii_arg hm) hb82)) rfl rfl rfl ?_
          refine TL.op (yq (y_move (ev_t rfl))) rfl rfl rfl ?_
          have hb84 : k22_1 < (m.getD k31_2 []).length := (by first | omega | (simp only [List.length_set, List.length_append, List.length_cons, List.length_nil, List.length_replicate]; omega) | (rw [sortI_length]; simp only [List.length_cons, List.length_nil]; omega))
          refine TL.op (yq (y_idx (k := k22_1) (ev_t rfl) (ev_t rfl) (by first | omega | simp) slT_25 (ri_arg ha83) hb84)) rfl rfl rfl ?_
          refine TL.op (yq (y_ldi (ev_t rfl) one_3 (ri_arg ha83) hb84)) rfl rfl rfl ?_
          refine TL.op (yq (y_neq (ev_t rfl) (ev_t rfl))) rfl rfl rfl ?_
          refine TL.op (yq (y_assign (ev_t rfl))) rfl rfl rfl ?_
          refine TL.nil ?_
          refine TN.seq ?_
          refine TC.cond (b := !decide (((m.getD k22_1 []).getD k31_2 0) = ((m.getD k31_2 []).getD k22_1 0))) (ev_t rfl) (fun h85 => ?_) (fun h85 => ?_)
          · rw [bif_pos h85] at hL2
            have q86 := (of_decide_eq_false (not_t h85))
            refine TC.skip ?_
            refine TN.seq ?_
            refine TC.condT (ev_t rfl) h85 ?_
            refine TC.seq ?_
            refine TC.region ?_
            refine TL.op (yq (y_assign ev_c)) rfl rfl rfl ?_
            refine TL.nil ?_
            refine TN.seq ?_
            refine TC.ret ?_
            refine TN.blockR ?_
            refine TN.blockR ?_
            refine TN.thenR ?_
            refine TN.thenR ?_
            rw [← hL2, elim_ret] at hL1
            refine TN.blockR ?_
            refine TN.blockR ?_
            refine TN.thenR ?_
            refine TN.thenR ?_
            rw [← hL1, elim_ret] at hF
            refine TN.blockR ?_
            refine TN.thenR ?_
            subst hF
            exact TN.ret1 rfl (ev_t rfl) (fun w' hw => ⟨rfl, Hp.sublist hw (List.nil_sublist _)⟩)
          · rw [bif_neg h85] at hL2
            have q86 := (of_decide_eq_true (not_f h85))
            refine TC.region ?_
            refine TL.op (yq (y_move (ev_t rfl))) rfl rfl rfl ?_
            refine TL.op (yq (y_gtr (ev_t rfl) ev_c)) rfl rfl rfl ?_
            refine TL.op (yq (y_assign (ev_t rfl))) rfl rfl rfl ?_
            refine TL.nil ?_
            refine TN.seq ?_
            refine TC.cond (b := decide (99 < ((m.getD k22_1 []).getD k31_2 0))) (ev_t rfl) (fun h89 => ?_) (fun h89 => ?_)
            · rw [bif_pos h89] at hL2
              have q90 := (of_decide_eq_true h89)
              refine TC.seq ?_
              refine TC.region ?_
              refine TL.op (yq (y_assign ev_c)) rfl rfl rfl ?_
              refine TL.nil ?_
              refine TN.seq ?_
              refine TC.ret ?_
              refine TN.blockR ?_
              refine TN.blockR ?_
              refine TN.thenR ?_
              refine TN.thenR ?_
              rw [← hL2, elim_ret] at hL1
              refine TN.blockR ?_
              refine TN.blockR ?_
              refine TN.thenR ?_
              refine TN.thenR ?_
              rw [← hL1, elim_ret] at hF
              refine TN.blockR ?_
              refine TN.thenR ?_
              subst hF
              exact TN.ret1 rfl (ev_t rfl) (fun w' hw => ⟨rfl, Hp.sublist hw (List.nil_sublist _)⟩)
            · rw [bif_neg h89] at hL2
              have q90 := (of_decide_eq_false h89)
              refine TC.seq ?_
              refine TC.region ?_
              refine TL.op (yq (y_move (ev_t rfl))) rfl rfl rfl ?_
              refine TL.op (yq (y_move (ev_t rfl))) rfl rfl rfl ?_
              refine TL.op (yq (y_neq (ev_t rfl) (ev_t rfl))) rfl rfl rfl ?_
              refine TL.op (yq (y_move (ev_t rfl))) rfl rfl rfl ?_
              refine TL.opw (w_t rfl rfl rfl) (fun hg => yq (y_move (ev_t rfl))) rfl rfl ?_
              refine TL.opw (w_t rfl rfl rfl) (fun hg => yq (y_lss (ev_g rfl hg) ev_c)) rfl rfl ?_
              refine TL.op (yq (y_and (ev_t rfl) (fun hq => (ev_g rfl hq)))) rfl rfl rfl ?_
              refine TL.op (yq (y_move (ev_t rfl))) rfl rfl rfl ?_
              refine TL.opw (w_t rfl rfl rfl) (fun hg => yq (y_move (ev_t rfl))) rfl rfl ?_
              refine TL.opw (w_t rfl rfl rfl) (fun hg => yq (y_move (ev_g rfl hg))) rfl rfl ?_
              refine TL.opw (w_gt rfl rfl rfl) (fun hg => yq (y_move (ev_t rfl))) rfl rfl ?_
              refine TL.opw (w_gt rfl rfl rfl) (fun hg => yq (y_eql (ev_g rfl hg) ev_c)) rfl rfl ?_
              refine TL.opw (w_t rfl rfl rfl) (fun hg => yq (y_and (ev_g rfl hg) (fun hq => (ev_g rfl (gand hg hq))))) rfl rfl ?_
              refine TL.opw (w_t rfl rfl rfl) (fun hg => yq (y_not (ev_g rfl hg))) rfl rfl ?_
              refine TL.op (yq (y_and (ev_t rfl) (fun hq => (ev_g rfl hq)))) rfl rfl rfl ?_
              refine TL.op (yq (y_assign (ev_t rfl))) rfl rfl rfl ?_
              refine TL.nil ?_
              refine TN.seq ?_
              refine TC.cond (b := (((!decide ((k22_1 : Int) = (k31_2 : Int))) && (decide (((m.getD k22_1 []).getD k31_2 0) < 1))) && (!(opn && (decide (((m.getD k22_1 []).getD k31_2 0) = -1)))))) (ev_t rfl) (fun h91 => ?_) (fun h91 => ?_)
              · rw [bif_pos h91] at hL2
                have q92 := (and_imp (and_t h91) (fun h => (and_imp (and_t h) (fun h => (of_decide_eq_false (not_t h))) (fun h => (of_decide_eq_true h)))) (fun h => ((and_f (not_t h)).imp (fun h => h) (fun h => (of_decide_eq_false h)))))
                refine TC.seq ?_
                refine TC.region ?_
                refine TL.op (yq (y_assign ev_c)) rfl rfl rfl ?_
                refine TL.nil ?_
                refine TN.seq ?_
                refine TC.ret ?_
                refine TN.blockR ?_
                refine TN.blockR ?_
                refine TN.thenR ?_
                refine TN.thenR ?_
                rw [← hL2, elim_ret] at hL1
                refine TN.blockR ?_
                refine TN.blockR ?_
                refine TN.thenR ?_
                refine TN.thenR ?_
                rw [← hL1, elim_ret] at hF
                refine TN.blockR ?_
                refine TN.thenR ?_
                subst hF
                exact TN.ret1 rfl (ev_t rfl) (fun w' hw => ⟨rfl, Hp.sublist hw (List.nil_sublist _)⟩)
              · rw [bif_neg h91] at hL2
                have q92 := ((and_f h91).imp (fun h => ((and_f h).imp (fun h => (of_decide_eq_true (not_f h))) (fun h => (of_decide_eq_false h)))) (fun h => (and_imp (and_t (not_f h)) (fun h => h) (fun h => (of_decide_eq_true h)))))
                refine TC.skip ?_
                refine TN.blockN ?_
                refine TN.blockN ?_
                refine TN.seq ?_
                refine TC.region ?_
                refine TL.op (yq (y_add (ev_t rfl) ev_c (by unfold In64; omega))) rfl rfl rfl ?_
                refine TL.op (yq (y_move (ev_t rfl))) rfl rfl rfl ?_
                refine TL.nil ?_
                exact TN.hand (mf2, (k31_2 + 1)) ⟨(by first | omega | (simp [-List.getD_eq_getElem?_getD] <;> omega)), (by omega), hL2⟩ (Nat.lt_succ_self _) ⟨rfl, rfl, rfl, rfl, rfl, rfl, rfl, rfl, trivial⟩ (fun w hw => hw)
      · rw [bif_neg h75] at hL2
        have q76 := (of_decide_eq_false h75)
        refine TC.exit ?_
        refine TN.thenE ?_
        refine TN.thenE ?_
        rw [← hL2, elim_next] at hL1
        try dsimp only at hL1
        refine TN.blockH ?_
        refine TN.blockN ?_
        refine TN.seq ?_
        refine TC.region ?_
        refine TL.op (yq (y_add (ev_t rfl) ev_c (by unfold In64; omega))) rfl rfl rfl ?_
        refine TL.op (yq (y_move (ev_t rfl))) rfl rfl rfl ?_
        refine TL.nil ?_
        exact TN.hand (mf1, (k22_1 + 1)) ⟨(by first | omega | (simp [-List.getD_eq_getElem?_getD] <;> omega)), (by omega), hL1⟩ (Nat.lt_succ_self _) ⟨rfl, rfl, rfl, rfl, trivial⟩ (fun w hw => hw)
    · rw [bif_neg h69] at hL1
      have q70 := (of_decide_eq_false h69)
      refine TC.exit ?_
      refine TN.thenE ?_
      refine TN.thenE ?_
      rw [← hL1, elim_next] at hF
      try dsimp only at hF
      refine TN.blockH ?_
      refine TN.seq ?_
      refine TC.seq ?_
      refine TC.region ?_
      refine TL.op (yq (y_assign ev_c)) rfl rfl rfl ?_
      refine TL.nil ?_
      refine TN.seq ?_
      refine TC.ret ?_
      subst hF
      exact TN.ret1 rfl (ev_t rfl) (fun w' hw => ⟨rfl, Hp.sublist hw (List.nil_sublist _)⟩)

set_option maxRecDepth 4000 in
set_option maxHeartbeats 1000000 in
theorem impl_Metric_detour_ok (w : World) (vm : Value) (um : List Value) (m : List (List Int)) (hm : RII w vm um m) (hp0 : Tab m) :
    Calls Try.prog 115 ([(.agg #[vm])] : List Value).toArray w (fun e w' => ∃ i : Value, e = .returned (.tuple #[i, (.bool ((F_impl_Metric_detour m).2))]) ∧ Hp w [rowI 3 i ((F_impl_Metric_detour m).1)] w') := by
  obtain ⟨rz, hF⟩ : ∃ rz, (F_impl_Metric_detour m) = rz := ⟨_, rfl⟩
  rw [hF]
  unfold F_impl_Metric_detour at hF
  have hlen_m := argT_len hm
  refine calls_tc Try.func115 rfl rfl rfl ?_
  change TC _ _ _ _ (Hp w []) [(0, (.agg #[vm]))]
  refine TC.seq ?_
  refine TC.region ?_
  refine TL.box (ev_t rfl) rfl (fun g0_0 => ?_)
  refine TL.op (yq (y_assign ev_c)) rfl rfl rfl ?_
  refine TL.op (yq (y_assign ev_c)) rfl rfl rfl ?_
  refine TL.nil ?_
  refine TN.seq ?_
  refine TC.seq ?_
  refine TC.seq ?_
  refine TC.region ?_
  refine TL.op (yq (y_fa (fa_29_0 g0_0) (ev_t rfl))) rfl rfl rfl ?_
  refine TL.op (yq (y_ldb 0 (ev_t rfl) one_22 rfl rfl)) rfl rfl rfl ?_
  refine TL.op (yq (y_len (ev_t rfl) Try.underlying22 (fun w hw => ((fun w hw => ((rii_arg hm) w hw).1) w hw).ln))) rfl rfl rfl ?_
  refine TL.op (yq (y_move ev_c)) rfl rfl rfl ?_
  refine TL.nil ?_
  refine TN.seq ?_
  refine TC.block ?_
  obtain ⟨c50, hc51⟩ : ∃ c, F_impl_Metric_detour_L1 m ((m.length - 0) + 1) 0 = c := ⟨_, rfl⟩
  rw [hc51] at hF
  refine TC.loop (ι := Nat × Nat) (fun (fu1, k12_1) => [(1, (.pointer (some ⟨g0_0, 0, none⟩))), (10, vm), (11, (.int .i64 (m.length : Int))), (12, (.int .i64 (k12_1 : Int)))]) (fun (fu1, k12_1) => Hp w [.blk g0_0 29 [vm]]) (fun (fu1, k12_1) => (k12_1 ≤ m.length) ∧ m.length - k12_1 < fu1 ∧ F_impl_Metric_detour_L1 m fu1 k12_1 = c50) (fun (fu1, k12_1) => fu1) ((m.length - 0) + 1, 0) ⟨(by first | omega | (simp [-List.getD_eq_getElem?_getD] <;> omega)), (by omega), hc51⟩ ⟨rfl, rfl, rfl, rfl, trivial⟩ (fun w hw => hw) ?_
  rintro ⟨fu1, k12_1⟩ hJ1
  obtain ⟨hi1_0, hmu1, hL1⟩ : (k12_1 ≤ m.length) ∧ m.length - k12_1 < fu1 ∧ F_impl_Metric_detour_L1 m fu1 k12_1 = c50 := hJ1
  change TC _ _ _ _ (Hp w [.blk g0_0 29 [vm]]) [(1, (.pointer (some ⟨g0_0, 0, none⟩))), (10, vm), (11, (.int .i64 (m.length : Int))), (12, (.int .i64 (k12_1 : Int)))]
  obtain ⟨mf1, rfl⟩ : ∃ m, fu1 = m + 1 := ⟨fu1 - 1, by omega⟩
  rw [F_impl_Metric_detour_L1_s] at hL1
  have hrw := hp0.rows k12_1
  refine TC.seq ?_
  refine TC.region ?_
  refine TL.op (yq (y_lss (ev_t rfl) (ev_t rfl))) rfl rfl rfl ?_
  refine TL.nil ?_
  refine TN.seq ?_
  refine TC.seq ?_
  refine TC.cond (b := decide ((k12_1 : Int) < (m.length : Int))) (ev_t rfl) (fun h52 => ?_) (fun h52 => ?_)
  · rw [bif_pos h52] at hL1
    have q53 := (of_decide_eq_true h52)
    refine TC.skip ?_
    refine TN.seq ?_
    refine TC.seq ?_
    refine TC.block ?_
    refine TC.seq ?_
    refine TC.region ?_
    refine TL.op (yq (y_move (ev_t rfl))) rfl rfl rfl ?_
    have hb54 : k12_1 < m.length := (by first | omega | (simp only [List.length_set, List.length_append, List.length_cons, List.length_nil, List.length_replicate]; omega) | (rw [sortI_length]; simp only [List.length_cons, List.length_nil]; omega))
    refine TL.op (yq (y_idx (k := k12_1) (ev_t rfl) (ev_t rfl) (by first | omega | simp) slT_22 (fun w hw => ((rii_arg hm) w hw).1) hb54)) rfl rfl rfl ?_
    have ha55 := hm.row (i := k12_1) hb54
    refine TL.op (yq (y_ldA (ev_t rfl) one_25 (rii_arg hm) hb54)) rfl rfl rfl ?_
    refine TL.op (yq (y_assign (ev_t rfl))) rfl rfl rfl ?_
    refine TL.op (yq (y_assign (ev_t rfl))) rfl rfl rfl ?_
    refine TL.nil ?_
    refine TN.seq ?_
    refine TC.seq ?_
    refine TC.region ?_
    refine TL.op (yq (y_move (ev_t rfl))) rfl rfl rfl ?_
    refine TL.op (yq (y_len (ev_t rfl) Try.underlying25 (fun w hw => ((ri_arg ha55) w hw).ln))) rfl rfl rfl ?_
    refine TL.op (yq (y_move ev_c)) rfl rfl rfl ?_
    refine TL.nil ?_
    refine TN.seq ?_
    refine TC.block ?_
    obtain ⟨c56, hc57⟩ : ∃ c, F_impl_Metric_detour_L2 m k12_1 ((((m.getD k12_1 []).length) - 0) + 1) 0 = c := ⟨_, rfl⟩
    rw [hc57] at hL1
    refine TC.loop (ι := Nat × Nat) (fun (fu2, k19_2) => [(1, (.pointer (some ⟨g0_0, 0, none⟩))), (4, (.int .i64 (k12_1 : Int))), (5, (um.getD k12_1 undef)), (10, vm), (11, (.int .i64 (m.length : Int))), (12, (.int .i64 (k12_1 : Int))), (17, (um.getD k12_1 undef)), (18, (.int .i64 ((m.getD k12_1 []).length : Int))), (19, (.int .i64 (k19_2 : Int)))]) (fun (fu2, k19_2) => Hp w [.blk g0_0 29 [vm]]) (fun (fu2, k19_2) => (k19_2 ≤ ((m.getD k12_1 []).length)) ∧ ((m.getD k12_1 []).length) - k19_2 < fu2 ∧ F_impl_Metric_detour_L2 m k12_1 fu2 k19_2 = c56) (fun (fu2, k19_2) => fu2) ((((m.getD k12_1 []).length) - 0) + 1, 0) ⟨(by first | omega | (simp [-List.getD_eq_getElem?_getD] <;> omega)), (by omega), hc57⟩ ⟨rfl, rfl, rfl, rfl, rfl, rfl, rfl, rfl, rfl, trivial⟩ (fun w hw => hw) ?_
    rintro ⟨fu2, k19_2⟩ hJ2
    obtain ⟨hi2_0, hmu2, hL2⟩ : (k19_2 ≤ ((m.getD k12_1 []).length)) ∧ ((m.getD k12_1 []).length) - k19_2 < fu2 ∧ F_impl_Metric_detour_L2 m k12_1 fu2 k19_2 = c56 := hJ2
    change TC _ _ _ _ (Hp w [.blk g0_0 29 [vm]]) [(1, (.pointer (some ⟨g0_0, 0, none⟩))), (4, (.int .i64 (k12_1 : Int))), (5, (um.getD k12_1 undef)), (10, vm), (11, (.int .i64 (m.length : Int))), (12, (.int .i64 (k12_1 : Int))), (17, (um.getD k12_1 undef)), (18, (.int .i64 ((m.getD k12_1 []).length : Int))), (19, (.int .i64 (k19_2 : Int)))]
    obtain ⟨mf2, rfl⟩ : ∃ m, fu2 = m + 1 := ⟨fu2 - 1, by omega⟩
    rw [F_impl_Metric_detour_L2_s] at hL2
    have hrw2 := hp0.rows k19_2
    refine TC.seq ?_
    refine TC.region ?_
    refine TL.op (yq (y_lss (ev_t rfl) (ev_t rfl))) rfl rfl rfl ?_
    refine TL.nil ?_
    refine TN.seq ?_
    refine TC.seq ?_
    refine TC.cond (b := decide ((k19_2 : Int) < ((m.getD k12_1 []).length : Int))) (ev_t rfl) (fun h58 => ?_) (fun h58 => ?_)
    · rw [bif_pos h58] at hL2
      have q59 := (of_decide_eq_true h58)
      refine TC.skip ?_
      refine TN.seq ?_
      refine TC.seq ?_
      refine TC.block ?_
      refine TC.seq ?_
      refine TC.region ?_
      refine TL.op (yq (y_move (ev_t rfl))) rfl rfl rfl ?_
      have hb60 : k19_2 < (m.getD k12_1 []).length := (by first | omega | (simp only [List.length_set, List.length_append, List.length_cons, List.length_nil, List.length_replicate]; omega) | (rw [sortI_length]; simp only [List.length_cons, List.length_nil]; omega))
      refine TL.op (yq (y_idx (k := k19_2) (ev_t rfl) (ev_t rfl) (by first | omega | simp) slT_25 (ri_arg ha55) hb60)) rfl rfl rfl ?_
      refine TL.op (yq (y_ldi (ev_t rfl) one_3 (ri_arg ha55) hb60)) rfl rfl rfl ?_
      refine TL.op (yq (y_assign (ev_t rfl))) rfl rfl rfl ?_
      refine TL.op (yq (y_assign (ev_t rfl))) rfl rfl rfl ?_
      refine TL.nil ?_
      refine TN.seq ?_
      refine TC.seq ?_
      refine TC.region ?_
      refine TL.op (yq (y_fa (fa_29_0 g0_0) (ev_t rfl))) rfl rfl rfl ?_
      refine TL.op (yq (y_ldb 0 (ev_t rfl) one_22 rfl rfl)) rfl rfl rfl ?_
      refine TL.op (yq (y_len (ev_t rfl) Try.underlying22 (fun w hw => ((fun w hw => ((rii_arg hm) w hw).1) w hw).ln))) rfl rfl rfl ?_
      refine TL.op (yq (y_move ev_c)) rfl rfl rfl ?_
      refine TL.nil ?_
      refine TN.seq ?_
      refine TC.block ?_
      obtain ⟨c61, hc62⟩ : ∃ c, F_impl_Metric_detour_L3 m k12_1 k19_2 ((m.length - 0) + 1) 0 = c := ⟨_, rfl⟩
      rw [hc62] at hL2
      refine TC.loop (ι := Nat × Nat) (fun (fu3, k27_3) => [(1, (.pointer (some ⟨g0_0, 0, none⟩))), (4, (.int .i64 (k12_1 : Int))), (5, (um.getD k12_1 undef)), (6, (.int .i64 (k19_2 : Int))), (7, (.int .i64 ((m.getD k12_1 []).getD k19_2 0))), (10, vm), (11, (.int .i64 (m.length : Int))), (12, (.int .i64 (k12_1 : Int))), (17, (um.getD k12_1 undef)), (18, (.int .i64 ((m.getD k12_1 []).length : Int))), (19, (.int .i64 (k19_2 : Int))), (26, (.int .i64 (m.length : Int))), (27, (.int .i64 (k27_3 : Int)))]) (fun (fu3, k27_3) => Hp w [.blk g0_0 29 [vm]]) (fun (fu3, k27_3) => (k27_3 ≤ m.length) ∧ m.length - k27_3 < fu3 ∧ F_impl_Metric_detour_L3 m k12_1 k19_2 fu3 k27_3 = c61) (fun (fu3, k27_3) => fu3) ((m.length - 0) + 1, 0) ⟨(by first | omega | (simp [-List.getD_eq_getElem?_getD] <;> omega)), (by omega), hc62⟩ ⟨rfl, rfl, rfl, rfl, rfl, rfl, rfl, rfl, rfl, rfl, rfl, rfl, rfl, trivial⟩ (fun w hw => hw) ?_
      rintro ⟨fu3, k27_3⟩ hJ3
      obtain ⟨hi3_0, hmu3, hL3⟩ : (k27_3 ≤ m.length) ∧ m.length - k27_3 < fu3 ∧ F_impl_Metric_detour_L3 m k12_1 k19_2 fu3 k27_3 = c61 := hJ3
      change TC _ _ _ _ (Hp w [.blk g0_0 29 [vm]]) [(1, (.pointer (some ⟨g0_0, 0, none⟩))), (4, (.int .i64 (k12_1 : Int))), (5, (um.getD k12_1 undef)), (6, (.int .i64 (k19_2 : Int))), (7, (.int .i64 ((m.getD k12_1 []).getD k19_2 0))), (10, vm), (11, (.int .i64 (m.length : Int))), (12, (.int .i64 (k12_1 : Int))), (17, (um.getD k12_1 undef)), (18, (.int .i64 ((m.getD k12_1 []).length : Int))), (19, (.int .i64 (k19_2 : Int))), (26, (.int .i64 (m.length : Int))), (27, (.int .i64 (k27_3 : Int)))]
      obtain ⟨mf3, rfl⟩ : ∃ m, fu3 = m + 1 := ⟨fu3 - 1, by omega⟩
      rw [F_impl_Metric_detour_L3_s] at hL3
      have he1 := hp0.el k12_1 k19_2
      have he2 := hp0.el k19_2 k27_3
      refine TC.seq ?_
      refine TC.region ?_
      refine TL.op (yq (y_lss (ev_t rfl) (ev_t rfl))) rfl rfl rfl ?_
      refine TL.nil ?_
      refine TN.seq ?_
      refine TC.seq ?_
      refine TC.cond (b := decide ((k27_3 : Int) < (m.length : Int))) (ev_t rfl) (fun h63 => ?_) (fun h63 => ?_)
      · rw [bif_pos h63] at hL3
        have q64 := (of_decide_eq_true h63)
        refine TC.skip ?_
        refine TN.seq ?_
        refine TC.seq ?_
        refine TC.block ?_
        refine TC.seq ?_
        refine TC.region ?_
        refine TL.op (yq (y_move (ev_t rfl))) rfl rfl rfl ?_
        refine TL.op (yq (y_assign (ev_t rfl))) rfl rfl rfl ?_
        refine TL.nil ?_
        refine TN.seq ?_
        refine TC.seq ?_
        refine TC.regionQ (by kernel_rfl) (by kernel_rfl) dr_hp ?_
        refine TQ.op (yq (y_move (ev_t rfl))) rfl rfl rfl ?_
        refine TQ.op (yq (y_move (ev_t rfl))) rfl rfl rfl ?_
        have hb65 : k27_3 < (m.getD k12_1 []).length := (by first | omega | (simp only [List.length_set, List.length_append, List.length_cons, List.length_nil, List.length_replicate]; omega) | (rw [sortI_length]; simp only [List.length_cons, List.length_nil]; omega))
        refine TQ.op (yq (y_idx (k := k27_3) (ev_t rfl) (ev_t rfl) (by first | omega | simp) slT_25 (ri_arg ha55) hb65)) rfl rfl rfl ?_
        refine TQ.op (yq (y_ldi (ev_t rfl) one_3 (ri_arg ha55) hb65)) rfl rfl rfl ?_
        refine TQ.op (yq (y_move (ev_t rfl))) rfl rfl rfl ?_
        refine TQ.op (yq (y_fa (fa_29_0 g0_0) (ev_t rfl))) rfl rfl rfl ?_
        refine TQ.op (yq (y_ldb 0 (ev_t rfl) one_22 rfl rfl)) rfl rfl rfl ?_
        refine TQ.op (yq (y_move (ev_t rfl))) rfl rfl rfl ?_
        have hb66 : k19_2 < m.length := (by first | omega | (simp only [List.length_set, List.length_append, List.length_cons, List.length_nil, List.length_replicate]; omega) | (rw [sortI_length]; simp only [List.length_cons, List.length_nil]; omega))
        refine TQ.op (yq (y_idx (k := k19_2) (ev_t rfl) (ev_t rfl) (by first | omega | simp) slT_22 (fun w hw => ((rii_arg hm) w hw).1) hb66)) rfl rfl rfl ?_
        have ha67 := hm.row (i := k19_2) hb66
        refine TQ.op (yq (y_ldA (ev_t rfl) one_25 (rii_arg hm) hb66)) rfl rfl rfl ?_
        refine TQ.op (yq (y_move (ev_t rfl))) rfl rfl rfl ?_
        have hb68 : k27_3 < (m.getD k19_2 []).length := (by first | omega | (simp only [List.length_set, List.length_append, List.length_cons, List.length_nil, List.length_replicate]; omega) | (rw [sortI_length]; simp only [List.length_cons, List.length_nil]; omega))
        refine TQ.op (yq (y_idx (k := k27_3) (ev_t rfl) (ev_t rfl) (by first | omega | simp) slT_25 (ri_arg ha67) hb68)) rfl rfl rfl ?_
        refine TQ.op (yq (y_ldi (ev_t rfl) one_3 (ri_arg ha67) hb68)) rfl rfl rfl ?_
        refine TQ.op (yq (y_add (ev_t rfl) (ev_t rfl) (by unfold In64; omega))) rfl rfl rfl ?_
        refine TQ.op (yq (y_gtr (ev_t rfl) (ev_t rfl))) rfl rfl rfl ?_
        refine TQ.nil ?_
        refine TN.seq ?_
        refine TC.cond (b := decide (((m.getD k12_1 []).getD k19_2 0) + ((m.getD k19_2 []).getD k27_3 0) < ((m.getD k12_1 []).getD k27_3 0))) (ev_t rfl) (fun h69 => ?_) (fun h69 => ?_)
        · rw [bif_pos h69] at hL3
          have q70 := (of_decide_eq_true h69)
          refine TC.seq ?_
          refine TC.region ?_
          refine TL.op (yq (y_move (ev_t rfl))) rfl rfl rfl ?_
          refine TL.op (yq (y_move (ev_t rfl))) rfl rfl rfl ?_
          refine TL.op (yq (y_move (ev_t rfl))) rfl rfl rfl ?_
          refine TL.buildI (zs := [.tmp 45, .tmp 46, .tmp 47]) (qs := [(k12_1 : Int), (k19_2 : Int), (k27_3 : Int)]) slT_25 rfl ⟨(ev_t rfl), (ev_t rfl), (ev_t rfl), trivial⟩ rfl (by decide) rfl (fun v11_3 => ?_)
          refine TL.op (yq (y_assign (ev_t rfl))) rfl rfl rfl ?_
          refine TL.op (yq (y_assign ev_c)) rfl rfl rfl ?_
          refine TL.nil ?_
          refine TN.seq ?_
          refine TC.ret ?_
          refine TN.blockR ?_
          refine TN.thenR ?_
          refine TN.thenR ?_
          rw [← hL3, elim_ret] at hL2
          refine TN.blockR ?_
          refine TN.blockR ?_
          refine TN.thenR ?_
          refine TN.thenR ?_
          rw [← hL2, elim_ret] at hL1
          refine TN.blockR ?_
          refine TN.blockR ?_
          refine TN.thenR ?_
          refine TN.thenR ?_
          rw [← hL1, elim_ret] at hF
          refine TN.blockR ?_
          refine TN.thenR ?_
          subst hF
          exact TN.ret2 rfl (ev_t rfl) (ev_t rfl) (fun w' hw => ⟨v11_3, rfl, Hp.sublist hw (.cons_cons _ (.cons _ .slnil))⟩)
        · rw [bif_neg h69] at hL3
          have q70 := (of_decide_eq_false h69)
          refine TC.skip ?_
          refine TN.blockN ?_
          refine TN.seq ?_
          refine TC.region ?_
          refine TL.op (yq (y_add (ev_t rfl) ev_c (by unfold In64; omega))) rfl rfl rfl ?_
          refine TL.op (yq (y_move (ev_t rfl))) rfl rfl rfl ?_
          refine TL.nil ?_
          exact TN.hand (mf3, (k27_3 + 1)) ⟨(by first | omega | (simp [-List.getD_eq_getElem?_getD] <;> omega)), (by omega), hL3⟩ (Nat.lt_succ_self _) ⟨rfl, rfl, rfl, rfl, rfl, rfl, rfl, rfl, rfl, rfl, rfl, rfl, rfl, trivial⟩ (fun w hw => hw)
      · rw [bif_neg h63] at hL3
        have q64 := (of_decide_eq_false h63)
        refine TC.exit ?_
        refine TN.thenE ?_
        refine TN.thenE ?_
        rw [← hL3, elim_next] at hL2
        try dsimp only at hL2
        refine TN.blockH ?_
        refine TN.blockN ?_
        refine TN.seq ?_
        refine TC.region ?_
        refine TL.op (yq (y_add (ev_t rfl) ev_c (by unfold In64; omega))) rfl rfl rfl ?_
        refine TL.op (yq (y_move (ev_t rfl))) rfl rfl rfl ?_
        refine TL.nil ?_
        exact TN.hand (mf2, (k19_2 + 1)) ⟨(by first | omega | (simp [-List.getD_eq_getElem?_getD] <;> omega)), (by omega), hL2⟩ (Nat.lt_succ_self _) ⟨rfl, rfl, rfl, rfl, rfl, rfl, rfl, rfl, rfl, trivial⟩ (fun w hw => hw)
    · rw [bif_neg h58] at hL2
      have q59 := (of_decide_eq_false h58)
      refine TC.exit ?_
      refine TN.thenE ?_
      refine TN.thenE ?_
      rw [← hL2, elim_next] at hL1
      try dsimp only at hL1
      refine TN.blockH ?_
      refine TN.blockN ?_
      refine TN.seq ?_
      refine TC.region ?_
      refine TL.op (yq (y_add (ev_t rfl) ev_c (by unfold In64; omega))) rfl rfl rfl ?_
      refine TL.op (yq (y_move (ev_t rfl))) rfl rfl rfl ?_
      refine TL.nil ?_
      exact TN.hand (mf1, (k12_1 + 1)) ⟨(by first | omega | (simp [-List.getD_eq_getElem?_getD] <;> omega)), (by omega), hL1⟩ (Nat.lt_succ_self _) ⟨rfl, rfl, rfl, rfl, trivial⟩ (fun w hw => hw)
  · rw [bif_neg h52] at hL1
    have q53 := (of_decide_eq_false h52)
    refine TC.exit ?_
    refine TN.thenE ?_
    refine TN.thenE ?_
    rw [← hL1, elim_next] at hF
    try dsimp only at hF
    refine TN.blockH ?_
    refine TN.seq ?_
    refine TC.seq ?_
    refine TC.region ?_
    refine TL.op (yq (y_assign ev_c)) rfl rfl rfl ?_
    refine TL.op (yq (y_assign ev_c)) rfl rfl rfl ?_
    refine TL.nil ?_
    refine TN.seq ?_
    refine TC.ret ?_
    subst hF
    refine TN.cls (fun w hw => hw.nil 3 1) ?_
    exact TN.ret2 rfl (ev_t rfl) (ev_t rfl) (fun w' hw => ⟨(.slice none 0 0), rfl, Hp.sublist hw (.cons_cons _ (.cons _ .slnil))⟩)

set_option maxRecDepth 4000 in
set_option maxHeartbeats 1000000 in
theorem impl_IsMetric_ok (w : World) (vm : Value) (um : List Value) (m : List (List Int)) (hm : RII w vm um m)  :
    Calls Try.prog 77 ([(.agg #[vm])] : List Value).toArray w (Ret (.bool (F_impl_IsMetric m)) (Hp w [])) := by
  obtain ⟨rz, hF⟩ : ∃ rz, (F_impl_IsMetric m) = rz := ⟨_, rfl⟩
  rw [hF]
  unfold F_impl_IsMetric at hF
  have hlen_m := argT_len hm
  refine calls_tc Try.func77 rfl rfl rfl ?_
  change TC _ _ _ _ (Hp w []) [(0, (.agg #[vm]))]
  refine TC.seq ?_
  refine TC.region ?_
  refine TL.box (ev_t rfl) rfl (fun g0_0 => ?_)
  refine TL.op (yq (y_assign ev_c)) rfl rfl rfl ?_
  refine TL.nil ?_
  refine TN.seq ?_
  refine TC.seq ?_
  refine TC.seq ?_
  refine TC.region ?_
  refine TL.op (yq (y_ldagg (cs := [vm]) 0 (ev_t rfl) agg_29 rfl)) rfl rfl rfl ?_
  refine TL.op (y_call (vs := [(.agg #[vm]), (.bool false)]) (v := (.bool (F_impl_Metric_isTable m false))) en_114 ⟨(ev_t rfl), ev_c, trivial⟩ (fun w hw => impl_Metric_isTable_ok w vm um m ((rii_arg hm) w hw) false)) rfl rfl rfl ?_
  refine TL.op (yq (y_not (ev_t rfl))) rfl rfl rfl ?_
  refine TL.nil ?_
  refine TN.seq ?_
  refine TC.cond (b := !(F_impl_Metric_isTable m false)) (ev_t rfl) (fun h3 => ?_) (fun h3 => ?_)
  · rw [bif_pos h3] at hF
    have q4 := (not_t h3)
    refine TC.seq ?_
    refine TC.region ?_
    refine TL.op (yq (y_assign ev_c)) rfl rfl rfl ?_
    refine TL.nil ?_
    refine TN.seq ?_
    refine TC.ret ?_
    refine TN.thenR ?_
    subst hF
    exact TN.ret1 rfl (ev_t rfl) (fun w' hw => ⟨rfl, Hp.sublist hw (List.nil_sublist _)⟩)
  · rw [bif_neg h3] at hF
    have q4 := (isTable_t (not_f h3))
    refine TC.skip ?_
    refine TN.seq ?_
    refine TC.seq ?_
    refine TC.region ?_
    refine TL.op (yq (y_ldagg (cs := [vm]) 0 (ev_t rfl) agg_29 rfl)) rfl rfl rfl ?_
    refine TL.callr (ι := Value) (vs := [(.agg #[vm])]) (fun i => (.tuple #[i, (.bool ((F_impl_Metric_detour m).2))])) (fun i => [rowI 3 i ((F_impl_Metric_detour m).1)]) en_115 ⟨(ev_t rfl), trivial⟩ rfl (fun w hw => impl_Metric_detour_ok w vm um m ((rii_arg hm) w hw) (by first | assumption | omega | grind)) (fun r3_1 => ?_)
    refine TL.op (yq (y_move (ev_t rfl))) rfl rfl rfl ?_
    refine TL.op (yq (y_extract (ev_t rfl) rfl)) rfl rfl rfl ?_
    refine TL.op (yq (y_extract (ev_t rfl) rfl)) rfl rfl rfl ?_
    refine TL.op (yq (y_assign (ev_t rfl))) rfl rfl rfl ?_
    refine TL.op (yq (y_assign (ev_t rfl))) rfl rfl rfl ?_
    refine TL.nil ?_
    refine TN.seq ?_
    refine TC.seq ?_
    refine TC.region ?_
    refine TL.op (yq (y_move (ev_t rfl))) rfl rfl rfl ?_
    refine TL.op (yq (y_not (ev_t rfl))) rfl rfl rfl ?_
    refine TL.op (yq (y_assign (ev_t rfl))) rfl rfl rfl ?_
    refine TL.nil ?_
    refine TN.seq ?_
    refine TC.ret ?_
    subst hF
    exact TN.ret1 rfl (ev_t rfl) (fun w' hw => ⟨rfl, Hp.sublist hw (List.nil_sublist _)⟩)

set_option maxRecDepth 4000 in
set_option maxHeartbeats 1000000 in
theorem spec_l6Table_ok (w : World) (vm : Value) (um : List Value) (m : List (List Int)) (hm : RII w vm um m) (opn : Bool)  :
    Calls Try.prog 103 ([(.agg #[vm]), (.bool opn)] : List Value).toArray w (Ret (.bool (F_spec_l6Table m opn)) (Hp w [])) := by
  obtain ⟨rz, hF⟩ : ∃ rz, (F_spec_l6Table m opn) = rz := ⟨_, rfl⟩
  rw [hF]
  unfold F_spec_l6Table at hF
  have hlen_m := argT_len hm
  refine calls_tc Try.func103 rfl rfl rfl ?_
  change TC _ _ _ _ (Hp w []) [(0, (.agg #[vm])), (1, (.bool opn))]
  refine TC.seq ?_
  refine TC.region ?_
  refine TL.box (ev_t rfl) rfl (fun g0_0 => ?_)
  refine TL.op (yq (y_assign ev_c)) rfl rfl rfl ?_
  refine TL.nil ?_
  refine TN.seq ?_
  refine TC.seq ?_
  refine TC.region ?_
  refine TL.op (yq (y_fa (fa_29_0 g0_0) (ev_t rfl))) rfl rfl rfl ?_
  refine TL.op (yq (y_ldb 0 (ev_t rfl) one_22 rfl rfl)) rfl rfl rfl ?_
  refine TL.op (yq (y_len (ev_t rfl) Try.underlying22 (fun w hw => ((fun w hw => ((rii_arg hm) w hw).1) w hw).ln))) rfl rfl rfl ?_
  refine TL.op (yq (y_assign (ev_t rfl))) rfl rfl rfl ?_
  refine TL.nil ?_
  refine TN.seq ?_
  refine TC.seq ?_
  refine TC.seq ?_
  refine TC.region ?_
  refine TL.op (yq (y_move (ev_t rfl))) rfl rfl rfl ?_
  refine TL.op (y_call (vs := [(.int .i64 (m.length : Int)), (.int .i64 1), (.int .i64 6)]) (v := (.bool ((decide (1 ≤ (m.length : Int))) && (decide ((m.length : Int) ≤ 6))))) en_96 ⟨(ev_t rfl), ev_c, ev_c, trivial⟩ (fun w hw => spec_l1In_ok w (m.length : Int) 1 6)) rfl rfl rfl ?_
  refine TL.op (yq (y_not (ev_t rfl))) rfl rfl rfl ?_
  refine TL.nil ?_
  refine TN.seq ?_
  refine TC.cond (b := !((decide (1 ≤ (m.length : Int))) && (decide ((m.length : Int) ≤ 6)))) (ev_t rfl) (fun h49 => ?_) (fun h49 => ?_)
  · rw [bif_pos h49] at hF
    have q50 := ((and_f (not_t h49)).imp (fun h => (of_decide_eq_false h)) (fun h => (of_decide_eq_false h)))
    refine TC.seq ?_
    refine TC.region ?_
    refine TL.op (yq (y_assign ev_c)) rfl rfl rfl ?_
    refine TL.nil ?_
    refine TN.seq ?_
    refine TC.ret ?_
    refine TN.thenR ?_
    subst hF
    exact TN.ret1 rfl (ev_t rfl) (fun w' hw => ⟨rfl, Hp.sublist hw (List.nil_sublist _)⟩)
  · rw [bif_neg h49] at hF
    have q50 := (and_imp (and_t (not_f h49)) (fun h => (of_decide_eq_true h)) (fun h => (of_decide_eq_true h)))
    refine TC.skip ?_
    refine TN.seq ?_
    refine TC.seq ?_
    refine TC.seq ?_
    refine TC.region ?_
    refine TL.op (yq (y_assign ev_c)) rfl rfl rfl ?_
    refine TL.nil ?_
    refine TN.seq ?_
    refine TC.block ?_
    obtain ⟨c51, hc52⟩ : ∃ c, F_spec_l6Table_L1 m ((m.length - 0) + 1) 0 = c := ⟨_, rfl⟩
    rw [hc52] at hF
    refine TC.loop (ι := Nat × Nat) (fun (fu1, k6_1) => [(1, (.bool opn)), (2, (.pointer (some ⟨g0_0, 0, none⟩))), (5, (.int .i64 (m.length : Int))), (6, (.int .i64 (k6_1 : Int)))]) (fun (fu1, k6_1) => Hp w [.blk g0_0 29 [vm]]) (fun (fu1, k6_1) => (k6_1 ≤ m.length) ∧ (∀ j, j < k6_1 → (m.getD j []).length = m.length) ∧ m.length - k6_1 < fu1 ∧ F_spec_l6Table_L1 m fu1 k6_1 = c51) (fun (fu1, k6_1) => fu1) ((m.length - 0) + 1, 0) ⟨(by first | omega | (simp [-List.getD_eq_getElem?_getD] <;> omega)), (fun j hj => by omega), (by omega), hc52⟩ ⟨rfl, rfl, rfl, rfl, trivial⟩ (fun w hw => hw) ?_
    rintro ⟨fu1, k6_1⟩ hJ1
    obtain ⟨hi1_0, hi1_1, hmu1, hL1⟩ : (k6_1 ≤ m.length) ∧ (∀ j, j < k6_1 → (m.getD j []).length = m.length) ∧ m.length - k6_1 < fu1 ∧ F_spec_l6Table_L1 m fu1 k6_1 = c51 := hJ1
    change TC _ _ _ _ (Hp w [.blk g0_0 29 [vm]]) [(1, (.bool opn)), (2, (.pointer (some ⟨g0_0, 0, none⟩))), (5, (.int .i64 (m.length : Int))), (6, (.int .i64 (k6_1 : Int)))]
    obtain ⟨mf1, rfl⟩ : ∃ m, fu1 = m + 1 := ⟨fu1 - 1, by omega⟩
    rw [F_spec_l6Table_L1_s] at hL1
    refine TC.seq ?_
    refine TC.seq ?_
    refine TC.region ?_
    refine TL.op (yq (y_move (ev_t rfl))) rfl rfl rfl ?_
    refine TL.op (yq (y_move (ev_t rfl))) rfl rfl rfl ?_
    refine TL.op (yq (y_lss (ev_t rfl) (ev_t rfl))) rfl rfl rfl ?_
    refine TL.nil ?_
    refine TN.seq ?_
    refine TC.cond (b := decide ((k6_1 : Int) < (m.length : Int))) (ev_t rfl) (fun h53 => ?_) (fun h53 => ?_)
    · rw [bif_pos h53] at hL1
      have q54 := (of_decide_eq_true h53)
      refine TC.skip ?_
      refine TN.seq ?_
      refine TC.seq ?_
      refine TC.block ?_
      refine TC.seq ?_
      refine TC.region ?_
      refine TL.op (yq (y_fa (fa_29_0 g0_0) (ev_t rfl))) rfl rfl rfl ?_
      refine TL.op (yq (y_ldb 0 (ev_t rfl) one_22 rfl rfl)) rfl rfl rfl ?_
      refine TL.op (yq (y_move (ev_t rfl))) rfl rfl rfl ?_
      have hb55 : k6_1 < m.length := (by first | omega | (simp only [List.length_set, List.length_append, List.length_cons, List.length_nil, List.length_replicate]; omega) | (rw [sortI_length]; simp only [List.length_cons, List.length_nil]; omega))
      refine TL.op (yq (y_idx (k := k6_1) (ev_t rfl) (ev_t rfl) (by first | omega | simp) slT_22 (fun w hw => ((rii_arg hm) w hw).1) hb55)) rfl rfl rfl ?_
      have ha56 := hm.row (i := k6_1) hb55
      refine TL.op (yq (y_ldA (ev_t rfl) one_25 (rii_arg hm) hb55)) rfl rfl rfl ?_
      refine TL.op (yq (y_len (ev_t rfl) Try.underlying25 (fun w hw => ((ri_arg ha56) w hw).ln))) rfl rfl rfl ?_
      refine TL.op (yq (y_move (ev_t rfl))) rfl rfl rfl ?_
      refine TL.op (yq (y_neq (ev_t rfl) (ev_t rfl))) rfl rfl rfl ?_
      refine TL.nil ?_
      refine TN.seq ?_
      refine TC.cond (b := !decide (((m.getD k6_1 []).length : Int) = (m.length : Int))) (ev_t rfl) (fun h57 => ?_) (fun h57 => ?_)
      · rw [bif_pos h57] at hL1
        have q58 := (of_decide_eq_false (not_t h57))
        refine TC.seq ?_
        refine TC.region ?_
        refine TL.op (yq (y_assign ev_c)) rfl rfl rfl ?_
        refine TL.nil ?_
        refine TN.seq ?_
        refine TC.ret ?_
        refine TN.blockR ?_
        refine TN.thenR ?_
        refine TN.thenR ?_
        rw [← hL1, elim_ret] at hF
        refine TN.blockR ?_
        refine TN.thenR ?_
        subst hF
        exact TN.ret1 rfl (ev_t rfl) (fun w' hw => ⟨rfl, Hp.sublist hw (List.nil_sublist _)⟩)
      · rw [bif_neg h57] at hL1
        have q58 := (of_decide_eq_true (not_f h57))
        refine TC.skip ?_
        refine TN.blockN ?_
        refine TN.seq ?_
        refine TC.region ?_
        refine TL.op (yq (y_move (ev_t rfl))) rfl rfl rfl ?_
        refine TL.op (yq (y_add (ev_t rfl) ev_c (by unfold In64; omega))) rfl rfl rfl ?_
        refine TL.op (yq (y_assign (ev_t rfl))) rfl rfl rfl ?_
        refine TL.nil ?_
        exact TN.hand (mf1, (k6_1 + 1)) ⟨(by first | omega | (simp [-List.getD_eq_getElem?_getD] <;> omega)), (upto_succ hi1_1 (by omega)), (by omega), hL1⟩ (Nat.lt_succ_self _) ⟨rfl, rfl, rfl, rfl, trivial⟩ (fun w hw => hw)
    · rw [bif_neg h53] at hL1
      have q54 := (of_decide_eq_false h53)
      refine TC.exit ?_
      refine TN.thenE ?_
      refine TN.thenE ?_
      rw [← hL1, elim_next] at hF
      try dsimp only at hF
      refine TN.blockH ?_
      refine TN.seq ?_
      refine TC.seq ?_
      refine TC.seq ?_
      refine TC.region ?_
      refine TL.op (yq (y_assign ev_c)) rfl rfl rfl ?_
      refine TL.nil ?_
      refine TN.seq ?_
      refine TC.block ?_
      obtain ⟨c59, hc60⟩ : ∃ c, F_spec_l6Table_L2 m opn ((m.length - 0) + 1) 0 = c := ⟨_, rfl⟩
      rw [hc60] at hF
      refine TC.loop (ι := Nat × Nat) (fun (fu2, k7_2) => [(1, (.bool opn)), (2, (.pointer (some ⟨g0_0, 0, none⟩))), (5, (.int .i64 (m.length : Int))), (7, (.int .i64 (k7_2 : Int)))]) (fun (fu2, k7_2) => Hp w [.blk g0_0 29 [vm]]) (fun (fu2, k7_2) => (k7_2 ≤ m.length) ∧ m.length - k7_2 < fu2 ∧ F_spec_l6Table_L2 m opn fu2 k7_2 = c59) (fun (fu2, k7_2) => fu2) ((m.length - 0) + 1, 0) ⟨(by first | omega | (simp [-List.getD_eq_getElem?_getD] <;> omega)), (by omega), hc60⟩ ⟨rfl, rfl, rfl, rfl, trivial⟩ (fun w hw => hw) ?_
      rintro ⟨fu2, k7_2⟩ hJ2
      obtain ⟨hi2_0, hmu2, hL2⟩ : (k7_2 ≤ m.length) ∧ m.length - k7_2 < fu2 ∧ F_spec_l6Table_L2 m opn fu2 k7_2 = c59 := hJ2
      change TC _ _ _ _ (Hp w [.blk g0_0 29 [vm]]) [(1, (.bool opn)), (2, (.pointer (some ⟨g0_0, 0, none⟩))), (5, (.int .i64 (m.length : Int))), (7, (.int .i64 (k7_2 : Int)))]
      obtain ⟨mf2, rfl⟩ : ∃ m, fu2 = m + 1 := ⟨fu2 - 1, by omega⟩
      rw [F_spec_l6Table_L2_s] at hL2
      have hrw := hi1_1 k7_2
      refine TC.seq ?_
      refine TC.seq ?_
      refine TC.region ?_
      refine TL.op (yq (y_move (ev_t rfl))) rfl rfl rfl ?_
      refine TL.op (yq (y_move (ev_t rfl))) rfl rfl rfl ?_
      refine TL.op (yq (y_lss (ev_t rfl) (ev_t rfl))) rfl rfl rfl ?_
      refine TL.nil ?_
      refine TN.seq ?_
      refine TC.cond (b := decide ((k7_2 : Int) < (m.length : Int))) (ev_t rfl) (fun h61 => ?_) (fun h61 => ?_)
      · rw [bif_pos h61] at hL2
        have q62 := (of_decide_eq_true h61)
        refine TC.skip ?_
        refine TN.seq ?_
        refine TC.seq ?_
        refine TC.block ?_
        refine TC.seq ?_
        refine TC.region ?_
        refine TL.op (yq (y_assign ev_c)) rfl rfl rfl ?_
        refine TL.nil ?_
        refine TN.seq ?_
        refine TC.block ?_
        obtain ⟨c63, hc64⟩ : ∃ c, F_spec_l6Table_L3 m opn k7_2 ((m.length - 0) + 1) 0 = c := ⟨_, rfl⟩
        rw [hc64] at hL2
        refine TC.loop (ι := Nat × Nat) (fun (fu3, k8_3) => [(1, (.bool opn)), (2, (.pointer (some ⟨g0_0, 0, none⟩))), (5, (.int .i64 (m.length : Int))), (7, (.int .i64 (k7_2 : Int))), (8, (.int .i64 (k8_3 : Int)))]) (fun (fu3, k8_3) => Hp w [.blk g0_0 29 [vm]]) (fun (fu3, k8_3) => (k8_3 ≤ m.length) ∧ m.length - k8_3 < fu3 ∧ F_spec_l6Table_L3 m opn k7_2 fu3 k8_3 = c63) (fun (fu3, k8_3) => fu3) ((m.length - 0) + 1, 0) ⟨(by first | omega | (simp [-List.getD_eq_getElem?_getD] <;> omega)), (by omega), hc64⟩ ⟨rfl, rfl, rfl, rfl, rfl, trivial⟩ (fun w hw => hw) ?_
        rintro ⟨fu3, k8_3⟩ hJ3
        obtain ⟨hi3_0, hmu3, hL3⟩ : (k8_3 ≤ m.length) ∧ m.length - k8_3 < fu3 ∧ F_spec_l6Table_L3 m opn k7_2 fu3 k8_3 = c63 := hJ3
        change TC _ _ _ _ (Hp w [.blk g0_0 29 [vm]]) [(1, (.bool opn)), (2, (.pointer (some ⟨g0_0, 0, none⟩))), (5, (.int .i64 (m.length : Int))), (7, (.int .i64 (k7_2 : Int))), (8, (.int .i64 (k8_3 : Int)))]
        obtain ⟨mf3, rfl⟩ : ∃ m, fu3 = m + 1 := ⟨fu3 - 1, by omega⟩
        rw [F_spec_l6Table_L3_s] at hL3
        have hrw2 := hi1_1 k8_3
        refine TC.seq ?_
        refine TC.seq ?_
        refine TC.region ?_
        refine TL.op (yq (y_move (ev_t rfl))) rfl rfl rfl ?_
        refine TL.op (yq (y_move (ev_t rfl))) rfl rfl rfl ?_
        refine TL.op (yq (y_lss (ev_t rfl) (ev_t rfl))) rfl rfl rfl ?_
        refine TL.nil ?_
        refine TN.seq ?_
        refine TC.cond (b := decide ((k8_3 : Int) < (m.length : Int))) (ev_t rfl) (fun h65 => ?_) (fun h65 => ?_)
        · rw [bif_pos h65] at hL3
          have q66 := (of_decide_eq_true h65)
          refine TC.skip ?_
          refine TN.seq ?_
          refine TC.seq ?_
          refine TC.block ?_
          refine TC.seq ?_
          refine TC.region ?_
          refine TL.op (yq (y_fa (fa_29_0 g0_0) (ev_t rfl))) rfl rfl rfl ?_
          refine TL.op (yq (y_ldb 0 (ev_t rfl) one_22 rfl rfl)) rfl rfl rfl ?_
          refine TL.op (yq (y_move (ev_t rfl))) rfl rfl rfl ?_
          have hb67 : k7_2 < m.length := (by first | omega | (simp only [List.length_set, List.length_append, List.length_cons, List.length_nil, List.length_replicate]; omega) | (rw [sortI_length]; simp only [List.length_cons, List.length_nil]; omega))
          refine TL.op (yq (y_idx (k := k7_2) (ev_t rfl) (ev_t rfl) (by first | omega | simp) slT_22 (fun w hw => ((rii_arg hm) w hw).1) hb67)) rfl rfl rfl ?_
          have ha68 := hm.row (i := k7_2) hb67
          refine TL.op (yq (y_ldA (ev_t rfl) one_25 (rii_arg hm) hb67)) rfl rfl rfl ?_
          refine TL.op (yq (y_move (ev_t rfl))) rfl rfl rfl ?_
          have hb69 : k8_3 < (m.getD k7_2 []).length := (by first | omega | (simp only [List.length_set, List.length_append, List.length_cons, List.length_nil, List.length_replicate]; omega) | (rw [sortI_length]; simp only [List.length_cons, List.length_nil]; omega))
          refine TL.op (yq (y_idx (k := k8_3) (ev_t rfl) (ev_t rfl) (by first | omega | simp) slT_25 (ri_arg ha68) hb69)) rfl rfl rfl ?_
          refine TL.op (yq (y_ldi (ev_t rfl) one_3 (ri_arg ha68) hb69)) rfl rfl rfl ?_
          refine TL.op (yq (y_assign (ev_t rfl))) rfl rfl rfl ?_
          refine TL.nil ?_
          refine TN.seq ?_
          refine TC.seq ?_
          refine TC.region ?_
          refine TL.op (yq (y_move (ev_t rfl))) rfl rfl rfl ?_
          refine TL.op (yq (y_fa (fa_29_0 g0_0) (ev_t rfl))) rfl rfl rfl ?_
          refine TL.op (yq (y_ldb 0 (ev_t rfl) one_22 rfl rfl)) rfl rfl rfl ?_
          refine TL.op (yq (y_move (ev_t rfl))) rfl rfl rfl ?_
          have hb70 : k8_3 < m.length := (by first | omega | (simp only [List.length_set, List.length_append, List.length_cons, List.length_nil, List.length_replicate]; omega) | (rw [sortI_length]; simp only [List.length_cons, List.length_nil]; omega))
          refine TL.op (yq (y_idx (k := k8_3) (ev_t rfl) (ev_t rfl) (by first | omega | simp) slT_22 (fun w hw => ((rii_arg hm) w hw).1) hb70)) rfl rfl rfl ?_
          have ha71 := hm.row (i := k8_3) hb70
          refine TL.op (yq (y_ldA (ev_t rfl) one_25 (rii_arg hm) hb70)) rfl rfl rfl ?_
          refine TL.op (yq (y_move (ev_t rfl))) rfl rfl rfl ?_
          have hb72 : k7_2 < (m.getD k8_3 []).length := (by first | omega | (simp only [List.length_set, List.length_append, List.length_cons, List.length_nil, List.length_replicate]; omega) | (rw [sortI_length]; simp only [List.length_cons, List.length_nil]; omega))
          refine TL.op (yq (y_idx (k := k7_2) (ev_t rfl) (ev_t rfl) (by first | omega | simp) slT_25 (ri_arg ha71) hb72)) rfl rfl rfl ?_
          refine TL.op (yq (y_ldi (ev_t rfl) one_3 (ri_arg ha71) hb72)) rfl rfl rfl ?_
          refine TL.op (yq (y_neq (ev_t rfl) (ev_t rfl))) rfl rfl rfl ?_
          refine TL.op (yq (y_move (ev_t rfl))) rfl rfl rfl ?_
          refine TL.opw (w_f rfl rfl rfl) (fun hg => yq (y_move (ev_t rfl))) rfl rfl ?_
          refine TL.opw (w_f rfl rfl rfl) (fun hg => yq (y_move (ev_t rfl))) rfl rfl ?_
          refine TL.opw (w_f rfl rfl rfl) (fun hg => yq (y_eql (ev_g rfl hg) (ev_g rfl hg))) rfl rfl ?_
          refine TL.opw (w_f rfl rfl rfl) (fun hg => yq (y_move (ev_g rfl hg))) rfl rfl ?_
          refine TL.opw (w_gt rfl rfl rfl) (fun hg => yq (y_move (ev_t rfl))) rfl rfl ?_
          refine TL.opw (w_gt rfl rfl rfl) (fun hg => yq (y_neq (ev_g rfl hg) ev_c)) rfl rfl ?_
          refine TL.opw (w_f rfl rfl rfl) (fun hg => yq (y_and (ev_g rfl hg) (fun hq => (ev_g rfl (gand hg hq))))) rfl rfl ?_
          refine TL.op (yq (y_or (ev_t rfl) (fun hq => (ev_g rfl hq)))) rfl rfl rfl ?_
          refine TL.op (yq (y_move (ev_t rfl))) rfl rfl rfl ?_
          refine TL.opw (w_f rfl rfl rfl) (fun hg => yq (y_move (ev_t rfl))) rfl rfl ?_
          refine TL.opw (w_f rfl rfl rfl) (fun hg => yq (y_move (ev_t rfl))) rfl rfl ?_
          refine TL.opw (w_f rfl rfl rfl) (fun hg => yq (y_neq (ev_g rfl hg) (ev_g rfl hg))) rfl rfl ?_
          refine TL.opw (w_f rfl rfl rfl) (fun hg => yq (y_move (ev_g rfl hg))) rfl rfl ?_
          refine TL.opw (w_gt rfl rfl rfl) (fun hg => yq (y_move (ev_t rfl))) rfl rfl ?_
          refine TL.opw (w_gt rfl rfl rfl) (fun hg => y_call (vs := [(.int .i64 ((m.getD k7_2 []).getD k8_3 0)), (.int .i64 1), (.int .i64 99)]) (v := (.bool ((decide (1 ≤ ((m.getD k7_2 []).getD k8_3 0))) && (decide (((m.getD k7_2 []).getD k8_3 0) ≤ 99))))) en_96 ⟨(ev_g rfl hg), ev_c, ev_c, trivial⟩ (fun w hw => spec_l1In_ok w ((m.getD k7_2 []).getD k8_3 0) 1 99)) rfl rfl ?_
          refine TL.opw (w_gt rfl rfl rfl) (fun hg => yq (y_not (ev_g rfl hg))) rfl rfl ?_
          refine TL.opw (w_f rfl rfl rfl) (fun hg => yq (y_and (ev_g rfl hg) (fun hq => (ev_g rfl (gand hg hq))))) rfl rfl ?_
          refine TL.opw (w_f rfl rfl rfl) (fun hg => yq (y_move (ev_g rfl hg))) rfl rfl ?_
          refine TL.opw (w_gt rfl rfl rfl) (fun hg => yq (y_move (ev_t rfl))) rfl rfl ?_
          refine TL.opw (w_gt rfl rfl rfl) (fun hg => yq (y_move (ev_g rfl hg))) rfl rfl ?_
          refine TL.opw (w_gt rfl rfl rfl) (fun hg => yq (y_move (ev_t rfl))) rfl rfl ?_
          refine TL.opw (w_gt rfl rfl rfl) (fun hg => yq (y_eql (ev_g rfl hg) ev_c)) rfl rfl ?_
          refine TL.opw (w_gt rfl rfl rfl) (fun hg => yq (y_and (ev_g rfl hg) (fun hq => (ev_g rfl (gand hg hq))))) rfl rfl ?_
          refine TL.opw (w_gt rfl rfl rfl) (fun hg => yq (y_not (ev_g rfl hg))) rfl rfl ?_
          refine TL.opw (w_f rfl rfl rfl) (fun hg => yq (y_and (ev_g rfl hg) (fun hq => (ev_g rfl (gand hg hq))))) rfl rfl ?_
          refine TL.op (yq (y_or (ev_t rfl) (fun hq => (ev_g rfl hq)))) rfl rfl rfl ?_
          refine TL.nil ?_
          refine TN.seq ?_
          refine TC.cond (b := (((!decide (((m.getD k7_2 []).getD k8_3 0) = ((m.getD k8_3 []).getD k7_2 0))) || ((decide ((k7_2 : Int) = (k8_3 : Int))) && (!decide (((m.getD k7_2 []).getD k8_3 0) = 0)))) || (((!decide ((k7_2 : Int) = (k8_3 : Int))) && (!((decide (1 ≤ ((m.getD k7_2 []).getD k8_3 0))) && (decide (((m.getD k7_2 []).getD k8_3 0) ≤ 99))))) && (!(opn && (decide (((m.getD k7_2 []).getD k8_3 0) = -1))))))) (ev_t rfl) (fun h73 => ?_) (fun h73 => ?_)
          · rw [bif_pos h73] at hL3
            have q74 := ((or_t h73).imp (fun h => ((or_t h).imp (fun h => (of_decide_eq_false (not_t h))) (fun h => (and_imp (and_t h) (fun h => (of_decide_eq_true h)) (fun h => (of_decide_eq_false (not_t h))))))) (fun h => (and_imp (and_t h) (fun h => (and_imp (and_t h) (fun h => (of_decide_eq_false (not_t h))) (fun h => ((and_f (not_t h)).imp (fun h => (of_decide_eq_false h)) (fun h => (of_decide_eq_false h)))))) (fun h => ((and_f (not_t h)).imp (fun h => h) (fun h => (of_decide_eq_false h)))))))
            refine TC.seq ?_
            refine TC.region ?_
            refine TL.op (yq (y_assign ev_c)) rfl rfl rfl ?_
            refine TL.nil ?_
            refine TN.seq ?_
            refine TC.ret ?_
            refine TN.blockR ?_
            refine TN.thenR ?_
            refine TN.thenR ?_
            rw [← hL3, elim_ret] at hL2
            refine TN.blockR ?_
            refine TN.blockR ?_
            refine TN.thenR ?_
            refine TN.thenR ?_
            rw [← hL2, elim_ret] at hF
            refine TN.blockR ?_
            refine TN.thenR ?_
            subst hF
            exact TN.ret1 rfl (ev_t rfl) (fun w' hw => ⟨rfl, Hp.sublist hw (List.nil_sublist _)⟩)
          · rw [bif_neg h73] at hL3
            have q74 := (and_imp (or_f h73) (fun h => (and_imp (or_f h) (fun h => (of_decide_eq_true (not_f h))) (fun h => ((and_f h).imp (fun h => (of_decide_eq_false h)) (fun h => (of_decide_eq_true (not_f h))))))) (fun h => ((and_f h).imp (fun h => ((and_f h).imp (fun h => (of_decide_eq_true (not_f h))) (fun h => (and_imp (and_t (not_f h)) (fun h => (of_decide_eq_true h)) (fun h => (of_decide_eq_true h)))))) (fun h => (and_imp (and_t (not_f h)) (fun h => h) (fun h => (of_decide_eq_true h)))))))
            refine TC.skip ?_
            refine TN.blockN ?_
            refine TN.seq ?_
            refine TC.region ?_
            refine TL.op (yq (y_move (ev_t rfl))) rfl rfl rfl ?_
            refine TL.op (yq (y_add (ev_t rfl) ev_c (by unfold In64; omega))) rfl rfl rfl ?_
            refine TL.op (yq (y_assign (ev_t rfl))) rfl rfl rfl ?_
            refine TL.nil ?_
            exact TN.hand (mf3, (k8_3 + 1)) ⟨(by first | omega | (simp [-List.getD_eq_getElem?_getD] <;> omega)), (by omega), hL3⟩ (Nat.lt_succ_self _) ⟨rfl, rfl, rfl, rfl, rfl, trivial⟩ (fun w hw => hw)
        · rw [bif_neg h65] at hL3
          have q66 := (of_decide_eq_false h65)
          refine TC.exit ?_
          refine TN.thenE ?_
          refine TN.thenE ?_
          rw [← hL3, elim_next] at hL2
          try dsimp only at hL2
          refine TN.blockH ?_
          refine TN.blockN ?_
          refine TN.seq ?_
          refine TC.region ?_
          refine TL.op (yq (y_move (ev_t rfl))) rfl rfl rfl ?_
          refine TL.op (yq (y_add (ev_t rfl) ev_c (by unfold In64; omega))) rfl rfl rfl ?_
          refine TL.op (yq (y_assign (ev_t rfl))) rfl rfl rfl ?_
          refine TL.nil ?_
          exact TN.hand (mf2, (k7_2 + 1)) ⟨(by first | omega | (simp [-List.getD_eq_getElem?_getD] <;> omega)), (by omega), hL2⟩ (Nat.lt_succ_self _) ⟨rfl, rfl, rfl, rfl, trivial⟩ (fun w hw => hw)
      · rw [bif_neg h61] at hL2
        have q62 := (of_decide_eq_false h61)
        refine TC.exit ?_
        refine TN.thenE ?_
        refine TN.thenE ?_
        rw [← hL2, elim_next] at hF
        try dsimp only at hF
        refine TN.blockH ?_
        refine TN.seq ?_
        refine TC.seq ?_
        refine TC.region ?_
        refine TL.op (yq (y_assign ev_c)) rfl rfl rfl ?_
        refine TL.nil ?_
        refine TN.seq ?_
        refine TC.ret ?_
        subst hF
        exact TN.ret1 rfl (ev_t rfl) (fun w' hw => ⟨rfl, Hp.sublist hw (List.nil_sublist _)⟩)

set_option maxRecDepth 4000 in
set_option maxHeartbeats 1000000 in
theorem spec_l6Detour_ok (w : World) (vm : Value) (um : List Value) (m : List (List Int)) (hm : RII w vm um m) (hp0 : Tab m) :
    Calls Try.prog 104 ([(.agg #[vm])] : List Value).toArray w (fun e w' => ∃ i : Value, e = .returned i ∧ Hp w [rowI 3 i (F_spec_l6Detour m)] w') := by
  obtain ⟨rz, hF⟩ : ∃ rz, (F_spec_l6Detour m) = rz := ⟨_, rfl⟩
  rw [hF]
  unfold F_spec_l6Detour at hF
  have hlen_m := argT_len hm
  refine calls_tc Try.func104 rfl rfl rfl ?_
  change TC _ _ _ _ (Hp w []) [(0, (.agg #[vm]))]
  refine TC.seq ?_
  refine TC.region ?_
  refine TL.box (ev_t rfl) rfl (fun g0_0 => ?_)
  refine TL.op (yq (y_assign ev_c)) rfl rfl rfl ?_
  refine TL.nil ?_
  refine TN.seq ?_
  refine TC.seq ?_
  refine TC.region ?_
  refine TL.op (yq (y_fa (fa_29_0 g0_0) (ev_t rfl))) rfl rfl rfl ?_
  refine TL.op (yq (y_ldb 0 (ev_t rfl) one_22 rfl rfl)) rfl rfl rfl ?_
  refine TL.op (yq (y_len (ev_t rfl) Try.underlying22 (fun w hw => ((fun w hw => ((rii_arg hm) w hw).1) w hw).ln))) rfl rfl rfl ?_
  refine TL.op (yq (y_assign (ev_t rfl))) rfl rfl rfl ?_
  refine TL.nil ?_
  refine TN.seq ?_
  refine TC.seq ?_
  refine TC.seq ?_
  refine TC.region ?_
  refine TL.op (yq (y_assign ev_c)) rfl rfl rfl ?_
  refine TL.nil ?_
  refine TN.seq ?_
  refine TC.block ?_
  obtain ⟨c63, hc64⟩ : ∃ c, F_spec_l6Detour_L1 m ((m.length - 0) + 1) 0 = c := ⟨_, rfl⟩
  rw [hc64] at hF
  refine TC.loop (ι := Nat × Nat) (fun (fu1, x1) => [(1, (.pointer (some ⟨g0_0, 0, none⟩))), (3, (.int .i64 (m.length : Int))), (4, (.int .i64 (x1 : Int)))]) (fun (fu1, x1) => Hp w [.blk g0_0 29 [vm]]) (fun (fu1, x1) => (x1 ≤ m.length) ∧ m.length - x1 < fu1 ∧ F_spec_l6Detour_L1 m fu1 x1 = c63) (fun (fu1, x1) => fu1) ((m.length - 0) + 1, 0) ⟨(by first | omega | (simp [-List.getD_eq_getElem?_getD] <;> omega)), (by omega), hc64⟩ ⟨rfl, rfl, rfl, trivial⟩ (fun w hw => hw) ?_
  rintro ⟨fu1, x1⟩ hJ1
  obtain ⟨hi1_0, hmu1, hL1⟩ : (x1 ≤ m.length) ∧ m.length - x1 < fu1 ∧ F_spec_l6Detour_L1 m fu1 x1 = c63 := hJ1
  change TC _ _ _ _ (Hp w [.blk g0_0 29 [vm]]) [(1, (.pointer (some ⟨g0_0, 0, none⟩))), (3, (.int .i64 (m.length : Int))), (4, (.int .i64 (x1 : Int)))]
  obtain ⟨mf1, rfl⟩ : ∃ m, fu1 = m + 1 := ⟨fu1 - 1, by omega⟩
  rw [F_spec_l6Detour_L1_s] at hL1
  have hrw := hp0.rows x1
  refine TC.seq ?_
  refine TC.seq ?_
  refine TC.region ?_
  refine TL.op (yq (y_move (ev_t rfl))) rfl rfl rfl ?_
  refine TL.op (yq (y_move (ev_t rfl))) rfl rfl rfl ?_
  refine TL.op (yq (y_lss (ev_t rfl) (ev_t rfl))) rfl rfl rfl ?_
  refine TL.nil ?_
  refine TN.seq ?_
  refine TC.cond (b := decide ((x1 : Int) < (m.length : Int))) (ev_t rfl) (fun h65 => ?_) (fun h65 => ?_)
  · rw [bif_pos h65] at hL1
    have q66 := (of_decide_eq_true h65)
    refine TC.skip ?_
    refine TN.seq ?_
    refine TC.seq ?_
    refine TC.block ?_
    refine TC.seq ?_
    refine TC.region ?_
    refine TL.op (yq (y_assign ev_c)) rfl rfl rfl ?_
    refine TL.nil ?_
    refine TN.seq ?_
    refine TC.block ?_
    obtain ⟨c67, hc68⟩ : ∃ c, F_spec_l6Detour_L2 m x1 ((m.length - 0) + 1) 0 = c := ⟨_, rfl⟩
    rw [hc68] at hL1
    refine TC.loop (ι := Nat × Nat) (fun (fu2, y2) => [(1, (.pointer (some ⟨g0_0, 0, none⟩))), (3, (.int .i64 (m.length : Int))), (4, (.int .i64 (x1 : Int))), (5, (.int .i64 (y2 : Int)))]) (fun (fu2, y2) => Hp w [.blk g0_0 29 [vm]]) (fun (fu2, y2) => (y2 ≤ m.length) ∧ m.length - y2 < fu2 ∧ F_spec_l6Detour_L2 m x1 fu2 y2 = c67) (fun (fu2, y2) => fu2) ((m.length - 0) + 1, 0) ⟨(by first | omega | (simp [-List.getD_eq_getElem?_getD] <;> omega)), (by omega), hc68⟩ ⟨rfl, rfl, rfl, rfl, trivial⟩ (fun w hw => hw) ?_
    rintro ⟨fu2, y2⟩ hJ2
    obtain ⟨hi2_0, hmu2, hL2⟩ : (y2 ≤ m.length) ∧ m.length - y2 < fu2 ∧ F_spec_l6Detour_L2 m x1 fu2 y2 = c67 := hJ2
    change TC _ _ _ _ (Hp w [.blk g0_0 29 [vm]]) [(1, (.pointer (some ⟨g0_0, 0, none⟩))), (3, (.int .i64 (m.length : Int))), (4, (.int .i64 (x1 : Int))), (5, (.int .i64 (y2 : Int)))]
    obtain ⟨mf2, rfl⟩ : ∃ m, fu2 = m + 1 := ⟨fu2 - 1, by omega⟩
    rw [F_spec_l6Detour_L2_s] at hL2
    have hrw2 := hp0.rows y2
    refine TC.seq ?_
    refine TC.seq ?_
    refine TC.region ?_
    refine TL.op (yq (y_move (ev_t rfl))) rfl rfl rfl ?_
    refine TL.op (yq (y_move (ev_t rfl))) rfl rfl rfl ?_
    refine TL.op (yq (y_lss (ev_t rfl) (ev_t rfl))) rfl rfl rfl ?_
    refine TL.nil ?_
    refine TN.seq ?_
    refine TC.cond (b := decide ((y2 : Int) < (m.length : Int))) (ev_t rfl) (fun h69 => ?_) (fun h69 => ?_)
    · rw [bif_pos h69] at hL2
      have q70 := (of_decide_eq_true h69)
      refine TC.skip ?_
      refine TN.seq ?_
      refine TC.seq ?_
      refine TC.block ?_
      refine TC.seq ?_
      refine TC.region ?_
      refine TL.op (yq (y_assign ev_c)) rfl rfl rfl ?_
      refine TL.nil ?_
      refine TN.seq ?_
      refine TC.block ?_
      obtain ⟨c71, hc72⟩ : ∃ c, F_spec_l6Detour_L3 m x1 y2 ((m.length - 0) + 1) 0 = c := ⟨_, rfl⟩
      rw [hc72] at hL2
      refine TC.loop (ι := Nat × Nat) (fun (fu3, z3) => [(1, (.pointer (some ⟨g0_0, 0, none⟩))), (3, (.int .i64 (m.length : Int))), (4, (.int .i64 (x1 : Int))), (5, (.int .i64 (y2 : Int))), (6, (.int .i64 (z3 : Int)))]) (fun (fu3, z3) => Hp w [.blk g0_0 29 [vm]]) (fun (fu3, z3) => (z3 ≤ m.length) ∧ m.length - z3 < fu3 ∧ F_spec_l6Detour_L3 m x1 y2 fu3 z3 = c71) (fun (fu3, z3) => fu3) ((m.length - 0) + 1, 0) ⟨(by first | omega | (simp [-List.getD_eq_getElem?_getD] <;> omega)), (by omega), hc72⟩ ⟨rfl, rfl, rfl, rfl, rfl, trivial⟩ (fun w hw => hw) ?_
      rintro ⟨fu3, z3⟩ hJ3
      obtain ⟨hi3_0, hmu3, hL3⟩ : (z3 ≤ m.length) ∧ m.length - z3 < fu3 ∧ F_spec_l6Detour_L3 m x1 y2 fu3 z3 = c71 := hJ3
      change TC _ _ _ _ (Hp w [.blk g0_0 29 [vm]]) [(1, (.pointer (some ⟨g0_0, 0, none⟩))), (3, (.int .i64 (m.length : Int))), (4, (.int .i64 (x1 : Int))), (5, (.int .i64 (y2 : Int))), (6, (.int .i64 (z3 : Int)))]
      obtain ⟨mf3, rfl⟩ : ∃ m, fu3 = m + 1 := ⟨fu3 - 1, by omega⟩
      rw [F_spec_l6Detour_L3_s] at hL3
      have he1 := hp0.el x1 y2
      have he2 := hp0.el y2 z3
      refine TC.seq ?_
      refine TC.seq ?_
      refine TC.region ?_
      refine TL.op (yq (y_move (ev_t rfl))) rfl rfl rfl ?_
      refine TL.op (yq (y_move (ev_t rfl))) rfl rfl rfl ?_
      refine TL.op (yq (y_lss (ev_t rfl) (ev_t rfl))) rfl rfl rfl ?_
      refine TL.nil ?_
      refine TN.seq ?_
      refine TC.cond (b := decide ((z3 : Int) < (m.length : Int))) (ev_t rfl) (fun h73 => ?_) (fun h73 => ?_)
      · rw [bif_pos h73] at hL3
        have q74 := (of_decide_eq_true h73)
        refine TC.skip ?_
        refine TN.seq ?_
        refine TC.seq ?_
        refine TC.block ?_
        refine TC.seq ?_
        refine TC.regionQ (by kernel_rfl) (by kernel_rfl) dr_hp ?_
        refine TQ.op (yq (y_fa (fa_29_0 g0_0) (ev_t rfl))) rfl rfl rfl ?_
        refine TQ.op (yq (y_ldb 0 (ev_t rfl) one_22 rfl rfl)) rfl rfl rfl ?_
        refine TQ.op (yq (y_move (ev_t rfl))) rfl rfl rfl ?_
        have hb75 : x1 < m.length := (by first | omega | (simp only [List.length_set, List.length_append, List.length_cons, List.length_nil, List.length_replicate]; omega) | (rw [sortI_length]; simp only [List.length_cons, List.length_nil]; omega))
        refine TQ.op (yq (y_idx (k := x1) (ev_t rfl) (ev_t rfl) (by first | omega | simp) slT_22 (fun w hw => ((rii_arg hm) w hw).1) hb75)) rfl rfl rfl ?_
        have ha76 := hm.row (i := x1) hb75
        refine TQ.op (yq (y_ldA (ev_t rfl) one_25 (rii_arg hm) hb75)) rfl rfl rfl ?_
        refine TQ.op (yq (y_move (ev_t rfl))) rfl rfl rfl ?_
        have hb77 : z3 < (m.getD x1 []).length := (by first | omega | (simp only [List.length_set, List.length_append, List.length_cons, List.length_nil, List.length_replicate]; omega) | (rw [sortI_length]; simp only [List.length_cons, List.length_nil]; omega))
        refine TQ.op (yq (y_idx (k := z3) (ev_t rfl) (ev_t rfl) (by first | omega | simp) slT_25 (ri_arg ha76) hb77)) rfl rfl rfl ?_
        refine TQ.op (yq (y_ldi (ev_t rfl) one_3 (ri_arg ha76) hb77)) rfl rfl rfl ?_
        refine TQ.op (yq (y_fa (fa_29_0 g0_0) (ev_t rfl))) rfl rfl rfl ?_
        refine TQ.op (yq (y_ldb 0 (ev_t rfl) one_22 rfl rfl)) rfl rfl rfl ?_
        refine TQ.op (yq (y_move (ev_t rfl))) rfl rfl rfl ?_
        have hb78 : x1 < m.length := (by first | omega | (simp only [List.length_set, List.length_append, List.length_cons, List.length_nil, List.length_replicate]; omega) | (rw [sortI_length]; simp only [List.length_cons, List.length_nil]; omega))
        refine TQ.op (yq (y_idx (k := x1) (ev_t rfl) (ev_t rfl) (by first | omega | simp) slT_22 (fun w hw => ((rii_arg hm) w hw).1) hb78)) rfl rfl rfl ?_
        have ha79 := hm.row (i := x1) hb78
        refine TQ.op (yq (y_ldA (ev_t rfl) one_25 (rii_arg hm) hb78)) rfl rfl rfl ?_
        refine TQ.op (yq (y_move (ev_t rfl))) rfl rfl rfl ?_
        have hb80 : y2 < (m.getD x1 []).length := (by first | omega | (simp only [List.length_set, List.length_append, List.length_cons, List.length_nil, List.length_replicate]; omega) | (rw [sortI_length]; simp only [List.length_cons, List.length_nil]; omega))
        refine TQ.op (yq (y_idx (k := y2) (ev_t rfl) (ev_t rfl) (by first | omega | simp) slT_25 (ri_arg ha79) hb80)) rfl rfl rfl ?_
        refine TQ.op (yq (y_ldi (ev_t rfl) one_3 (ri_arg ha79) hb80)) rfl rfl rfl ?_
        refine TQ.op (yq (y_fa (fa_29_0 g0_0) (ev_t rfl))) rfl rfl rfl ?_
        refine TQ.op (yq (y_ldb 0 (ev_t rfl) one_22 rfl rfl)) rfl rfl rfl ?_
        refine TQ.op (yq (y_move (ev_t rfl))) rfl rfl rfl ?_
        have hb81 : y2 < m.length := (by first | omega | (simp only [List.length_set, List.length_append, List.length_cons, List.length_nil, List.length_replicate]; omega) | (rw [sortI_length]; simp only [List.length_cons, List.length_nil]; omega))
        refine TQ.op (yq (y_idx (k := y2) (ev_t rfl) (ev_t rfl) (by first | omega | simp) slT_22 (fun w hw => ((rii_arg hm) w hw).1) hb81)) rfl rfl rfl ?_
        have ha82 := hm.row (i := y2) hb81
        refine TQ.op (yq (y_ldA (ev_t rfl) one_25 (rii_arg hm) hb81)) rfl rfl rfl ?_
        refine TQ.op (yq (y_move (ev_t rfl))) rfl rfl rfl ?_
        have hb83 : z3 < (m.getD y2 []).length := (by first | omega | (simp only [List.length_set, List.length_append, List.length_cons, List.length_nil, List.length_replicate]; omega) | (rw [sortI_length]; simp only [List.length_cons, List.length_nil]; omega))
        refine TQ.op (yq (y_idx (k := z3) (ev_t rfl) (ev_t rfl) (by first | omega | simp) slT_25 (ri_arg ha82) hb83)) rfl rfl rfl ?_
        refine TQ.op (yq (y_ldi (ev_t rfl) one_3 (ri_arg ha82) hb83)) rfl rfl rfl ?_
        refine TQ.op (yq (y_add (ev_t rfl) (ev_t rfl) (by unfold In64; omega))) rfl rfl rfl ?_
        refine TQ.op (yq (y_gtr (ev_t rfl) (ev_t rfl))) rfl rfl rfl ?_
        refine TQ.nil ?_
        refine TN.seq ?_
        refine TC.cond (b := decide (((m.getD x1 []).getD y2 0) + ((m.getD y2 []).getD z3 0) < ((m.getD x1 []).getD z3 0))) (ev_t rfl) (fun h84 => ?_) (fun h84 => ?_)
        · rw [bif_pos h84] at hL3
          have q85 := (of_decide_eq_true h84)
          refine TC.seq ?_
          refine TC.region ?_
          refine TL.op (yq (y_move (ev_t rfl))) rfl rfl rfl ?_
          refine TL.op (yq (y_move (ev_t rfl))) rfl rfl rfl ?_
          refine TL.op (yq (y_move (ev_t rfl))) rfl rfl rfl ?_
          refine TL.buildI (zs := [.tmp 51, .tmp 52, .tmp 53]) (qs := [(x1 : Int), (y2 : Int), (z3 : Int)]) slT_25 rfl ⟨(ev_t rfl), (ev_t rfl), (ev_t rfl), trivial⟩ rfl (by decide) rfl (fun v12_3 => ?_)
          refine TL.op (yq (y_assign (ev_t rfl))) rfl rfl rfl ?_
          refine TL.nil ?_
          refine TN.seq ?_
          refine TC.ret ?_
          refine TN.blockR ?_
          refine TN.thenR ?_
          refine TN.thenR ?_
          rw [← hL3, elim_ret] at hL2
          refine TN.blockR ?_
          refine TN.blockR ?_
          refine TN.thenR ?_
          refine TN.thenR ?_
          rw [← hL2, elim_ret] at hL1
          refine TN.blockR ?_
          refine TN.blockR ?_
          refine TN.thenR ?_
          refine TN.thenR ?_
          rw [← hL1, elim_ret] at hF
          refine TN.blockR ?_
          refine TN.thenR ?_
          subst hF
          exact TN.ret1 rfl (ev_t rfl) (fun w' hw => ⟨v12_3, rfl, Hp.sublist hw (.cons_cons _ (.cons _ .slnil))⟩)
        · rw [bif_neg h84] at hL3
          have q85 := (of_decide_eq_false h84)
          refine TC.skip ?_
          refine TN.blockN ?_
          refine TN.seq ?_
          refine TC.region ?_
          refine TL.op (yq (y_move (ev_t rfl))) rfl rfl rfl ?_
          refine TL.op (yq (y_add (ev_t rfl) ev_c (by unfold In64; omega))) rfl rfl rfl ?_
          refine TL.op (yq (y_assign (ev_t rfl))) rfl rfl rfl ?_
          refine TL.nil ?_
          exact TN.hand (mf3, (z3 + 1)) ⟨(by first | omega | (simp [-List.getD_eq_getElem?_getD] <;> omega)), (by omega), hL3⟩ (Nat.lt_succ_self _) ⟨rfl, rfl, rfl, rfl, rfl, trivial⟩ (fun w hw => hw)
      · rw [bif_neg h73] at hL3
        have q74 := (of_decide_eq_false h73)
        refine TC.exit ?_
        refine TN.thenE ?_
        refine TN.thenE ?_
        rw [← hL3, elim_next] at hL2
        try dsimp only at hL2
        refine TN.blockH ?_
        refine TN.blockN ?_
        refine TN.seq ?_
        refine TC.region ?_
        refine TL.op (yq (y_move (ev_t rfl))) rfl rfl rfl ?_
        refine TL.op (yq (y_add (ev_t rfl) ev_c (by unfold In64; omega))) rfl rfl rfl ?_
        refine TL.op (yq (y_assign (ev_t rfl))) rfl rfl rfl ?_
        refine TL.nil ?_
        exact TN.hand (mf2, (y2 + 1)) ⟨(by first | omega | (simp [-List.getD_eq_getElem?_getD] <;> omega)), (by omega), hL2⟩ (Nat.lt_succ_self _) ⟨rfl, rfl, rfl, rfl, trivial⟩ (fun w hw => hw)
    · rw [bif_neg h69] at hL2
      have q70 := (of_decide_eq_false h69)
      refine TC.exit ?_
      refine TN.thenE ?_
      refine TN.thenE ?_
      rw [← hL2, elim_next] at hL1
      try dsimp only at hL1
      refine TN.blockH ?_
      refine TN.blockN ?_
      refine TN.seq ?_
      refine TC.region ?_
      refine TL.op (yq (y_move (ev_t rfl))) rfl rfl rfl ?_
      refine TL.op (yq (y_add (ev_t rfl) ev_c (by unfold In64; omega))) rfl rfl rfl ?_
      refine TL.op (yq (y_assign (ev_t rfl))) rfl rfl rfl ?_
      refine TL.nil ?_
      exact TN.hand (mf1, (x1 + 1)) ⟨(by first | omega | (simp [-List.getD_eq_getElem?_getD] <;> omega)), (by omega), hL1⟩ (Nat.lt_succ_self _) ⟨rfl, rfl, rfl, trivial⟩ (fun w hw => hw)
  · rw [bif_neg h65] at hL1
    have q66 := (of_decide_eq_false h65)
    refine TC.exit ?_
    refine TN.thenE ?_
    refine TN.thenE ?_
    rw [← hL1, elim_next] at hF
    try dsimp only at hF
    refine TN.blockH ?_
    refine TN.seq ?_
    refine TC.seq ?_
    refine TC.region ?_
    refine TL.buildI (zs := []) (qs := []) slT_25 rfl trivial rfl (by decide) rfl (fun v13_0 => ?_)
    refine TL.op (yq (y_assign (ev_t rfl))) rfl rfl rfl ?_
    refine TL.nil ?_
    refine TN.seq ?_
    refine TC.ret ?_
    subst hF
    exact TN.ret1 rfl (ev_t rfl) (fun w' hw => ⟨v13_0, rfl, Hp.sublist hw (.cons_cons _ (.cons _ .slnil))⟩)

set_option maxRecDepth 4000 in
set_option maxHeartbeats 1000000 in
theorem spec_l6Good_ok (w : World) (vm : Value) (um : List Value) (m : List (List Int)) (hm : RII w vm um m)  :
    Calls Try.prog 64 ([(.agg #[vm])] : List Value).toArray w (Ret (.bool (F_spec_l6Good m)) (Hp w [])) := by
  obtain ⟨rz, hF⟩ : ∃ rz, (F_spec_l6Good m) = rz := ⟨_, rfl⟩
  rw [hF]
  unfold F_spec_l6Good at hF
  have hlen_m := argT_len hm
  refine calls_tc Try.func64 rfl rfl rfl ?_
  change TC _ _ _ _ (Hp w []) [(0, (.agg #[vm]))]
  refine TC.seq ?_
  refine TC.region ?_
  refine TL.box (ev_t rfl) rfl (fun g0_0 => ?_)
  refine TL.op (yq (y_assign ev_c)) rfl rfl rfl ?_
  refine TL.nil ?_
  refine TN.seq ?_
  refine TC.seq ?_
  refine TC.region ?_
  refine TL.op (yq (y_ldagg (cs := [vm]) 0 (ev_t rfl) agg_29 rfl)) rfl rfl rfl ?_
  refine TL.op (y_call (vs := [(.agg #[vm]), (.bool false)]) (v := (.bool (F_spec_l6Table m false))) en_103 ⟨(ev_t rfl), ev_c, trivial⟩ (fun w hw => spec_l6Table_ok w vm um m ((rii_arg hm) w hw) false)) rfl rfl rfl ?_
  refine TL.op (yq (y_move (ev_t rfl))) rfl rfl rfl ?_
  refine TL.split 5 (b := (F_spec_l6Table m false)) rfl (fun h3 => ?_) (fun h3 => ?_)
  · rw [bif_pos h3] at hF
    have q4 := (l6Table_t h3)
    refine TL.opw (w_t rfl rfl rfl) (fun _ => yq (y_ldagg (cs := [vm]) 0 (ev_t rfl) agg_29 rfl)) rfl rfl ?_
    refine TL.ung (w_t rfl rfl rfl) ?_
    refine TL.callr (ι := Value) (vs := [(.agg #[vm])]) (fun i => i) (fun i => [rowI 3 i (F_spec_l6Detour m)]) en_104 ⟨(ev_t rfl), trivial⟩ rfl (fun w hw => spec_l6Detour_ok w vm um m ((rii_arg hm) w hw) (by first | assumption | omega | grind)) (fun r1_4 => ?_)
    refine TL.opw (w_t rfl rfl rfl) (fun _ => yq (y_len (ev_t rfl) Try.underlying25 (fun w hw => ((ri_row 0 rfl) w hw).ln))) rfl rfl ?_
    refine TL.opw (w_t rfl rfl rfl) (fun _ => yq (y_eql (ev_t rfl) ev_c)) rfl rfl ?_
    refine TL.op (yq (y_pickT (ev_t rfl) (ev_t rfl))) rfl rfl rfl ?_
    refine TL.op (yq (y_assign (ev_t rfl))) rfl rfl rfl ?_
    refine TL.nil ?_
    refine TN.seq ?_
    refine TC.ret ?_
    subst hF
    exact TN.ret1 rfl (ev_t rfl) (fun w' hw => ⟨rfl, Hp.sublist hw (List.nil_sublist _)⟩)
  · rw [bif_neg h3] at hF
    have q4 := h3
    refine TL.opw (v := undef) (w_t rfl rfl rfl) (fun hg => by cases hg) rfl rfl ?_
    refine TL.opw (v := undef) (w_t rfl rfl rfl) (fun hg => by cases hg) rfl rfl ?_
    refine TL.opw (v := undef) (w_t rfl rfl rfl) (fun hg => by cases hg) rfl rfl ?_
    refine TL.opw (v := undef) (w_t rfl rfl rfl) (fun hg => by cases hg) rfl rfl ?_
    refine TL.op (yq (y_pickF (ev_t rfl) ev_c)) rfl rfl rfl ?_
    refine TL.op (yq (y_assign (ev_t rfl))) rfl rfl rfl ?_
    refine TL.nil ?_
    refine TN.seq ?_
    refine TC.ret ?_
    subst hF
    exact TN.ret1 rfl (ev_t rfl) (fun w' hw => ⟨rfl, Hp.sublist hw (List.nil_sublist _)⟩)

set_option maxRecDepth 4000 in
set_option maxHeartbeats 1000000 in
theorem slices_Clone_Sint_int_ok (w : World) (vs : Value) (s : List Int) (hs : RI w vs s) (hp0 : s.length ≤ 1000000000) :
    Calls Try.prog 62 ([vs] : List Value).toArray w (fun e w' => ∃ i : Value, e = .returned i ∧ Hp w [rowI 3 i (F_slices_Clone_Sint_int s)] w') := by
  obtain ⟨rz, hF⟩ : ∃ rz, (F_slices_Clone_Sint_int s) = rz := ⟨_, rfl⟩
  rw [hF]
  unfold F_slices_Clone_Sint_int at hF
  have hlen_s := arg_len hs
  refine calls_tc Try.func62 rfl rfl rfl ?_
  change TC _ _ _ _ (Hp w []) [(0, vs)]
  refine TC.seq ?_
  refine TC.region ?_
  refine TL.op (yq (y_assign ev_c)) rfl rfl rfl ?_
  refine TL.nil ?_
  refine TN.seq ?_
  refine TC.seq ?_
  refine TC.seq ?_
  refine TC.region ?_
  refine TL.op (yq (y_move (ev_t rfl))) rfl rfl rfl ?_
  refine TL.op (yq (y_isnil (ev_t rfl) ev_c Try.underlying25 (fun w hw => ((ri_arg hs) w hw).ln))) rfl rfl rfl ?_
  refine TL.nil ?_
  refine TN.seq ?_
  refine TC.cond (b := isNilV vs) (ev_t rfl) (fun h3 => ?_) (fun h3 => ?_)
  · have q4 := ri_isnil hs h3
    subst q4
    refine TC.seq ?_
    refine TC.region ?_
    refine TL.op (yq (y_assign ev_c)) rfl rfl rfl ?_
    refine TL.nil ?_
    refine TN.seq ?_
    refine TC.ret ?_
    refine TN.thenR ?_
    subst hF
    refine TN.cls (fun w hw => hw.nil 3 1) ?_
    exact TN.ret1 rfl (ev_t rfl) (fun w' hw => ⟨(.slice none 0 0), rfl, hw⟩)
  · refine TC.skip ?_
    refine TN.seq ?_
    refine TC.seq ?_
    refine TC.region ?_
    refine TL.buildI (zs := []) (qs := []) slT_25 rfl trivial rfl (by decide) rfl (fun v3_0 => ?_)
    refine TL.op (yq (y_move (ev_t rfl))) rfl rfl rfl ?_
    refine TL.appendI 0 (ev_t rfl) (ev_t rfl) rfl slT_25 (ri_arg hs) (by first | omega | (simp [-List.getD_eq_getElem?_getD] <;> omega)) rfl (fun v3_2 => ?_)
    refine TL.op (yq (y_assign (ev_t rfl))) rfl rfl rfl ?_
    refine TL.nil ?_
    refine TN.seq ?_
    refine TC.ret ?_
    subst hF
    exact TN.ret1 rfl (ev_t rfl) (fun w' hw => ⟨v3_2, rfl, hw⟩)

set_option maxRecDepth 4000 in
set_option maxHeartbeats 1000000 in
theorem impl_areBelow_1_ok (w : World) (a : Int) (gn : Nat) (n : Int) (hn : CellAt w gn (.int .i64 n)) (hp0 : -1000000 ≤ n) (hp1 : n ≤ 9223372036854775807) :
    Calls Try.prog 126 ([(.int .i64 a), (.pointer (some ⟨gn, 0, none⟩))] : List Value).toArray w (Ret (.bool (F_impl_areBelow_1 a n)) (Hp w [])) := by
  obtain ⟨rz, hF⟩ : ∃ rz, (F_impl_areBelow_1 a n) = rz := ⟨_, rfl⟩
  rw [hF]
  unfold F_impl_areBelow_1 at hF
  refine calls_tc Try.func126 rfl rfl rfl ?_
  change TC _ _ _ _ (Hp w []) [(0, (.int .i64 a)), (1, (.pointer (some ⟨gn, 0, none⟩)))]
  refine TC.seq ?_
  refine TC.region ?_
  refine TL.op (yq (y_assign ev_c)) rfl rfl rfl ?_
  refine TL.nil ?_
  refine TN.seq ?_
  refine TC.seq ?_
  refine TC.region ?_
  refine TL.op (yq (y_move (ev_t rfl))) rfl rfl rfl ?_
  refine TL.op (yq (y_ldc (ev_t rfl) one_3 hn)) rfl rfl rfl ?_
  refine TL.op (yq (y_sub (ev_t rfl) ev_c (by unfold In64; omega))) rfl rfl rfl ?_
  refine TL.op (y_call (vs := [(.int .i64 a), (.int .i64 0), (.int .i64 (n - 1))]) (v := (.bool ((decide (0 ≤ a)) && (decide (a ≤ (n - 1)))))) en_78 ⟨(ev_t rfl), ev_c, (ev_t rfl), trivial⟩ (fun w hw => impl_within_ok w a 0 (n - 1))) rfl rfl rfl ?_
  refine TL.op (yq (y_not (ev_t rfl))) rfl rfl rfl ?_
  refine TL.op (yq (y_assign (ev_t rfl))) rfl rfl rfl ?_
  refine TL.nil ?_
  refine TN.seq ?_
  refine TC.ret ?_
  subst hF
  exact TN.ret1 rfl (ev_t rfl) (fun w' hw => ⟨rfl, hw⟩)

set_option maxRecDepth 4000 in
set_option maxHeartbeats 1000000 in
theorem impl_areBelow_ok (w : World) (n : Int) (vl : Value) (l : List Int) (hl : RI w vl l) (hp0 : -1000000 ≤ n) (hp1 : n ≤ 9223372036854775807) :
    Calls Try.prog 101 ([(.int .i64 n), vl] : List Value).toArray w (Ret (.bool (F_impl_areBelow n l)) (Hp w [])) := by
  obtain ⟨rz, hF⟩ : ∃ rz, (F_impl_areBelow n l) = rz := ⟨_, rfl⟩
  rw [hF]
  unfold F_impl_areBelow at hF
  have hlen_l := arg_len hl
  refine calls_tc Try.func101 rfl rfl rfl ?_
  change TC _ _ _ _ (Hp w []) [(0, (.int .i64 n)), (1, vl)]
  refine TC.seq ?_
  refine TC.region ?_
  refine TL.box (ev_t rfl) rfl (fun g0_0 => ?_)
  refine TL.op (yq (y_assign ev_c)) rfl rfl rfl ?_
  refine TL.nil ?_
  refine TN.seq ?_
  refine TC.seq ?_
  refine TC.region ?_
  refine TL.op (yq (y_move (ev_t rfl))) rfl rfl rfl ?_
  refine TL.op (yq (y_mkf (us := [(.pointer (some ⟨g0_0, 0, none⟩))]) ⟨(ev_t rfl), trivial⟩)) rfl rfl rfl ?_
  refine TL.op (y_call (vs := [vl, (.func (.func 126) #[] ([(.pointer (some ⟨g0_0, 0, none⟩))] : List Value).toArray)]) (v := (.bool (F_slices_ContainsFunc_Sint_int l (fun a => F_impl_areBelow_1 a n)))) en_125 ⟨(ev_t rfl), (ev_t rfl), trivial⟩ (fun w hw => slices_ContainsFunc_Sint_int_ok w vl l ((ri_arg hl) w hw) 126 [(.pointer (some ⟨g0_0, 0, none⟩))] (fun a => F_impl_areBelow_1 a n) en_126 (fun w2 hb a => impl_areBelow_1_ok w2 a g0_0 n (cell_blk 0 rfl rfl hw hb) (by first | assumption | omega | grind) (by first | assumption | omega | grind)))) rfl rfl rfl ?_
  refine TL.op (yq (y_not (ev_t rfl))) rfl rfl rfl ?_
  refine TL.op (yq (y_assign (ev_t rfl))) rfl rfl rfl ?_
  refine TL.nil ?_
  refine TN.seq ?_
  refine TC.ret ?_
  subst hF
  exact TN.ret1 rfl (ev_t rfl) (fun w' hw => ⟨rfl, Hp.sublist hw (List.nil_sublist _)⟩)

set_option maxRecDepth 4000 in
set_option maxHeartbeats 1000000 in
theorem impl_Metric_isConfig_ok (w : World) (vm : Value) (um : List Value) (m : List (List Int)) (hm : RII w vm um m) (va : Value) (a : List Int) (ha : RI w va a)  :
    Calls Try.prog 70 ([(.agg #[vm]), va] : List Value).toArray w (Ret (.bool (F_impl_Metric_isConfig m a)) (Hp w [])) := by
  obtain ⟨rz, hF⟩ : ∃ rz, (F_impl_Metric_isConfig m a) = rz := ⟨_, rfl⟩
  rw [hF]
  unfold F_impl_Metric_isConfig at hF
  have hlen_m := argT_len hm
  have hlen_a := arg_len ha
  refine calls_tc Try.func70 rfl rfl rfl ?_
  change TC _ _ _ _ (Hp w []) [(0, (.agg #[vm])), (1, va)]
  refine TC.seq ?_
  refine TC.region ?_
  refine TL.box (ev_t rfl) rfl (fun g0_0 => ?_)
  refine TL.op (yq (y_assign ev_c)) rfl rfl rfl ?_
  refine TL.nil ?_
  refine TN.seq ?_
  refine TC.seq ?_
  refine TC.region ?_
  refine TL.op (yq (y_move (ev_t rfl))) rfl rfl rfl ?_
  refine TL.op (yq (y_len (ev_t rfl) Try.underlying25 (fun w hw => ((ri_arg ha) w hw).ln))) rfl rfl rfl ?_
  refine TL.op (y_call (vs := [(.int .i64 (a.length : Int)), (.int .i64 1), (.int .i64 3)]) (v := (.bool ((decide (1 ≤ (a.length : Int))) && (decide ((a.length : Int) ≤ 3))))) en_78 ⟨(ev_t rfl), ev_c, ev_c, trivial⟩ (fun w hw => impl_within_ok w (a.length : Int) 1 3)) rfl rfl rfl ?_
  refine TL.op (yq (y_move (ev_t rfl))) rfl rfl rfl ?_
  refine TL.opw (w_t rfl rfl rfl) (fun hg => yq (y_fa (fa_29_0 g0_0) (ev_t rfl))) rfl rfl ?_
  refine TL.opw (w_t rfl rfl rfl) (fun hg => yq (y_ldb 0 (ev_g rfl hg) one_22 rfl rfl)) rfl rfl ?_
  refine TL.opw (w_t rfl rfl rfl) (fun hg => yq (y_len (ev_g rfl hg) Try.underlying22 (fun w hw => ((fun w hw => ((rii_arg hm) w hw).1) w hw).ln))) rfl rfl ?_
  refine TL.opw (w_t rfl rfl rfl) (fun hg => yq (y_move (ev_t rfl))) rfl rfl ?_
  refine TL.opw (w_t rfl rfl rfl) (fun hg => y_call (vs := [(.int .i64 (m.length : Int)), va]) (v := (.bool (F_impl_areBelow (m.length : Int) a))) en_101 ⟨(ev_g rfl hg), (ev_g rfl hg), trivial⟩ (fun w hw => impl_areBelow_ok w (m.length : Int) va a ((ri_arg ha) w hw) (by have hgf := (and_imp (and_t hg) (fun h => (of_decide_eq_true h)) (fun h => (of_decide_eq_true h))); first | assumption | omega | (have hq := hgf.n6; omega) | (have hq := hgf.1.n6; omega) | grind) (by have hgf := (and_imp (and_t hg) (fun h => (of_decide_eq_true h)) (fun h => (of_decide_eq_true h))); first | assumption | omega | (have hq := hgf.n6; omega) | (have hq := hgf.1.n6; omega) | grind))) rfl rfl ?_
  refine TL.op (yq (y_and (ev_t rfl) (fun hq => (ev_g rfl hq)))) rfl rfl rfl ?_
  refine TL.op (yq (y_move (ev_t rfl))) rfl rfl rfl ?_
  refine TL.opw (w_t rfl rfl rfl) (fun hg => yq (y_move (ev_t rfl))) rfl rfl ?_
  refine TL.opw (w_t rfl rfl rfl) (fun hg => y_call (vs := [va]) (v := (.bool (F_slices_IsSorted_Sint_int a))) en_111 ⟨(ev_g rfl hg), trivial⟩ (fun w hw => slices_IsSorted_Sint_int_ok w va a ((ri_arg ha) w hw))) rfl rfl ?_
  refine TL.op (yq (y_and (ev_t rfl) (fun hq => (ev_g rfl hq)))) rfl rfl rfl ?_
  refine TL.op (yq (y_assign (ev_t rfl))) rfl rfl rfl ?_
  refine TL.nil ?_
  refine TN.seq ?_
  refine TC.ret ?_
  subst hF
  exact TN.ret1 rfl (ev_t rfl) (fun w' hw => ⟨rfl, Hp.sublist hw (List.nil_sublist _)⟩)

set_option maxRecDepth 4000 in
set_option maxHeartbeats 1000000 in
theorem spec_l6List_ok (w : World) (n : Int) (vlist : Value) (list : List Int) (hlist : RI w vlist list) (hp0 : -1000000 ≤ n) (hp1 : n ≤ 9223372036854775807) :
    Calls Try.prog 105 ([(.int .i64 n), vlist] : List Value).toArray w (Ret (.bool (F_spec_l6List n list)) (Hp w [])) := by
  obtain ⟨rz, hF⟩ : ∃ rz, (F_spec_l6List n list) = rz := ⟨_, rfl⟩
  rw [hF]
  unfold F_spec_l6List at hF
  have hlen_list := arg_len hlist
  refine calls_tc Try.func105 rfl rfl rfl ?_
  change TC _ _ _ _ (Hp w []) [(0, (.int .i64 n)), (1, vlist)]
  refine TC.seq ?_
  refine TC.region ?_
  refine TL.op (yq (y_assign ev_c)) rfl rfl rfl ?_
  refine TL.nil ?_
  refine TN.seq ?_
  refine TC.seq ?_
  refine TC.seq ?_
  refine TC.region ?_
  refine TL.op (yq (y_assign ev_c)) rfl rfl rfl ?_
  refine TL.nil ?_
  refine TN.seq ?_
  refine TC.block ?_
  obtain ⟨c11, hc12⟩ : ∃ c, F_spec_l6List_L1 n list ((list.length - 0) + 1) 0 = c := ⟨_, rfl⟩
  rw [hc12] at hF
  refine TC.loop (ι := Nat × Nat) (fun (fu1, i1) => [(0, (.int .i64 n)), (1, vlist), (5, (.int .i64 (i1 : Int)))]) (fun (fu1, i1) => Hp w []) (fun (fu1, i1) => (i1 ≤ list.length) ∧ list.length - i1 < fu1 ∧ F_spec_l6List_L1 n list fu1 i1 = c11) (fun (fu1, i1) => fu1) ((list.length - 0) + 1, 0) ⟨(by first | omega | (simp [-List.getD_eq_getElem?_getD] <;> omega)), (by omega), hc12⟩ ⟨rfl, rfl, rfl, trivial⟩ (fun w hw => hw) ?_
  rintro ⟨fu1, i1⟩ hJ1
  obtain ⟨hi1_0, hmu1, hL1⟩ : (i1 ≤ list.length) ∧ list.length - i1 < fu1 ∧ F_spec_l6List_L1 n list fu1 i1 = c11 := hJ1
  change TC _ _ _ _ (Hp w []) [(0, (.int .i64 n)), (1, vlist), (5, (.int .i64 (i1 : Int)))]
  obtain ⟨mf1, rfl⟩ : ∃ m, fu1 = m + 1 := ⟨fu1 - 1, by omega⟩
  rw [F_spec_l6List_L1_s] at hL1
  refine TC.seq ?_
  refine TC.seq ?_
  refine TC.region ?_
  refine TL.op (yq (y_move (ev_t rfl))) rfl rfl rfl ?_
  refine TL.op (yq (y_move (ev_t rfl))) rfl rfl rfl ?_
  refine TL.op (yq (y_len (ev_t rfl) Try.underlying25 (fun w hw => ((ri_arg hlist) w hw).ln))) rfl rfl rfl ?_
  refine TL.op (yq (y_lss (ev_t rfl) (ev_t rfl))) rfl rfl rfl ?_
  refine TL.nil ?_
  refine TN.seq ?_
  refine TC.cond (b := decide ((i1 : Int) < (list.length : Int))) (ev_t rfl) (fun h13 => ?_) (fun h13 => ?_)
  · rw [bif_pos h13] at hL1
    have q14 := (of_decide_eq_true h13)
    refine TC.skip ?_
    refine TN.seq ?_
    refine TC.seq ?_
    refine TC.block ?_
    refine TC.seq ?_
    refine TC.region ?_
    refine TL.op (yq (y_move (ev_t rfl))) rfl rfl rfl ?_
    refine TL.op (yq (y_move (ev_t rfl))) rfl rfl rfl ?_
    have hb15 : i1 < list.length := (by first | omega | (simp only [List.length_set, List.length_append, List.length_cons, List.length_nil, List.length_replicate]; omega) | (rw [sortI_length]; simp only [List.length_cons, List.length_nil]; omega))
    refine TL.op (yq (y_idx (k := i1) (ev_t rfl) (ev_t rfl) (by first | omega | simp) slT_25 (ri_arg hlist) hb15)) rfl rfl rfl ?_
    refine TL.op (yq (y_ldi (ev_t rfl) one_3 (ri_arg hlist) hb15)) rfl rfl rfl ?_
    refine TL.op (yq (y_move (ev_t rfl))) rfl rfl rfl ?_
    refine TL.op (yq (y_sub (ev_t rfl) ev_c (by unfold In64; omega))) rfl rfl rfl ?_
    refine TL.op (y_call (vs := [(.int .i64 (list.getD i1 0)), (.int .i64 0), (.int .i64 (n - 1))]) (v := (.bool ((decide (0 ≤ (list.getD i1 0))) && (decide ((list.getD i1 0) ≤ (n - 1)))))) en_96 ⟨(ev_t rfl), ev_c, (ev_t rfl), trivial⟩ (fun w hw => spec_l1In_ok w (list.getD i1 0) 0 (n - 1))) rfl rfl rfl ?_
    refine TL.op (yq (y_not (ev_t rfl))) rfl rfl rfl ?_
    refine TL.nil ?_
    refine TN.seq ?_
    refine TC.cond (b := !((decide (0 ≤ (list.getD i1 0))) && (decide ((list.getD i1 0) ≤ (n - 1))))) (ev_t rfl) (fun h16 => ?_) (fun h16 => ?_)
    · rw [bif_pos h16] at hL1
      have q17 := ((and_f (not_t h16)).imp (fun h => (of_decide_eq_false h)) (fun h => (of_decide_eq_false h)))
      refine TC.seq ?_
      refine TC.region ?_
      refine TL.op (yq (y_assign ev_c)) rfl rfl rfl ?_
      refine TL.nil ?_
      refine TN.seq ?_
      refine TC.ret ?_
      refine TN.blockR ?_
      refine TN.thenR ?_
      refine TN.thenR ?_
      rw [← hL1, elim_ret] at hF
      refine TN.blockR ?_
      refine TN.thenR ?_
      subst hF
      exact TN.ret1 rfl (ev_t rfl) (fun w' hw => ⟨rfl, hw⟩)
    · rw [bif_neg h16] at hL1
      have q17 := (and_imp (and_t (not_f h16)) (fun h => (of_decide_eq_true h)) (fun h => (of_decide_eq_true h)))
      refine TC.skip ?_
      refine TN.blockN ?_
      refine TN.seq ?_
      refine TC.region ?_
      refine TL.op (yq (y_move (ev_t rfl))) rfl rfl rfl ?_
      refine TL.op (yq (y_add (ev_t rfl) ev_c (by unfold In64; omega))) rfl rfl rfl ?_
      refine TL.op (yq (y_assign (ev_t rfl))) rfl rfl rfl ?_
      refine TL.nil ?_
      exact TN.hand (mf1, (i1 + 1)) ⟨(by first | omega | (simp [-List.getD_eq_getElem?_getD] <;> omega)), (by omega), hL1⟩ (Nat.lt_succ_self _) ⟨rfl, rfl, rfl, trivial⟩ (fun w hw => hw)
  · rw [bif_neg h13] at hL1
    have q14 := (of_decide_eq_false h13)
    refine TC.exit ?_
    refine TN.thenE ?_
    refine TN.thenE ?_
    rw [← hL1, elim_next] at hF
    try dsimp only at hF
    refine TN.blockH ?_
    refine TN.seq ?_
    refine TC.seq ?_
    refine TC.region ?_
    refine TL.op (yq (y_assign ev_c)) rfl rfl rfl ?_
    refine TL.nil ?_
    refine TN.seq ?_
    refine TC.ret ?_
    subst hF
    exact TN.ret1 rfl (ev_t rfl) (fun w' hw => ⟨rfl, hw⟩)

set_option maxRecDepth 4000 in
set_option maxHeartbeats 1000000 in
theorem spec_l6Config_ok (w : World) (n : Int) (va : Value) (a : List Int) (ha : RI w va a) (hp0 : -1000000 ≤ n) (hp1 : n ≤ 9223372036854775807) :
    Calls Try.prog 65 ([(.int .i64 n), va] : List Value).toArray w (Ret (.bool (F_spec_l6Config n a)) (Hp w [])) := by
  obtain ⟨rz, hF⟩ : ∃ rz, (F_spec_l6Config n a) = rz := ⟨_, rfl⟩
  rw [hF]
  unfold F_spec_l6Config at hF
  have hlen_a := arg_len ha
  refine calls_tc Try.func65 rfl rfl rfl ?_
  change TC _ _ _ _ (Hp w []) [(0, (.int .i64 n)), (1, va)]
  refine TC.seq ?_
  refine TC.region ?_
  refine TL.op (yq (y_assign ev_c)) rfl rfl rfl ?_
  refine TL.nil ?_
  refine TN.seq ?_
  refine TC.seq ?_
  refine TC.region ?_
  refine TL.op (yq (y_move (ev_t rfl))) rfl rfl rfl ?_
  refine TL.op (yq (y_len (ev_t rfl) Try.underlying25 (fun w hw => ((ri_arg ha) w hw).ln))) rfl rfl rfl ?_
  refine TL.op (y_call (vs := [(.int .i64 (a.length : Int)), (.int .i64 1), (.int .i64 3)]) (v := (.bool ((decide (1 ≤ (a.length : Int))) && (decide ((a.length : Int) ≤ 3))))) en_96 ⟨(ev_t rfl), ev_c, ev_c, trivial⟩ (fun w hw => spec_l1In_ok w (a.length : Int) 1 3)) rfl rfl rfl ?_
  refine TL.op (yq (y_move (ev_t rfl))) rfl rfl rfl ?_
  refine TL.opw (w_t rfl rfl rfl) (fun hg => yq (y_move (ev_t rfl))) rfl rfl ?_
  refine TL.opw (w_t rfl rfl rfl) (fun hg => yq (y_move (ev_t rfl))) rfl rfl ?_
  refine TL.opw (w_t rfl rfl rfl) (fun hg => y_call (vs := [(.int .i64 n), va]) (v := (.bool (F_spec_l6List n a))) en_105 ⟨(ev_g rfl hg), (ev_g rfl hg), trivial⟩ (fun w hw => spec_l6List_ok w n va a ((ri_arg ha) w hw) (by have hgf := (and_imp (and_t hg) (fun h => (of_decide_eq_true h)) (fun h => (of_decide_eq_true h))); first | assumption | omega | (have hq := hgf.n6; omega) | (have hq := hgf.1.n6; omega) | grind) (by have hgf := (and_imp (and_t hg) (fun h => (of_decide_eq_true h)) (fun h => (of_decide_eq_true h))); first | assumption | omega | (have hq := hgf.n6; omega) | (have hq := hgf.1.n6; omega) | grind))) rfl rfl ?_
  refine TL.op (yq (y_and (ev_t rfl) (fun hq => (ev_g rfl hq)))) rfl rfl rfl ?_
  refine TL.op (yq (y_move (ev_t rfl))) rfl rfl rfl ?_
  refine TL.opw (w_t rfl rfl rfl) (fun hg => yq (y_move (ev_t rfl))) rfl rfl ?_
  refine TL.opw (w_t rfl rfl rfl) (fun hg => y_call (vs := [va]) (v := (.bool (F_spec_l6Ascending a))) en_106 ⟨(ev_g rfl hg), trivial⟩ (fun w hw => spec_l6Ascending_ok w va a ((ri_arg ha) w hw))) rfl rfl ?_
  refine TL.op (yq (y_and (ev_t rfl) (fun hq => (ev_g rfl hq)))) rfl rfl rfl ?_
  refine TL.op (yq (y_assign (ev_t rfl))) rfl rfl rfl ?_
  refine TL.nil ?_
  refine TN.seq ?_
  refine TC.ret ?_
  subst hF
  exact TN.ret1 rfl (ev_t rfl) (fun w' hw => ⟨rfl, hw⟩)

set_option maxRecDepth 4000 in
set_option maxHeartbeats 1000000 in
theorem slices_Index_Sint_int_ok (w : World) (vs : Value) (s : List Int) (hs : RI w vs s) (v : Int)  :
    Calls Try.prog 121 ([vs, (.int .i64 v)] : List Value).toArray w (Ret (.int .i64 (F_slices_Index_Sint_int s v)) (Hp w [])) := by
  obtain ⟨rz, hF⟩ : ∃ rz, (F_slices_Index_Sint_int s v) = rz := ⟨_, rfl⟩
  rw [hF]
  unfold F_slices_Index_Sint_int at hF
  have hlen_s := arg_len hs
  refine calls_tc Try.func121 rfl rfl rfl ?_
  change TC _ _ _ _ (Hp w []) [(0, vs), (1, (.int .i64 v))]
  refine TC.seq ?_
  refine TC.region ?_
  refine TL.op (yq (y_assign ev_c)) rfl rfl rfl ?_
  refine TL.nil ?_
  refine TN.seq ?_
  refine TC.seq ?_
  refine TC.seq ?_
  refine TC.region ?_
  refine TL.op (yq (y_move (ev_t rfl))) rfl rfl rfl ?_
  refine TL.op (yq (y_len (ev_t rfl) Try.underlying25 (fun w hw => ((ri_arg hs) w hw).ln))) rfl rfl rfl ?_
  refine TL.op (yq (y_move ev_c)) rfl rfl rfl ?_
  refine TL.nil ?_
  refine TN.seq ?_
  refine TC.block ?_
  obtain ⟨c11, hc12⟩ : ∃ c, F_slices_Index_Sint_int_L1 s v ((s.length - 0) + 1) 0 = c := ⟨_, rfl⟩
  rw [hc12] at hF
  refine TC.loop (ι := Nat × Nat) (fun (fu1, k8_1) => [(0, vs), (1, (.int .i64 v)), (7, (.int .i64 (s.length : Int))), (8, (.int .i64 (k8_1 : Int)))]) (fun (fu1, k8_1) => Hp w []) (fun (fu1, k8_1) => (k8_1 ≤ s.length) ∧ s.length - k8_1 < fu1 ∧ F_slices_Index_Sint_int_L1 s v fu1 k8_1 = c11) (fun (fu1, k8_1) => fu1) ((s.length - 0) + 1, 0) ⟨(by first | omega | (simp [-List.getD_eq_getElem?_getD] <;> omega)), (by omega), hc12⟩ ⟨rfl, rfl, rfl, rfl, trivial⟩ (fun w hw => hw) ?_
  rintro ⟨fu1, k8_1⟩ hJ1
  obtain ⟨hi1_0, hmu1, hL1⟩ : (k8_1 ≤ s.length) ∧ s.length - k8_1 < fu1 ∧ F_slices_Index_Sint_int_L1 s v fu1 k8_1 = c11 := hJ1
  change TC _ _ _ _ (Hp w []) [(0, vs), (1, (.int .i64 v)), (7, (.int .i64 (s.length : Int))), (8, (.int .i64 (k8_1 : Int)))]
  obtain ⟨mf1, rfl⟩ : ∃ m, fu1 = m + 1 := ⟨fu1 - 1, by omega⟩
  rw [F_slices_Index_Sint_int_L1_s] at hL1
  refine TC.seq ?_
  refine TC.region ?_
  refine TL.op (yq (y_lss (ev_t rfl) (ev_t rfl))) rfl rfl rfl ?_
  refine TL.nil ?_
  refine TN.seq ?_
  refine TC.seq ?_
  refine TC.cond (b := decide ((k8_1 : Int) < (s.length : Int))) (ev_t rfl) (fun h13 => ?_) (fun h13 => ?_)
  · rw [bif_pos h13] at hL1
    have q14 := (of_decide_eq_true h13)
    refine TC.skip ?_
    refine TN.seq ?_
    refine TC.seq ?_
    refine TC.block ?_
    refine TC.seq ?_
    refine TC.region ?_
    refine TL.op (yq (y_move (ev_t rfl))) rfl rfl rfl ?_
    refine TL.op (yq (y_assign (ev_t rfl))) rfl rfl rfl ?_
    refine TL.nil ?_
    refine TN.seq ?_
    refine TC.seq ?_
    refine TC.region ?_
    refine TL.op (yq (y_move (ev_t rfl))) rfl rfl rfl ?_
    refine TL.op (yq (y_move (ev_t rfl))) rfl rfl rfl ?_
    refine TL.op (yq (y_move (ev_t rfl))) rfl rfl rfl ?_
    have hb15 : k8_1 < s.length := (by first | omega | (simp only [List.length_set, List.length_append, List.length_cons, List.length_nil, List.length_replicate]; omega) | (rw [sortI_length]; simp only [List.length_cons, List.length_nil]; omega))
    refine TL.op (yq (y_idx (k := k8_1) (ev_t rfl) (ev_t rfl) (by first | omega | simp) slT_25 (ri_arg hs) hb15)) rfl rfl rfl ?_
    refine TL.op (yq (y_ldi (ev_t rfl) one_3 (ri_arg hs) hb15)) rfl rfl rfl ?_
    refine TL.op (yq (y_eql (ev_t rfl) (ev_t rfl))) rfl rfl rfl ?_
    refine TL.nil ?_
    refine TN.seq ?_
    refine TC.cond (b := decide (v = (s.getD k8_1 0))) (ev_t rfl) (fun h16 => ?_) (fun h16 => ?_)
    · rw [bif_pos h16] at hL1
      have q17 := (of_decide_eq_true h16)
      refine TC.seq ?_
      refine TC.region ?_
      refine TL.op (yq (y_move (ev_t rfl))) rfl rfl rfl ?_
      refine TL.op (yq (y_assign (ev_t rfl))) rfl rfl rfl ?_
      refine TL.nil ?_
      refine TN.seq ?_
      refine TC.ret ?_
      refine TN.blockR ?_
      refine TN.thenR ?_
      refine TN.thenR ?_
      rw [← hL1, elim_ret] at hF
      refine TN.blockR ?_
      refine TN.thenR ?_
      subst hF
      exact TN.ret1 rfl (ev_t rfl) (fun w' hw => ⟨rfl, hw⟩)
    · rw [bif_neg h16] at hL1
      have q17 := (of_decide_eq_false h16)
      refine TC.skip ?_
      refine TN.blockN ?_
      refine TN.seq ?_
      refine TC.region ?_
      refine TL.op (yq (y_add (ev_t rfl) ev_c (by unfold In64; omega))) rfl rfl rfl ?_
      refine TL.op (yq (y_move (ev_t rfl))) rfl rfl rfl ?_
      refine TL.nil ?_
      exact TN.hand (mf1, (k8_1 + 1)) ⟨(by first | omega | (simp [-List.getD_eq_getElem?_getD] <;> omega)), (by omega), hL1⟩ (Nat.lt_succ_self _) ⟨rfl, rfl, rfl, rfl, trivial⟩ (fun w hw => hw)
  · rw [bif_neg h13] at hL1
    have q14 := (of_decide_eq_false h13)
    refine TC.exit ?_
    refine TN.thenE ?_
    refine TN.thenE ?_
    rw [← hL1, elim_next] at hF
    try dsimp only at hF
    refine TN.blockH ?_
    refine TN.seq ?_
    refine TC.seq ?_
    refine TC.region ?_
    refine TL.op (yq (y_assign ev_c)) rfl rfl rfl ?_
    refine TL.nil ?_
    refine TN.seq ?_
    refine TC.ret ?_
    subst hF
    exact TN.ret1 rfl (ev_t rfl) (fun w' hw => ⟨rfl, hw⟩)

set_option maxRecDepth 4000 in
set_option maxHeartbeats 1000000 in
theorem slices_Contains_Sint_int_ok (w : World) (vs : Value) (s : List Int) (hs : RI w vs s) (v : Int)  :
    Calls Try.prog 92 ([vs, (.int .i64 v)] : List Value).toArray w (Ret (.bool (F_slices_Contains_Sint_int s v)) (Hp w [])) := by
  obtain ⟨rz, hF⟩ : ∃ rz, (F_slices_Contains_Sint_int s v) = rz := ⟨_, rfl⟩
  rw [hF]
  unfold F_slices_Contains_Sint_int at hF
  have hlen_s := arg_len hs
  refine calls_tc Try.func92 rfl rfl rfl ?_
  change TC _ _ _ _ (Hp w []) [(0, vs), (1, (.int .i64 v))]
  refine TC.seq ?_
  refine TC.region ?_
  refine TL.op (yq (y_assign ev_c)) rfl rfl rfl ?_
  refine TL.nil ?_
  refine TN.seq ?_
  refine TC.seq ?_
  refine TC.region ?_
  refine TL.op (yq (y_move (ev_t rfl))) rfl rfl rfl ?_
  refine TL.op (yq (y_move (ev_t rfl))) rfl rfl rfl ?_
  refine TL.op (y_call (vs := [vs, (.int .i64 v)]) (v := (.int .i64 (F_slices_Index_Sint_int s v))) en_121 ⟨(ev_t rfl), (ev_t rfl), trivial⟩ (fun w hw => slices_Index_Sint_int_ok w vs s ((ri_arg hs) w hw) v)) rfl rfl rfl ?_
  refine TL.op (yq (y_geq (ev_t rfl) ev_c)) rfl rfl rfl ?_
  refine TL.op (yq (y_assign (ev_t rfl))) rfl rfl rfl ?_
  refine TL.nil ?_
  refine TN.seq ?_
  refine TC.ret ?_
  subst hF
  exact TN.ret1 rfl (ev_t rfl) (fun w' hw => ⟨rfl, hw⟩)

set_option maxRecDepth 4000 in
set_option maxHeartbeats 1000000 in
theorem impl_orders_ok (w : World) (k : Int) (hp0 : k ≤ 3) :
    Calls Try.prog 138 ([(.int .i64 k)] : List Value).toArray w (fun e w' => ∃ i : Value × List Value, e = .returned i.1 ∧ Hp w [tabI 25 3 i.1 i.2 (F_impl_orders k)] w') := by
  obtain ⟨rz, hF⟩ : ∃ rz, (F_impl_orders k) = rz := ⟨_, rfl⟩
  rw [hF]
  unfold F_impl_orders at hF
  refine calls_tc Try.func138 rfl rfl rfl ?_
  change TC _ _ _ _ (Hp w []) [(0, (.int .i64 k))]
  refine TC.seq ?_
  refine TC.region ?_
  refine TL.op (yq (y_assign ev_c)) rfl rfl rfl ?_
  refine TL.nil ?_
  refine TN.seq ?_
  refine TC.seq ?_
  refine TC.region ?_
  refine TL.buildI (zs := []) (qs := []) slT_25 rfl trivial rfl (by decide) rfl (fun v1_0 => ?_)
  refine TL.buildU slT_22 (ev_t rfl) (fun w hw => ((ri_row 0 rfl) w hw).ln) rfl (fun v1_1 => ?_)
  refine TL.cls (fun w hw => hw.uniTab 0 1 rfl rfl rfl) ?_
  refine TL.op (yq (y_assign (ev_t rfl))) rfl rfl rfl ?_
  refine TL.nil ?_
  refine TN.seq ?_
  refine TC.seq ?_
  refine TC.seq ?_
  refine TC.region ?_
  refine TL.op (yq (y_move (ev_t rfl))) rfl rfl rfl ?_
  refine TL.op (yq (y_move ev_c)) rfl rfl rfl ?_
  refine TL.nil ?_
  refine TN.seq ?_
  refine TC.block ?_
  obtain ⟨c30, hc31⟩ : ∃ c, F_impl_orders_L1 k ((((k).toNat) - 0) + 1) (([([] : List Int)]), 0) = c := ⟨_, rfl⟩
  rw [hc31] at hF
  refine TC.loop (ι := Nat × List (List Int) × Nat × Value × List Value) (fun (fu1, out1, k11_1, vout1, uout1) => [(0, (.int .i64 k)), (3, vout1), (10, (.int .i64 k)), (11, (.int .i64 (k11_1 : Int)))]) (fun (fu1, out1, k11_1, vout1, uout1) => Hp w [tabI 25 3 vout1 uout1 out1]) (fun (fu1, out1, k11_1, vout1, uout1) => (k11_1 ≤ ((k).toNat)) ∧ (out1.length ≤ 3 ^ k11_1) ∧ (∀ j, (out1.getD j []).length ≤ k11_1) ∧ ((k).toNat) - k11_1 < fu1 ∧ F_impl_orders_L1 k fu1 (out1, k11_1) = c30) (fun (fu1, out1, k11_1, vout1, uout1) => fu1) ((((k).toNat) - 0) + 1, [([] : List Int)], 0, v1_1, [v1_0]) ⟨(by first | omega | (simp [-List.getD_eq_getElem?_getD] <;> omega)), (by simp), (fun j => by cases j <;> simp), (by omega), hc31⟩ ⟨rfl, rfl, rfl, rfl, trivial⟩ (fun w hw => Hp.sublist hw (.cons_cons _ (.cons _ .slnil))) ?_
  rintro ⟨fu1, out1, k11_1, vout1, uout1⟩ hJ1
  obtain ⟨hi1_0, hi1_1, hi1_2, hmu1, hL1⟩ : (k11_1 ≤ ((k).toNat)) ∧ (out1.length ≤ 3 ^ k11_1) ∧ (∀ j, (out1.getD j []).length ≤ k11_1) ∧ ((k).toNat) - k11_1 < fu1 ∧ F_impl_orders_L1 k fu1 (out1, k11_1) = c30 := hJ1
  change TC _ _ _ _ (Hp w [tabI 25 3 vout1 uout1 out1]) [(0, (.int .i64 k)), (3, vout1), (10, (.int .i64 k)), (11, (.int .i64 (k11_1 : Int)))]
  obtain ⟨mf1, rfl⟩ : ∃ m, fu1 = m + 1 := ⟨fu1 - 1, by omega⟩
  rw [F_impl_orders_L1_s] at hL1
  have hpw : 3 ^ k11_1 ≤ 3 ^ 3 := Nat.pow_le_pow_right (by decide) (by omega)
  refine TC.seq ?_
  refine TC.region ?_
  refine TL.op (yq (y_lss (ev_t rfl) (ev_t rfl))) rfl rfl rfl ?_
  refine TL.nil ?_
  refine TN.seq ?_
  refine TC.seq ?_
  refine TC.cond (b := decide ((k11_1 : Int) < k)) (ev_t rfl) (fun h32 => ?_) (fun h32 => ?_)
  · rw [bif_pos h32] at hL1
    have q33 := (of_decide_eq_true h32)
    refine TC.skip ?_
    refine TN.seq ?_
    refine TC.seq ?_
    refine TC.block ?_
    refine TC.seq ?_
    refine TC.region ?_
    refine TL.buildSlice (zs := []) (vs := []) slT_22 rfl trivial (by simp) rfl (by decide) rfl (fun v4_0 => ?_)
    refine TL.cls (fun w hw => hw.emptyTab 3) ?_
    refine TL.op (yq (y_assign (ev_t rfl))) rfl rfl rfl ?_
    refine TL.nil ?_
    refine TN.seq ?_
    refine TC.seq ?_
    refine TC.seq ?_
    refine TC.region ?_
    refine TL.op (yq (y_move (ev_t rfl))) rfl rfl rfl ?_
    refine TL.op (yq (y_len (ev_t rfl) Try.underlying22 (fun w hw => ((fun w hw => ((rii_tab 1 rfl) w hw).1) w hw).ln))) rfl rfl rfl ?_
    refine TL.op (yq (y_move ev_c)) rfl rfl rfl ?_
    refine TL.nil ?_
    refine TN.seq ?_
    refine TC.block ?_
    obtain ⟨c34, hc35⟩ : ∃ c, F_impl_orders_L2 k out1 ((out1.length - 0) + 1) (([]), 0) = c := ⟨_, rfl⟩
    rw [hc35] at hL1
    refine TC.loop (ι := Nat × List (List Int) × Nat × Value × List Value) (fun (fu2, next2, k16_2, vnext2, unext2) => [(0, (.int .i64 k)), (4, vnext2), (10, (.int .i64 k)), (11, (.int .i64 (k11_1 : Int))), (14, vout1), (15, (.int .i64 (out1.length : Int))), (16, (.int .i64 (k16_2 : Int)))]) (fun (fu2, next2, k16_2, vnext2, unext2) => Hp w [tabI 25 3 vnext2 unext2 next2, tabI 25 3 vout1 uout1 out1]) (fun (fu2, next2, k16_2, vnext2, unext2) => (k16_2 ≤ out1.length) ∧ (next2.length ≤ 3 * k16_2) ∧ (∀ j, (next2.getD j []).length ≤ k11_1 + 1) ∧ out1.length - k16_2 < fu2 ∧ F_impl_orders_L2 k out1 fu2 (next2, k16_2) = c34) (fun (fu2, next2, k16_2, vnext2, unext2) => fu2) ((out1.length - 0) + 1, [], 0, v4_0, []) ⟨(by first | omega | (simp [-List.getD_eq_getElem?_getD] <;> omega)), (by first | omega | (simp [-List.getD_eq_getElem?_getD] <;> omega)), (fun j => by simp), (by omega), hc35⟩ ⟨rfl, rfl, rfl, rfl, rfl, rfl, rfl, trivial⟩ (fun w hw => hw) ?_
    rintro ⟨fu2, next2, k16_2, vnext2, unext2⟩ hJ2
    obtain ⟨hi2_0, hi2_1, hi2_2, hmu2, hL2⟩ : (k16_2 ≤ out1.length) ∧ (next2.length ≤ 3 * k16_2) ∧ (∀ j, (next2.getD j []).length ≤ k11_1 + 1) ∧ out1.length - k16_2 < fu2 ∧ F_impl_orders_L2 k out1 fu2 (next2, k16_2) = c34 := hJ2
    change TC _ _ _ _ (Hp w [tabI 25 3 vnext2 unext2 next2, tabI 25 3 vout1 uout1 out1]) [(0, (.int .i64 k)), (4, vnext2), (10, (.int .i64 k)), (11, (.int .i64 (k11_1 : Int))), (14, vout1), (15, (.int .i64 (out1.length : Int))), (16, (.int .i64 (k16_2 : Int)))]
    obtain ⟨mf2, rfl⟩ : ∃ m, fu2 = m + 1 := ⟨fu2 - 1, by omega⟩
    rw [F_impl_orders_L2_s] at hL2
    have hol := hi1_2 k16_2
    refine TC.seq ?_
    refine TC.region ?_
    refine TL.op (yq (y_lss (ev_t rfl) (ev_t rfl))) rfl rfl rfl ?_
    refine TL.nil ?_
    refine TN.seq ?_
    refine TC.seq ?_
    refine TC.cond (b := decide ((k16_2 : Int) < (out1.length : Int))) (ev_t rfl) (fun h36 => ?_) (fun h36 => ?_)
    · rw [bif_pos h36] at hL2
      have q37 := (of_decide_eq_true h36)
      refine TC.skip ?_
      refine TN.seq ?_
      refine TC.seq ?_
      refine TC.block ?_
      refine TC.seq ?_
      refine TC.region ?_
      have hb38 : k16_2 < out1.length := (by first | omega | (simp only [List.length_set, List.length_append, List.length_cons, List.length_nil, List.length_replicate]; omega) | (rw [sortI_length]; simp only [List.length_cons, List.length_nil]; omega))
      refine TL.op (yq (y_idx (k := k16_2) (ev_t rfl) (ev_t rfl) (by first | omega | simp) slT_22 (fun w hw => ((rii_tab 1 rfl) w hw).1) hb38)) rfl rfl rfl ?_
      refine TL.op (yq (y_ldT 1 (ev_t rfl) one_25 rfl hb38)) rfl rfl rfl ?_
      refine TL.op (yq (y_assign (ev_t rfl))) rfl rfl rfl ?_
      refine TL.nil ?_
      refine TN.seq ?_
      refine TC.seq ?_
      refine TC.region ?_
      refine TL.op (yq (y_move (ev_t rfl))) rfl rfl rfl ?_
      refine TL.op (yq (y_move ev_c)) rfl rfl rfl ?_
      refine TL.nil ?_
      refine TN.seq ?_
      refine TC.block ?_
      obtain ⟨c39, hc40⟩ : ∃ c, F_impl_orders_L3 k out1 k16_2 ((((k).toNat) - 0) + 1) (next2, 0) = c := ⟨_, rfl⟩
      rw [hc40] at hL2
      refine TC.loop (ι := Nat × List (List Int) × Nat × Value × List Value) (fun (fu3, next3, k21_3, vnext3, unext3) => [(0, (.int .i64 k)), (4, vnext3), (6, (uout1.getD k16_2 undef)), (10, (.int .i64 k)), (11, (.int .i64 (k11_1 : Int))), (14, vout1), (15, (.int .i64 (out1.length : Int))), (16, (.int .i64 (k16_2 : Int))), (20, (.int .i64 k)), (21, (.int .i64 (k21_3 : Int)))]) (fun (fu3, next3, k21_3, vnext3, unext3) => Hp w [tabI 25 3 vnext3 unext3 next3, tabI 25 3 vout1 uout1 out1]) (fun (fu3, next3, k21_3, vnext3, unext3) => (k21_3 ≤ ((k).toNat)) ∧ (next3.length ≤ next2.length + k21_3) ∧ (∀ j, (next3.getD j []).length ≤ k11_1 + 1) ∧ ((k).toNat) - k21_3 < fu3 ∧ F_impl_orders_L3 k out1 k16_2 fu3 (next3, k21_3) = c39) (fun (fu3, next3, k21_3, vnext3, unext3) => fu3) ((((k).toNat) - 0) + 1, next2, 0, vnext2, unext2) ⟨(by first | omega | (simp [-List.getD_eq_getElem?_getD] <;> omega)), (by first | omega | (simp [-List.getD_eq_getElem?_getD] <;> omega)), hi2_2, (by omega), hc40⟩ ⟨rfl, rfl, rfl, rfl, rfl, rfl, rfl, rfl, rfl, rfl, trivial⟩ (fun w hw => hw) ?_
      rintro ⟨fu3, next3, k21_3, vnext3, unext3⟩ hJ3
      obtain ⟨hi3_0, hi3_1, hi3_2, hmu3, hL3⟩ : (k21_3 ≤ ((k).toNat)) ∧ (next3.length ≤ next2.length + k21_3) ∧ (∀ j, (next3.getD j []).length ≤ k11_1 + 1) ∧ ((k).toNat) - k21_3 < fu3 ∧ F_impl_orders_L3 k out1 k16_2 fu3 (next3, k21_3) = c39 := hJ3
      change TC _ _ _ _ (Hp w [tabI 25 3 vnext3 unext3 next3, tabI 25 3 vout1 uout1 out1]) [(0, (.int .i64 k)), (4, vnext3), (6, (uout1.getD k16_2 undef)), (10, (.int .i64 k)), (11, (.int .i64 (k11_1 : Int))), (14, vout1), (15, (.int .i64 (out1.length : Int))), (16, (.int .i64 (k16_2 : Int))), (20, (.int .i64 k)), (21, (.int .i64 (k21_3 : Int)))]
      obtain ⟨mf3, rfl⟩ : ∃ m, fu3 = m + 1 := ⟨fu3 - 1, by omega⟩
      rw [F_impl_orders_L3_s] at hL3
      refine TC.seq ?_
      refine TC.region ?_
      refine TL.op (yq (y_lss (ev_t rfl) (ev_t rfl))) rfl rfl rfl ?_
      refine TL.nil ?_
      refine TN.seq ?_
      refine TC.seq ?_
      refine TC.cond (b := decide ((k21_3 : Int) < k)) (ev_t rfl) (fun h41 => ?_) (fun h41 => ?_)
      · rw [bif_pos h41] at hL3
        have q42 := (of_decide_eq_true h41)
        refine TC.skip ?_
        refine TN.seq ?_
        refine TC.seq ?_
        refine TC.block ?_
        refine TC.seq ?_
        refine TC.region ?_
        refine TL.op (yq (y_move (ev_t rfl))) rfl rfl rfl ?_
        refine TL.op (yq (y_assign (ev_t rfl))) rfl rfl rfl ?_
        refine TL.nil ?_
        refine TN.seq ?_
        refine TC.seq ?_
        refine TC.region ?_
        refine TL.op (yq (y_move (ev_t rfl))) rfl rfl rfl ?_
        refine TL.op (yq (y_move (ev_t rfl))) rfl rfl rfl ?_
        refine TL.op (y_call (vs := [(uout1.getD k16_2 undef), (.int .i64 (k21_3 : Int))]) (v := (.bool (F_slices_Contains_Sint_int (out1.getD k16_2 []) (k21_3 : Int)))) en_92 ⟨(ev_t rfl), (ev_t rfl), trivial⟩ (fun w hw => slices_Contains_Sint_int_ok w (uout1.getD k16_2 undef) (out1.getD k16_2 []) ((ri_tab 1 k16_2 rfl hb38) w hw) (k21_3 : Int))) rfl rfl rfl ?_
        refine TL.op (yq (y_not (ev_t rfl))) rfl rfl rfl ?_
        refine TL.nil ?_
        refine TN.seq ?_
        refine TC.cond (b := !(F_slices_Contains_Sint_int (out1.getD k16_2 []) (k21_3 : Int))) (ev_t rfl) (fun h43 => ?_) (fun h43 => ?_)
        · rw [bif_pos h43] at hL3
          have q44 := (not_t h43)
          refine TC.region ?_
          refine TL.op (yq (y_move (ev_t rfl))) rfl rfl rfl ?_
          refine TL.op (yq (y_move (ev_t rfl))) rfl rfl rfl ?_
          refine TL.callr (ι := Value) (vs := [(uout1.getD k16_2 undef)]) (fun i => i) (fun i => [rowI 3 i (out1.getD k16_2 [])]) en_62 ⟨(ev_t rfl), trivial⟩ rfl (fun w hw => slices_Clone_Sint_int_ok w (uout1.getD k16_2 undef) (out1.getD k16_2 []) ((ri_tab 1 k16_2 rfl hb38) w hw) (by first | assumption | omega | grind)) (fun r12_2 => ?_)
          refine TL.op (yq (y_move (ev_t rfl))) rfl rfl rfl ?_
          refine TL.buildI (zs := [.tmp 31]) (qs := [(k21_3 : Int)]) slT_25 rfl ⟨(ev_t rfl), trivial⟩ rfl (by decide) rfl (fun v12_4 => ?_)
          refine TL.appendI 1 (ev_t rfl) (ev_t rfl) rfl slT_25 (ri_row 0 rfl) (by first | omega | (simp [-List.getD_eq_getElem?_getD] <;> omega)) rfl (fun v12_5 => ?_)
          refine TL.buildU slT_22 (ev_t rfl) (fun w hw => ((ri_row 1 rfl) w hw).ln) rfl (fun v12_6 => ?_)
          refine TL.appendT 3 2 rfl (ev_t rfl) (ev_t rfl) rfl rfl slT_22 (rd_row 0 rfl) (by first | omega | (simp [-List.getD_eq_getElem?_getD] <;> omega)) rfl (fun v12_7 => ?_)
          refine TL.op (yq (y_assign (ev_t rfl))) rfl rfl rfl ?_
          refine TL.nil ?_
          refine TN.blockN ?_
          refine TN.seq ?_
          refine TC.region ?_
          refine TL.op (yq (y_add (ev_t rfl) ev_c (by unfold In64; omega))) rfl rfl rfl ?_
          refine TL.op (yq (y_move (ev_t rfl))) rfl rfl rfl ?_
          refine TL.nil ?_
          exact TN.hand (mf3, (next3 ++ [((out1.getD k16_2 []) ++ ([(k21_3 : Int)]))]), (k21_3 + 1), v12_7, (unext3 ++ [v12_5])) ⟨(by first | omega | (simp [-List.getD_eq_getElem?_getD] <;> omega)), (by first | omega | (simp [-List.getD_eq_getElem?_getD] <;> omega)), (by first | exact hi3_2 | exact push_len hi3_2 (by simp only [List.length_append, List.length_cons, List.length_nil]; omega)), (by omega), hL3⟩ (Nat.lt_succ_self _) ⟨rfl, rfl, rfl, rfl, rfl, rfl, rfl, rfl, rfl, rfl, trivial⟩ (fun w hw => Hp.sublist hw (.cons _ (.cons _ (.cons _ (.cons_cons _ (.cons_cons _ .slnil))))))
        · rw [bif_neg h43] at hL3
          have q44 := (not_f h43)
          refine TC.skip ?_
          refine TN.blockN ?_
          refine TN.seq ?_
          refine TC.region ?_
          refine TL.op (yq (y_add (ev_t rfl) ev_c (by unfold In64; omega))) rfl rfl rfl ?_
          refine TL.op (yq (y_move (ev_t rfl))) rfl rfl rfl ?_
          refine TL.nil ?_
          exact TN.hand (mf3, next3, (k21_3 + 1), vnext3, unext3) ⟨(by first | omega | (simp [-List.getD_eq_getElem?_getD] <;> omega)), (by first | omega | (simp [-List.getD_eq_getElem?_getD] <;> omega)), (by first | exact hi3_2 | exact push_len hi3_2 (by simp only [List.length_append, List.length_cons, List.length_nil]; omega)), (by omega), hL3⟩ (Nat.lt_succ_self _) ⟨rfl, rfl, rfl, rfl, rfl, rfl, rfl, rfl, rfl, rfl, trivial⟩ (fun w hw => hw)
      · rw [bif_neg h41] at hL3
        have q42 := (of_decide_eq_false h41)
        refine TC.exit ?_
        refine TN.thenE ?_
        refine TN.thenE ?_
        rw [← hL3, elim_next] at hL2
        try dsimp only at hL2
        refine TN.blockH ?_
        refine TN.blockN ?_
        refine TN.seq ?_
        refine TC.region ?_
        refine TL.op (yq (y_add (ev_t rfl) ev_c (by unfold In64; omega))) rfl rfl rfl ?_
        refine TL.op (yq (y_move (ev_t rfl))) rfl rfl rfl ?_
        refine TL.nil ?_
        exact TN.hand (mf2, next3, (k16_2 + 1), vnext3, unext3) ⟨(by first | omega | (simp [-List.getD_eq_getElem?_getD] <;> omega)), (by first | omega | (simp [-List.getD_eq_getElem?_getD] <;> omega)), hi3_2, (by omega), hL2⟩ (Nat.lt_succ_self _) ⟨rfl, rfl, rfl, rfl, rfl, rfl, rfl, trivial⟩ (fun w hw => hw)
    · rw [bif_neg h36] at hL2
      have q37 := (of_decide_eq_false h36)
      refine TC.exit ?_
      refine TN.thenE ?_
      refine TN.thenE ?_
      rw [← hL2, elim_next] at hL1
      try dsimp only at hL1
      refine TN.blockH ?_
      refine TN.seq ?_
      refine TC.region ?_
      refine TL.op (yq (y_move (ev_t rfl))) rfl rfl rfl ?_
      refine TL.op (yq (y_assign (ev_t rfl))) rfl rfl rfl ?_
      refine TL.nil ?_
      refine TN.blockN ?_
      refine TN.seq ?_
      refine TC.region ?_
      refine TL.op (yq (y_add (ev_t rfl) ev_c (by unfold In64; omega))) rfl rfl rfl ?_
      refine TL.op (yq (y_move (ev_t rfl))) rfl rfl rfl ?_
      refine TL.nil ?_
      exact TN.hand (mf1, next2, (k11_1 + 1), vnext2, unext2) ⟨(by first | omega | (simp [-List.getD_eq_getElem?_getD] <;> omega)), (by rw [Nat.pow_succ]; omega), hi2_2, (by omega), hL1⟩ (Nat.lt_succ_self _) ⟨rfl, rfl, rfl, rfl, trivial⟩ (fun w hw => Hp.sublist hw (.cons_cons _ (.cons _ .slnil)))
  · rw [bif_neg h32] at hL1
    have q33 := (of_decide_eq_false h32)
    refine TC.exit ?_
    refine TN.thenE ?_
    refine TN.thenE ?_
    rw [← hL1, elim_next] at hF
    try dsimp only at hF
    refine TN.blockH ?_
    refine TN.seq ?_
    refine TC.seq ?_
    refine TC.region ?_
    refine TL.op (yq (y_move (ev_t rfl))) rfl rfl rfl ?_
    refine TL.op (yq (y_assign (ev_t rfl))) rfl rfl rfl ?_
    refine TL.nil ?_
    refine TN.seq ?_
    refine TC.ret ?_
    subst hF
    exact TN.ret1 rfl (ev_t rfl) (fun w' hw => ⟨(vout1, uout1), rfl, hw⟩)

set_option maxRecDepth 4000 in
set_option maxHeartbeats 1000000 in
theorem spec_l6Perms_ok (w : World) (k : Int) (hp0 : k ≤ 3) :
    Calls Try.prog 131 ([(.int .i64 k)] : List Value).toArray w (fun e w' => ∃ i : Value × List Value, e = .returned i.1 ∧ Hp w [tabI 25 3 i.1 i.2 (F_spec_l6Perms k)] w') := by
  obtain ⟨rz, hF⟩ : ∃ rz, (F_spec_l6Perms k) = rz := ⟨_, rfl⟩
  rw [hF]
  unfold F_spec_l6Perms at hF
  refine calls_tc Try.func131 rfl rfl rfl ?_
  change TC _ _ _ _ (Hp w []) [(0, (.int .i64 k))]
  refine TC.seq ?_
  refine TC.region ?_
  refine TL.op (yq (y_assign ev_c)) rfl rfl rfl ?_
  refine TL.nil ?_
  refine TN.seq ?_
  refine TC.seq ?_
  refine TC.region ?_
  refine TL.buildI (zs := []) (qs := []) slT_25 rfl trivial rfl (by decide) rfl (fun v1_0 => ?_)
  refine TL.buildU slT_22 (ev_t rfl) (fun w hw => ((ri_row 0 rfl) w hw).ln) rfl (fun v1_1 => ?_)
  refine TL.cls (fun w hw => hw.uniTab 0 1 rfl rfl rfl) ?_
  refine TL.op (yq (y_assign (ev_t rfl))) rfl rfl rfl ?_
  refine TL.nil ?_
  refine TN.seq ?_
  refine TC.seq ?_
  refine TC.seq ?_
  refine TC.region ?_
  refine TL.op (yq (y_assign ev_c)) rfl rfl rfl ?_
  refine TL.nil ?_
  refine TN.seq ?_
  refine TC.block ?_
  obtain ⟨c35, hc36⟩ : ∃ c, F_spec_l6Perms_L1 k ((((k).toNat) - 0) + 1) (([([] : List Int)]), 0) = c := ⟨_, rfl⟩
  rw [hc36] at hF
  refine TC.loop (ι := Nat × List (List Int) × Nat × Value × List Value) (fun (fu1, now1, i1, vnow1, unow1) => [(0, (.int .i64 k)), (3, vnow1), (4, (.int .i64 (i1 : Int)))]) (fun (fu1, now1, i1, vnow1, unow1) => Hp w [tabI 25 3 vnow1 unow1 now1]) (fun (fu1, now1, i1, vnow1, unow1) => (i1 ≤ ((k).toNat)) ∧ (now1.length ≤ 3 ^ i1) ∧ (∀ j, (now1.getD j []).length ≤ i1) ∧ ((k).toNat) - i1 < fu1 ∧ F_spec_l6Perms_L1 k fu1 (now1, i1) = c35) (fun (fu1, now1, i1, vnow1, unow1) => fu1) ((((k).toNat) - 0) + 1, [([] : List Int)], 0, v1_1, [v1_0]) ⟨(by first | omega | (simp [-List.getD_eq_getElem?_getD] <;> omega)), (by simp), (fun j => by cases j <;> simp), (by omega), hc36⟩ ⟨rfl, rfl, rfl, trivial⟩ (fun w hw => Hp.sublist hw (.cons_cons _ (.cons _ .slnil))) ?_
  rintro ⟨fu1, now1, i1, vnow1, unow1⟩ hJ1
  obtain ⟨hi1_0, hi1_1, hi1_2, hmu1, hL1⟩ : (i1 ≤ ((k).toNat)) ∧ (now1.length ≤ 3 ^ i1) ∧ (∀ j, (now1.getD j []).length ≤ i1) ∧ ((k).toNat) - i1 < fu1 ∧ F_spec_l6Perms_L1 k fu1 (now1, i1) = c35 := hJ1
  change TC _ _ _ _ (Hp w [tabI 25 3 vnow1 unow1 now1]) [(0, (.int .i64 k)), (3, vnow1), (4, (.int .i64 (i1 : Int)))]
  obtain ⟨mf1, rfl⟩ : ∃ m, fu1 = m + 1 := ⟨fu1 - 1, by omega⟩
  rw [F_spec_l6Perms_L1_s] at hL1
  have hpw : 3 ^ i1 ≤ 3 ^ 3 := Nat.pow_le_pow_right (by decide) (by omega)
  refine TC.seq ?_
  refine TC.seq ?_
  refine TC.region ?_
  refine TL.op (yq (y_move (ev_t rfl))) rfl rfl rfl ?_
  refine TL.op (yq (y_move (ev_t rfl))) rfl rfl rfl ?_
  refine TL.op (yq (y_lss (ev_t rfl) (ev_t rfl))) rfl rfl rfl ?_
  refine TL.nil ?_
  refine TN.seq ?_
  refine TC.cond (b := decide ((i1 : Int) < k)) (ev_t rfl) (fun h37 => ?_) (fun h37 => ?_)
  · rw [bif_pos h37] at hL1
    have q38 := (of_decide_eq_true h37)
    refine TC.skip ?_
    refine TN.seq ?_
    refine TC.seq ?_
    refine TC.block ?_
    refine TC.seq ?_
    refine TC.region ?_
    refine TL.buildSlice (zs := []) (vs := []) slT_22 rfl trivial (by simp) rfl (by decide) rfl (fun v5_0 => ?_)
    refine TL.cls (fun w hw => hw.emptyTab 3) ?_
    refine TL.op (yq (y_assign (ev_t rfl))) rfl rfl rfl ?_
    refine TL.nil ?_
    refine TN.seq ?_
    refine TC.seq ?_
    refine TC.seq ?_
    refine TC.region ?_
    refine TL.op (yq (y_assign ev_c)) rfl rfl rfl ?_
    refine TL.nil ?_
    refine TN.seq ?_
    refine TC.block ?_
    obtain ⟨c39, hc40⟩ : ∃ c, F_spec_l6Perms_L2 k now1 ((now1.length - 0) + 1) (([]), 0) = c := ⟨_, rfl⟩
    rw [hc40] at hL1
    refine TC.loop (ι := Nat × List (List Int) × Nat × Value × List Value) (fun (fu2, next2, j2, vnext2, unext2) => [(0, (.int .i64 k)), (3, vnow1), (4, (.int .i64 (i1 : Int))), (5, vnext2), (6, (.int .i64 (j2 : Int)))]) (fun (fu2, next2, j2, vnext2, unext2) => Hp w [tabI 25 3 vnext2 unext2 next2, tabI 25 3 vnow1 unow1 now1]) (fun (fu2, next2, j2, vnext2, unext2) => (j2 ≤ now1.length) ∧ (next2.length ≤ 3 * j2) ∧ (∀ j, (next2.getD j []).length ≤ i1 + 1) ∧ now1.length - j2 < fu2 ∧ F_spec_l6Perms_L2 k now1 fu2 (next2, j2) = c39) (fun (fu2, next2, j2, vnext2, unext2) => fu2) ((now1.length - 0) + 1, [], 0, v5_0, []) ⟨(by first | omega | (simp [-List.getD_eq_getElem?_getD] <;> omega)), (by first | omega | (simp [-List.getD_eq_getElem?_getD] <;> omega)), (fun j => by simp), (by omega), hc40⟩ ⟨rfl, rfl, rfl, rfl, rfl, trivial⟩ (fun w hw => hw) ?_
    rintro ⟨fu2, next2, j2, vnext2, unext2⟩ hJ2
    obtain ⟨hi2_0, hi2_1, hi2_2, hmu2, hL2⟩ : (j2 ≤ now1.length) ∧ (next2.length ≤ 3 * j2) ∧ (∀ j, (next2.getD j []).length ≤ i1 + 1) ∧ now1.length - j2 < fu2 ∧ F_spec_l6Perms_L2 k now1 fu2 (next2, j2) = c39 := hJ2
    change TC _ _ _ _ (Hp w [tabI 25 3 vnext2 unext2 next2, tabI 25 3 vnow1 unow1 now1]) [(0, (.int .i64 k)), (3, vnow1), (4, (.int .i64 (i1 : Int))), (5, vnext2), (6, (.int .i64 (j2 : Int)))]
    obtain ⟨mf2, rfl⟩ : ∃ m, fu2 = m + 1 := ⟨fu2 - 1, by omega⟩
    rw [F_spec_l6Perms_L2_s] at hL2
    have hol := hi1_2 j2
    refine TC.seq ?_
    refine TC.seq ?_
    refine TC.region ?_
    refine TL.op (yq (y_move (ev_t rfl))) rfl rfl rfl ?_
    refine TL.op (yq (y_move (ev_t rfl))) rfl rfl rfl ?_
    refine TL.op (yq (y_len (ev_t rfl) Try.underlying22 (fun w hw => ((fun w hw => ((rii_tab 1 rfl) w hw).1) w hw).ln))) rfl rfl rfl ?_
    refine TL.op (yq (y_lss (ev_t rfl) (ev_t rfl))) rfl rfl rfl ?_
    refine TL.nil ?_
    refine TN.seq ?_
    refine TC.cond (b := decide ((j2 : Int) < (now1.length : Int))) (ev_t rfl) (fun h41 => ?_) (fun h41 => ?_)
    · rw [bif_pos h41] at hL2
      have q42 := (of_decide_eq_true h41)
      refine TC.skip ?_
      refine TN.seq ?_
      refine TC.seq ?_
      refine TC.block ?_
      refine TC.seq ?_
      refine TC.region ?_
      refine TL.op (yq (y_assign ev_c)) rfl rfl rfl ?_
      refine TL.nil ?_
      refine TN.seq ?_
      refine TC.block ?_
      obtain ⟨c43, hc44⟩ : ∃ c, F_spec_l6Perms_L3 k now1 j2 ((((k).toNat) - 0) + 1) (next2, 0) = c := ⟨_, rfl⟩
      rw [hc44] at hL2
      refine TC.loop (ι := Nat × List (List Int) × Nat × Value × List Value) (fun (fu3, next3, x3, vnext3, unext3) => [(0, (.int .i64 k)), (3, vnow1), (4, (.int .i64 (i1 : Int))), (5, vnext3), (6, (.int .i64 (j2 : Int))), (7, (.int .i64 (x3 : Int)))]) (fun (fu3, next3, x3, vnext3, unext3) => Hp w [tabI 25 3 vnext3 unext3 next3, tabI 25 3 vnow1 unow1 now1]) (fun (fu3, next3, x3, vnext3, unext3) => (x3 ≤ ((k).toNat)) ∧ (next3.length ≤ next2.length + x3) ∧ (∀ j, (next3.getD j []).length ≤ i1 + 1) ∧ ((k).toNat) - x3 < fu3 ∧ F_spec_l6Perms_L3 k now1 j2 fu3 (next3, x3) = c43) (fun (fu3, next3, x3, vnext3, unext3) => fu3) ((((k).toNat) - 0) + 1, next2, 0, vnext2, unext2) ⟨(by first | omega | (simp [-List.getD_eq_getElem?_getD] <;> omega)), (by first | omega | (simp [-List.getD_eq_getElem?_getD] <;> omega)), hi2_2, (by omega), hc44⟩ ⟨rfl, rfl, rfl, rfl, rfl, rfl, trivial⟩ (fun w hw => hw) ?_
      rintro ⟨fu3, next3, x3, vnext3, unext3⟩ hJ3
      obtain ⟨hi3_0, hi3_1, hi3_2, hmu3, hL3⟩ : (x3 ≤ ((k).toNat)) ∧ (next3.length ≤ next2.length + x3) ∧ (∀ j, (next3.getD j []).length ≤ i1 + 1) ∧ ((k).toNat) - x3 < fu3 ∧ F_spec_l6Perms_L3 k now1 j2 fu3 (next3, x3) = c43 := hJ3
      change TC _ _ _ _ (Hp w [tabI 25 3 vnext3 unext3 next3, tabI 25 3 vnow1 unow1 now1]) [(0, (.int .i64 k)), (3, vnow1), (4, (.int .i64 (i1 : Int))), (5, vnext3), (6, (.int .i64 (j2 : Int))), (7, (.int .i64 (x3 : Int)))]
      obtain ⟨mf3, rfl⟩ : ∃ m, fu3 = m + 1 := ⟨fu3 - 1, by omega⟩
      rw [F_spec_l6Perms_L3_s] at hL3
      refine TC.seq ?_
      refine TC.seq ?_
      refine TC.region ?_
      refine TL.op (yq (y_move (ev_t rfl))) rfl rfl rfl ?_
      refine TL.op (yq (y_move (ev_t rfl))) rfl rfl rfl ?_
      refine TL.op (yq (y_lss (ev_t rfl) (ev_t rfl))) rfl rfl rfl ?_
      refine TL.nil ?_
      refine TN.seq ?_
      refine TC.cond (b := decide ((x3 : Int) < k)) (ev_t rfl) (fun h45 => ?_) (fun h45 => ?_)
      · rw [bif_pos h45] at hL3
        have q46 := (of_decide_eq_true h45)
        refine TC.skip ?_
        refine TN.seq ?_
        refine TC.seq ?_
        refine TC.block ?_
        refine TC.seq ?_
        refine TC.region ?_
        refine TL.op (yq (y_move (ev_t rfl))) rfl rfl rfl ?_
        refine TL.op (yq (y_move (ev_t rfl))) rfl rfl rfl ?_
        have hb47 : j2 < now1.length := (by first | omega | (simp only [List.length_set, List.length_append, List.length_cons, List.length_nil, List.length_replicate]; omega) | (rw [sortI_length]; simp only [List.length_cons, List.length_nil]; omega))
        refine TL.op (yq (y_idx (k := j2) (ev_t rfl) (ev_t rfl) (by first | omega | simp) slT_22 (fun w hw => ((rii_tab 1 rfl) w hw).1) hb47)) rfl rfl rfl ?_
        refine TL.op (yq (y_ldT 1 (ev_t rfl) one_25 rfl hb47)) rfl rfl rfl ?_
        refine TL.op (yq (y_move (ev_t rfl))) rfl rfl rfl ?_
        refine TL.op (y_call (vs := [(unow1.getD j2 undef), (.int .i64 (x3 : Int))]) (v := (.bool (F_spec_l1Has (now1.getD j2 []) (x3 : Int)))) en_120 ⟨(ev_t rfl), (ev_t rfl), trivial⟩ (fun w hw => spec_l1Has_ok w (unow1.getD j2 undef) (now1.getD j2 []) ((ri_tab 1 j2 rfl hb47) w hw) (x3 : Int))) rfl rfl rfl ?_
        refine TL.op (yq (y_not (ev_t rfl))) rfl rfl rfl ?_
        refine TL.nil ?_
        refine TN.seq ?_
        refine TC.cond (b := !(F_spec_l1Has (now1.getD j2 []) (x3 : Int))) (ev_t rfl) (fun h48 => ?_) (fun h48 => ?_)
        · rw [bif_pos h48] at hL3
          have q49 := (l1Has_f (not_t h48))
          refine TC.region ?_
          refine TL.op (yq (y_move (ev_t rfl))) rfl rfl rfl ?_
          refine TL.buildI (zs := []) (qs := []) slT_25 rfl trivial rfl (by decide) rfl (fun v13_1 => ?_)
          refine TL.op (yq (y_move (ev_t rfl))) rfl rfl rfl ?_
          refine TL.op (yq (y_move (ev_t rfl))) rfl rfl rfl ?_
          have hb50 : j2 < now1.length := (by first | omega | (simp only [List.length_set, List.length_append, List.length_cons, List.length_nil, List.length_replicate]; omega) | (rw [sortI_length]; simp only [List.length_cons, List.length_nil]; omega))
          refine TL.op (yq (y_idx (k := j2) (ev_t rfl) (ev_t rfl) (by first | omega | simp) slT_22 (fun w hw => ((rii_tab 2 rfl) w hw).1) hb50)) rfl rfl rfl ?_
          refine TL.op (yq (y_ldT 2 (ev_t rfl) one_25 rfl hb50)) rfl rfl rfl ?_
          refine TL.appendI 0 (ev_t rfl) (ev_t rfl) rfl slT_25 (ri_tab 2 j2 rfl hb50) (by first | omega | (simp [-List.getD_eq_getElem?_getD] <;> omega)) rfl (fun v13_6 => ?_)
          refine TL.op (yq (y_move (ev_t rfl))) rfl rfl rfl ?_
          refine TL.buildI (zs := [.tmp 41]) (qs := [(x3 : Int)]) slT_25 rfl ⟨(ev_t rfl), trivial⟩ rfl (by decide) rfl (fun v13_8 => ?_)
          refine TL.appendI 1 (ev_t rfl) (ev_t rfl) rfl slT_25 (ri_row 0 rfl) (by first | omega | (simp [-List.getD_eq_getElem?_getD] <;> omega)) rfl (fun v13_9 => ?_)
          refine TL.buildU slT_22 (ev_t rfl) (fun w hw => ((ri_row 1 rfl) w hw).ln) rfl (fun v13_10 => ?_)
          refine TL.appendT 3 2 rfl (ev_t rfl) (ev_t rfl) rfl rfl slT_22 (rd_row 0 rfl) (by first | omega | (simp [-List.getD_eq_getElem?_getD] <;> omega)) rfl (fun v13_11 => ?_)
          refine TL.op (yq (y_assign (ev_t rfl))) rfl rfl rfl ?_
          refine TL.nil ?_
          refine TN.blockN ?_
          refine TN.seq ?_
          refine TC.region ?_
          refine TL.op (yq (y_move (ev_t rfl))) rfl rfl rfl ?_
          refine TL.op (yq (y_add (ev_t rfl) ev_c (by unfold In64; omega))) rfl rfl rfl ?_
          refine TL.op (yq (y_assign (ev_t rfl))) rfl rfl rfl ?_
          refine TL.nil ?_
          exact TN.hand (mf3, (next3 ++ [((([] : List Int) ++ (now1.getD j2 [])) ++ ([(x3 : Int)]))]), (x3 + 1), v13_11, (unext3 ++ [v13_9])) ⟨(by first | omega | (simp [-List.getD_eq_getElem?_getD] <;> omega)), (by first | omega | (simp [-List.getD_eq_getElem?_getD] <;> omega)), (by first | exact hi3_2 | exact push_len hi3_2 (by simp only [List.length_append, List.length_cons, List.length_nil]; omega)), (by omega), hL3⟩ (Nat.lt_succ_self _) ⟨rfl, rfl, rfl, rfl, rfl, rfl, trivial⟩ (fun w hw => Hp.sublist hw (.cons _ (.cons _ (.cons _ (.cons_cons _ (.cons_cons _ .slnil))))))
        · rw [bif_neg h48] at hL3
          have q49 := (not_f h48)
          refine TC.skip ?_
          refine TN.blockN ?_
          refine TN.seq ?_
          refine TC.region ?_
          refine TL.op (yq (y_move (ev_t rfl))) rfl rfl rfl ?_
          refine TL.op (yq (y_add (ev_t rfl) ev_c (by unfold In64; omega))) rfl rfl rfl ?_
          refine TL.op (yq (y_assign (ev_t rfl))) rfl rfl rfl ?_
          refine TL.nil ?_
          exact TN.hand (mf3, next3, (x3 + 1), vnext3, unext3) ⟨(by first | omega | (simp [-List.getD_eq_getElem?_getD] <;> omega)), (by first | omega | (simp [-List.getD_eq_getElem?_getD] <;> omega)), (by first | exact hi3_2 | exact push_len hi3_2 (by simp only [List.length_append, List.length_cons, List.length_nil]; omega)), (by omega), hL3⟩ (Nat.lt_succ_self _) ⟨rfl, rfl, rfl, rfl, rfl, rfl, trivial⟩ (fun w hw => hw)
      · rw [bif_neg h45] at hL3
        have q46 := (of_decide_eq_false h45)
        refine TC.exit ?_
        refine TN.thenE ?_
        refine TN.thenE ?_
        rw [← hL3, elim_next] at hL2
        try dsimp only at hL2
        refine TN.blockH ?_
        refine TN.blockN ?_
        refine TN.seq ?_
        refine TC.region ?_
        refine TL.op (yq (y_move (ev_t rfl))) rfl rfl rfl ?_
        refine TL.op (yq (y_add (ev_t rfl) ev_c (by unfold In64; omega))) rfl rfl rfl ?_
        refine TL.op (yq (y_assign (ev_t rfl))) rfl rfl rfl ?_
        refine TL.nil ?_
        exact TN.hand (mf2, next3, (j2 + 1), vnext3, unext3) ⟨(by first | omega | (simp [-List.getD_eq_getElem?_getD] <;> omega)), (by first | omega | (simp [-List.getD_eq_getElem?_getD] <;> omega)), hi3_2, (by omega), hL2⟩ (Nat.lt_succ_self _) ⟨rfl, rfl, rfl, rfl, rfl, trivial⟩ (fun w hw => hw)
    · rw [bif_neg h41] at hL2
      have q42 := (of_decide_eq_false h41)
      refine TC.exit ?_
      refine TN.thenE ?_
      refine TN.thenE ?_
      rw [← hL2, elim_next] at hL1
      try dsimp only at hL1
      refine TN.blockH ?_
      refine TN.seq ?_
      refine TC.region ?_
      refine TL.op (yq (y_move (ev_t rfl))) rfl rfl rfl ?_
      refine TL.op (yq (y_assign (ev_t rfl))) rfl rfl rfl ?_
      refine TL.nil ?_
      refine TN.blockN ?_
      refine TN.seq ?_
      refine TC.region ?_
      refine TL.op (yq (y_move (ev_t rfl))) rfl rfl rfl ?_
      refine TL.op (yq (y_add (ev_t rfl) ev_c (by unfold In64; omega))) rfl rfl rfl ?_
      refine TL.op (yq (y_assign (ev_t rfl))) rfl rfl rfl ?_
      refine TL.nil ?_
      exact TN.hand (mf1, next2, (i1 + 1), vnext2, unext2) ⟨(by first | omega | (simp [-List.getD_eq_getElem?_getD] <;> omega)), (by rw [Nat.pow_succ]; omega), hi2_2, (by omega), hL1⟩ (Nat.lt_succ_self _) ⟨rfl, rfl, rfl, trivial⟩ (fun w hw => Hp.sublist hw (.cons_cons _ (.cons _ .slnil)))
  · rw [bif_neg h37] at hL1
    have q38 := (of_decide_eq_false h37)
    refine TC.exit ?_
    refine TN.thenE ?_
    refine TN.thenE ?_
    rw [← hL1, elim_next] at hF
    try dsimp only at hF
    refine TN.blockH ?_
    refine TN.seq ?_
    refine TC.seq ?_
    refine TC.region ?_
    refine TL.op (yq (y_move (ev_t rfl))) rfl rfl rfl ?_
    refine TL.op (yq (y_assign (ev_t rfl))) rfl rfl rfl ?_
    refine TL.nil ?_
    refine TN.seq ?_
    refine TC.ret ?_
    subst hF
    exact TN.ret1 rfl (ev_t rfl) (fun w' hw => ⟨(vnow1, unow1), rfl, hw⟩)

end Go.Proofs.Ytilmadapmcnlgaa
