/-
  Walks of functions of the program: each computes its plain function. No condition but the bounds that are typed.
-/
import Derived.Test.YtilmadapmcnlgaaFacts
import Derived.Test.YtilmadapmcnlgaaDefA
import Derived.Test.YtilmadapmcnlgaaLawConf
import Derived.Test.YtilmadapmcnlgaaLawMark
import Derived.Test.YtilmadapmcnlgaaPlain
namespace Go.Proofs.Ytilmadapmcnlgaa
open Go Go.RowKit

set_option maxRecDepth 4000 in
set_option maxHeartbeats 1000000 in
theorem spec_l1In_ok (w : World) (x : Int) (a : Int) (b : Int)  :
    Calls Try.prog 96 ([(.int .i64 x), (.int .i64 a), (.int .i64 b)] : List Value).toArray w (Ret (.bool (F_spec_l1In x a b)) (Hp w [])) := by
  obtain ⟨rz, hF⟩ : ∃ rz, (F_spec_l1In x a b) = rz := ⟨_, rfl⟩
  rw [hF]
  unfold F_spec_l1In at hF
  refine calls_tc Try.func96 rfl rfl rfl ?_
  change TC _ _ _ _ (Hp w []) [(0, (.int .i64 x)), (1, (.int .i64 a)), (2, (.int .i64 b))]
  refine TC.seq ?_
  refine TC.region ?_
  refine TL.op (yq (y_assign ev_c)) rfl rfl rfl ?_
  refine TL.nil ?_
  refine TN.seq ?_
  refine TC.seq ?_
  refine TC.region ?_
  refine TL.op (yq (y_move (ev_t rfl))) rfl rfl rfl ?_
  refine TL.op (yq (y_move (ev_t rfl))) rfl rfl rfl ?_
  refine TL.op (yq (y_geq (ev_t rfl) (ev_t rfl))) rfl rfl rfl ?_
  refine TL.op (yq (y_move (ev_t rfl))) rfl rfl rfl ?_
  refine TL.opw (w_t rfl rfl rfl) (fun hg => yq (y_move (ev_t rfl))) rfl rfl ?_
  refine TL.opw (w_t rfl rfl rfl) (fun hg => yq (y_move (ev_t rfl))) rfl rfl ?_
  refine TL.opw (w_t rfl rfl rfl) (fun hg => yq (y_leq (ev_g rfl hg) (ev_g rfl hg))) rfl rfl ?_
  refine TL.op (yq (y_and (ev_t rfl) (fun hq => (ev_g rfl hq)))) rfl rfl rfl ?_
  refine TL.op (yq (y_assign (ev_t rfl))) rfl rfl rfl ?_
  refine TL.nil ?_
  refine TN.seq ?_
  refine TC.ret ?_
  subst hF
  exact TN.ret1 rfl (ev_t rfl) (fun w' hw => ⟨rfl, hw⟩)

set_option maxRecDepth 4000 in
set_option maxHeartbeats 1000000 in
theorem impl_within_ok (w : World) (n : Int) (lo : Int) (hi : Int)  :
    Calls Try.prog 78 ([(.int .i64 n), (.int .i64 lo), (.int .i64 hi)] : List Value).toArray w (Ret (.bool (F_impl_within n lo hi)) (Hp w [])) := by
  obtain ⟨rz, hF⟩ : ∃ rz, (F_impl_within n lo hi) = rz := ⟨_, rfl⟩
  rw [hF]
  unfold F_impl_within at hF
  refine calls_tc Try.func78 rfl rfl rfl ?_
  change TC _ _ _ _ (Hp w []) [(0, (.int .i64 n)), (1, (.int .i64 lo)), (2, (.int .i64 hi))]
  refine TC.seq ?_
  refine TC.region ?_
  refine TL.op (yq (y_assign ev_c)) rfl rfl rfl ?_
  refine TL.nil ?_
  refine TN.seq ?_
  refine TC.seq ?_
  refine TC.region ?_
  refine TL.op (yq (y_move (ev_t rfl))) rfl rfl rfl ?_
  refine TL.op (yq (y_move (ev_t rfl))) rfl rfl rfl ?_
  refine TL.op (yq (y_geq (ev_t rfl) (ev_t rfl))) rfl rfl rfl ?_
  refine TL.op (yq (y_move (ev_t rfl))) rfl rfl rfl ?_
  refine TL.opw (w_t rfl rfl rfl) (fun hg => yq (y_move (ev_t rfl))) rfl rfl ?_
  refine TL.opw (w_t rfl rfl rfl) (fun hg => yq (y_move (ev_t rfl))) rfl rfl ?_
  refine TL.opw (w_t rfl rfl rfl) (fun hg => yq (y_leq (ev_g rfl hg) (ev_g rfl hg))) rfl rfl ?_
  refine TL.op (yq (y_and (ev_t rfl) (fun hq => (ev_g rfl hq)))) rfl rfl rfl ?_
  refine TL.op (yq (y_assign (ev_t rfl))) rfl rfl rfl ?_
  refine TL.nil ?_
  refine TN.seq ?_
  refine TC.ret ?_
  subst hF
  exact TN.ret1 rfl (ev_t rfl) (fun w' hw => ⟨rfl, hw⟩)

set_option maxRecDepth 4000 in
set_option maxHeartbeats 1000000 in
theorem laws_eqIntS_ok (w : World) (va : Value) (a : List Int) (ha : RI w va a) (vb : Value) (b : List Int) (hb : RI w vb b)  :
    Calls Try.prog 21 ([va, vb] : List Value).toArray w (Ret (.bool (F_laws_eqIntS a b)) (Hp w [])) := by
  obtain ⟨rz, hF⟩ : ∃ rz, (F_laws_eqIntS a b) = rz := ⟨_, rfl⟩
  rw [hF]
  unfold F_laws_eqIntS at hF
  have hlen_a := arg_len ha
  have hlen_b := arg_len hb
  refine calls_tc Try.func21 rfl rfl rfl ?_
  change TC _ _ _ _ (Hp w []) [(0, va), (1, vb)]
  refine TC.seq ?_
  refine TC.region ?_
  refine TL.op (yq (y_assign ev_c)) rfl rfl rfl ?_
  refine TL.nil ?_
  refine TN.seq ?_
  refine TC.seq ?_
  refine TC.seq ?_
  refine TC.region ?_
  refine TL.op (yq (y_move (ev_t rfl))) rfl rfl rfl ?_
  refine TL.op (yq (y_len (ev_t rfl) Try.underlying25 (fun w hw => ((ri_arg ha) w hw).ln))) rfl rfl rfl ?_
  refine TL.op (yq (y_move (ev_t rfl))) rfl rfl rfl ?_
  refine TL.op (yq (y_len (ev_t rfl) Try.underlying25 (fun w hw => ((ri_arg hb) w hw).ln))) rfl rfl rfl ?_
  refine TL.op (yq (y_neq (ev_t rfl) (ev_t rfl))) rfl rfl rfl ?_
  refine TL.nil ?_
  refine TN.seq ?_
  refine TC.cond (b := !decide ((a.length : Int) = (b.length : Int))) (ev_t rfl) (fun h15 => ?_) (fun h15 => ?_)
  · rw [bif_pos h15] at hF
    have q16 := (of_decide_eq_false (not_t h15))
    refine TC.seq ?_
    refine TC.region ?_
    refine TL.op (yq (y_assign ev_c)) rfl rfl rfl ?_
    refine TL.nil ?_
    refine TN.seq ?_
    refine TC.ret ?_
    refine TN.thenR ?_
    subst hF
    exact TN.ret1 rfl (ev_t rfl) (fun w' hw => ⟨rfl, hw⟩)
  · rw [bif_neg h15] at hF
    have q16 := (of_decide_eq_true (not_f h15))
    refine TC.skip ?_
    refine TN.seq ?_
    refine TC.seq ?_
    refine TC.seq ?_
    refine TC.region ?_
    refine TL.op (yq (y_assign ev_c)) rfl rfl rfl ?_
    refine TL.nil ?_
    refine TN.seq ?_
    refine TC.block ?_
    obtain ⟨c17, hc18⟩ : ∃ c, F_laws_eqIntS_L1 a b ((a.length - 0) + 1) 0 = c := ⟨_, rfl⟩
    rw [hc18] at hF
    refine TC.loop (ι := Nat × Nat) (fun (fu1, i1) => [(0, va), (1, vb), (5, (.int .i64 (i1 : Int)))]) (fun (fu1, i1) => Hp w []) (fun (fu1, i1) => (i1 ≤ a.length) ∧ a.length - i1 < fu1 ∧ F_laws_eqIntS_L1 a b fu1 i1 = c17) (fun (fu1, i1) => fu1) ((a.length - 0) + 1, 0) ⟨(by first | omega | (simp [-List.getD_eq_getElem?_getD] <;> omega)), (by omega), hc18⟩ ⟨rfl, rfl, rfl, trivial⟩ (fun w hw => hw) ?_
    rintro ⟨fu1, i1⟩ hJ1
    obtain ⟨hi1_0, hmu1, hL1⟩ : (i1 ≤ a.length) ∧ a.length - i1 < fu1 ∧ F_laws_eqIntS_L1 a b fu1 i1 = c17 := hJ1
    change TC _ _ _ _ (Hp w []) [(0, va), (1, vb), (5, (.int .i64 (i1 : Int)))]
    obtain ⟨mf1, rfl⟩ : ∃ m, fu1 = m + 1 := ⟨fu1 - 1, by omega⟩
    rw [F_laws_eqIntS_L1_s] at hL1
    refine TC.seq ?_
    refine TC.seq ?_
    refine TC.region ?_
    refine TL.op (yq (y_move (ev_t rfl))) rfl rfl rfl ?_
    refine TL.op (yq (y_move (ev_t rfl))) rfl rfl rfl ?_
    refine TL.op (yq (y_len (ev_t rfl) Try.underlying25 (fun w hw => ((ri_arg ha) w hw).ln))) rfl rfl rfl ?_
    refine TL.op (yq (y_lss (ev_t rfl) (ev_t rfl))) rfl rfl rfl ?_
    refine TL.nil ?_
    refine TN.seq ?_
    refine TC.cond (b := decide ((i1 : Int) < (a.length : Int))) (ev_t rfl) (fun h19 => ?_) (fun h19 => ?_)
    · rw [bif_pos h19] at hL1
      have q20 := (of_decide_eq_true h19)
      refine TC.skip ?_
      refine TN.seq ?_
      refine TC.seq ?_
      refine TC.block ?_
      refine TC.seq ?_
      refine TC.regionQ (by kernel_rfl) (by kernel_rfl) dr_hp ?_
      refine TQ.op (yq (y_move (ev_t rfl))) rfl rfl rfl ?_
      refine TQ.op (yq (y_move (ev_t rfl))) rfl rfl rfl ?_
      have hb21 : i1 < a.length := (by first | omega | (simp only [List.length_set, List.length_append, List.length_cons, List.length_nil, List.length_replicate]; omega) | (rw [sortI_length]; simp only [List.length_cons, List.length_nil]; omega))
      refine TQ.op (yq (y_idx (k := i1) (ev_t rfl) (ev_t rfl) (by first | omega | simp) slT_25 (ri_arg ha) hb21)) rfl rfl rfl ?_
      refine TQ.op (yq (y_ldi (ev_t rfl) one_3 (ri_arg ha) hb21)) rfl rfl rfl ?_
      refine TQ.op (yq (y_move (ev_t rfl))) rfl rfl rfl ?_
      refine TQ.op (yq (y_move (ev_t rfl))) rfl rfl rfl ?_
      have hb22 : i1 < b.length := (by first | omega | (simp only [List.length_set, List.length_append, List.length_cons, List.length_nil, List.length_replicate]; omega) | (rw [sortI_length]; simp only [List.length_cons, List.length_nil]; omega))
      refine TQ.op (yq (y_idx (k := i1) (ev_t rfl) (ev_t rfl) (by first | omega | simp) slT_25 (ri_arg hb) hb22)) rfl rfl rfl ?_
      refine TQ.op (yq (y_ldi (ev_t rfl) one_3 (ri_arg hb) hb22)) rfl rfl rfl ?_
      refine TQ.op (yq (y_neq (ev_t rfl) (ev_t rfl))) rfl rfl rfl ?_
      refine TQ.nil ?_
      refine TN.seq ?_
      refine TC.cond (b := !decide ((a.getD i1 0) = (b.getD i1 0))) (ev_t rfl) (fun h23 => ?_) (fun h23 => ?_)
      · rw [bif_pos h23] at hL1
        have q24 := (of_decide_eq_false (not_t h23))
        refine TC.seq ?_
        refine TC.region ?_
        refine TL.op (yq (y_assign ev_c)) rfl rfl rfl ?_
        refine TL.nil ?_
        refine TN.seq ?_
        refine TC.ret ?_
        refine TN.blockR ?_
        refine TN.thenR ?_
        refine TN.thenR ?_
        rw [← hL1, elim_ret] at hF
        refine TN.blockR ?_
        refine TN.thenR ?_
        subst hF
        exact TN.ret1 rfl (ev_t rfl) (fun w' hw => ⟨rfl, hw⟩)
      · rw [bif_neg h23] at hL1
        have q24 := (of_decide_eq_true (not_f h23))
        refine TC.skip ?_
        refine TN.blockN ?_
        refine TN.seq ?_
        refine TC.region ?_
        refine TL.op (yq (y_move (ev_t rfl))) rfl rfl rfl ?_
        refine TL.op (yq (y_add (ev_t rfl) ev_c (by unfold In64; omega))) rfl rfl rfl ?_
        refine TL.op (yq (y_assign (ev_t rfl))) rfl rfl rfl ?_
        refine TL.nil ?_
        exact TN.hand (mf1, (i1 + 1)) ⟨(by first | omega | (simp [-List.getD_eq_getElem?_getD] <;> omega)), (by omega), hL1⟩ (Nat.lt_succ_self _) ⟨rfl, rfl, rfl, trivial⟩ (fun w hw => hw)
    · rw [bif_neg h19] at hL1
      have q20 := (of_decide_eq_false h19)
      refine TC.exit ?_
      refine TN.thenE ?_
      refine TN.thenE ?_
      rw [← hL1, elim_next] at hF
      try dsimp only at hF
      refine TN.blockH ?_
      refine TN.seq ?_
      refine TC.seq ?_
      refine TC.region ?_
      refine TL.op (yq (y_assign ev_c)) rfl rfl rfl ?_
      refine TL.nil ?_
      refine TN.seq ?_
      refine TC.ret ?_
      subst hF
      exact TN.ret1 rfl (ev_t rfl) (fun w' hw => ⟨rfl, hw⟩)

set_option maxRecDepth 4000 in
set_option maxHeartbeats 1000000 in
theorem laws_toIntS_ok (w : World) (va : Value) (a : List Int) (ha : RI w va a) (hp0 : a.length ≤ 1048576) :
    Calls Try.prog 18 ([va] : List Value).toArray w (fun e w' => ∃ i : Value, e = .returned i ∧ Hp w [rowI 3 i (F_laws_toIntS a)] w') := by
  obtain ⟨rz, hF⟩ : ∃ rz, (F_laws_toIntS a) = rz := ⟨_, rfl⟩
  rw [hF]
  unfold F_laws_toIntS at hF
  have hlen_a := arg_len ha
  refine calls_tc Try.func18 rfl rfl rfl ?_
  change TC _ _ _ _ (Hp w []) [(0, va)]
  refine TC.seq ?_
  refine TC.region ?_
  refine TL.op (yq (y_assign ev_c)) rfl rfl rfl ?_
  refine TL.nil ?_
  refine TN.seq ?_
  refine TC.seq ?_
  refine TC.region ?_
  refine TL.op (yq (y_move (ev_t rfl))) rfl rfl rfl ?_
  refine TL.op (yq (y_len (ev_t rfl) Try.underlying25 (fun w hw => ((ri_arg ha) w hw).ln))) rfl rfl rfl ?_
  refine TL.makeSlice (n := a.length) (ev_t rfl) (ev_t rfl) (by omega) slT_25 rfl (by omega) (by unfold maxLen; omega) rfl (fun v1_2 => ?_)
  refine TL.cls (fun w hw => hw.zeros) ?_
  refine TL.op (yq (y_assign (ev_t rfl))) rfl rfl rfl ?_
  refine TL.nil ?_
  refine TN.seq ?_
  refine TC.seq ?_
  refine TC.seq ?_
  refine TC.region ?_
  refine TL.op (yq (y_assign ev_c)) rfl rfl rfl ?_
  refine TL.nil ?_
  refine TN.seq ?_
  refine TC.block ?_
  obtain ⟨c13, hc14⟩ : ∃ c, F_laws_toIntS_L1 a ((a.length - 0) + 1) (0, (List.replicate a.length (0 : Int))) = c := ⟨_, rfl⟩
  rw [hc14] at hF
  refine TC.loop (ι := Nat × Nat × List Int) (fun (fu1, i1, out1) => [(0, va), (3, v1_2), (4, (.int .i64 (i1 : Int)))]) (fun (fu1, i1, out1) => Hp w [rowI 3 v1_2 out1]) (fun (fu1, i1, out1) => (i1 ≤ a.length) ∧ (out1.length = a.length) ∧ a.length - i1 < fu1 ∧ F_laws_toIntS_L1 a fu1 (i1, out1) = c13) (fun (fu1, i1, out1) => fu1) ((a.length - 0) + 1, 0, (List.replicate a.length (0 : Int))) ⟨(by first | omega | (simp [-List.getD_eq_getElem?_getD] <;> omega)), (by first | omega | (simp [-List.getD_eq_getElem?_getD] <;> omega)), (by omega), hc14⟩ ⟨rfl, rfl, rfl, trivial⟩ (fun w hw => hw) ?_
  rintro ⟨fu1, i1, out1⟩ hJ1
  obtain ⟨hi1_0, hi1_1, hmu1, hL1⟩ : (i1 ≤ a.length) ∧ (out1.length = a.length) ∧ a.length - i1 < fu1 ∧ F_laws_toIntS_L1 a fu1 (i1, out1) = c13 := hJ1
  change TC _ _ _ _ (Hp w [rowI 3 v1_2 out1]) [(0, va), (3, v1_2), (4, (.int .i64 (i1 : Int)))]
  obtain ⟨mf1, rfl⟩ : ∃ m, fu1 = m + 1 := ⟨fu1 - 1, by omega⟩
  rw [F_laws_toIntS_L1_s] at hL1
  refine TC.seq ?_
  refine TC.seq ?_
  refine TC.region ?_
  refine TL.op (yq (y_move (ev_t rfl))) rfl rfl rfl ?_
  refine TL.op (yq (y_move (ev_t rfl))) rfl rfl rfl ?_
  refine TL.op (yq (y_len (ev_t rfl) Try.underlying25 (fun w hw => ((ri_arg ha) w hw).ln))) rfl rfl rfl ?_
  refine TL.op (yq (y_lss (ev_t rfl) (ev_t rfl))) rfl rfl rfl ?_
  refine TL.nil ?_
  refine TN.seq ?_
  refine TC.cond (b := decide ((i1 : Int) < (a.length : Int))) (ev_t rfl) (fun h15 => ?_) (fun h15 => ?_)
  · rw [bif_pos h15] at hL1
    have q16 := (of_decide_eq_true h15)
    refine TC.skip ?_
    refine TN.seq ?_
    refine TC.seq ?_
    refine TC.block ?_
    refine TC.region ?_
    refine TL.op (yq (y_move (ev_t rfl))) rfl rfl rfl ?_
    refine TL.op (yq (y_move (ev_t rfl))) rfl rfl rfl ?_
    refine TL.op (yq (y_move (ev_t rfl))) rfl rfl rfl ?_
    refine TL.op (yq (y_move (ev_t rfl))) rfl rfl rfl ?_
    have hb17 : i1 < a.length := (by first | omega | (simp only [List.length_set, List.length_append, List.length_cons, List.length_nil, List.length_replicate]; omega) | (rw [sortI_length]; simp only [List.length_cons, List.length_nil]; omega))
    refine TL.op (yq (y_idx (k := i1) (ev_t rfl) (ev_t rfl) (by first | omega | simp) slT_25 (ri_arg ha) hb17)) rfl rfl rfl ?_
    refine TL.op (yq (y_ldi (ev_t rfl) one_3 (ri_arg ha) hb17)) rfl rfl rfl ?_
    have hb18 : i1 < out1.length := (by first | omega | (simp only [List.length_set, List.length_append, List.length_cons, List.length_nil, List.length_replicate]; omega) | (rw [sortI_length]; simp only [List.length_cons, List.length_nil]; omega))
    refine TL.op (yq (y_idx (k := i1) (ev_t rfl) (ev_t rfl) (by first | omega | simp) slT_25 (ri_row 0 rfl) hb18)) rfl rfl rfl ?_
    refine TL.storeI 0 (ev_t rfl) (ev_t rfl) one_3 rfl hb18 ?_
    refine TL.nil ?_
    refine TN.blockN ?_
    refine TN.seq ?_
    refine TC.region ?_
    refine TL.op (yq (y_move (ev_t rfl))) rfl rfl rfl ?_
    refine TL.op (yq (y_add (ev_t rfl) ev_c (by unfold In64; omega))) rfl rfl rfl ?_
    refine TL.op (yq (y_assign (ev_t rfl))) rfl rfl rfl ?_
    refine TL.nil ?_
    exact TN.hand (mf1, (i1 + 1), (out1.set i1 (a.getD i1 0))) ⟨(by first | omega | (simp [-List.getD_eq_getElem?_getD] <;> omega)), (by first | omega | (simp [-List.getD_eq_getElem?_getD] <;> omega)), (by omega), hL1⟩ (Nat.lt_succ_self _) ⟨rfl, rfl, rfl, trivial⟩ (fun w hw => hw)
  · rw [bif_neg h15] at hL1
    have q16 := (of_decide_eq_false h15)
    refine TC.exit ?_
    refine TN.thenE ?_
    refine TN.thenE ?_
    rw [← hL1, elim_next] at hF
    try dsimp only at hF
    refine TN.blockH ?_
    refine TN.seq ?_
    refine TC.seq ?_
    refine TC.region ?_
    refine TL.op (yq (y_move (ev_t rfl))) rfl rfl rfl ?_
    refine TL.op (yq (y_assign (ev_t rfl))) rfl rfl rfl ?_
    refine TL.nil ?_
    refine TN.seq ?_
    refine TC.ret ?_
    subst hF
    exact TN.ret1 rfl (ev_t rfl) (fun w' hw => ⟨v1_2, rfl, hw⟩)

set_option maxRecDepth 4000 in
set_option maxHeartbeats 1000000 in
theorem spec_l1Has_ok (w : World) (vl : Value) (l : List Int) (hl : RI w vl l) (n : Int)  :
    Calls Try.prog 120 ([vl, (.int .i64 n)] : List Value).toArray w (Ret (.bool (F_spec_l1Has l n)) (Hp w [])) := by
  obtain ⟨rz, hF⟩ : ∃ rz, (F_spec_l1Has l n) = rz := ⟨_, rfl⟩
  rw [hF]
  unfold F_spec_l1Has at hF
  have hlen_l := arg_len hl
  refine calls_tc Try.func120 rfl rfl rfl ?_
  change TC _ _ _ _ (Hp w []) [(0, vl), (1, (.int .i64 n))]
  refine TC.seq ?_
  refine TC.region ?_
  refine TL.op (yq (y_assign ev_c)) rfl rfl rfl ?_
  refine TL.nil ?_
  refine TN.seq ?_
  refine TC.seq ?_
  refine TC.seq ?_
  refine TC.region ?_
  refine TL.op (yq (y_assign ev_c)) rfl rfl rfl ?_
  refine TL.nil ?_
  refine TN.seq ?_
  refine TC.block ?_
  obtain ⟨c11, hc12⟩ : ∃ c, F_spec_l1Has_L1 l n ((l.length - 0) + 1) 0 = c := ⟨_, rfl⟩
  rw [hc12] at hF
  refine TC.loop (ι := Nat × Nat) (fun (fu1, i1) => [(0, vl), (1, (.int .i64 n)), (5, (.int .i64 (i1 : Int)))]) (fun (fu1, i1) => Hp w []) (fun (fu1, i1) => (i1 ≤ l.length) ∧ l.length - i1 < fu1 ∧ F_spec_l1Has_L1 l n fu1 i1 = c11) (fun (fu1, i1) => fu1) ((l.length - 0) + 1, 0) ⟨(by first | omega | (simp [-List.getD_eq_getElem?_getD] <;> omega)), (by omega), hc12⟩ ⟨rfl, rfl, rfl, trivial⟩ (fun w hw => hw) ?_
  rintro ⟨fu1, i1⟩ hJ1
  obtain ⟨hi1_0, hmu1, hL1⟩ : (i1 ≤ l.length) ∧ l.length - i1 < fu1 ∧ F_spec_l1Has_L1 l n fu1 i1 = c11 := hJ1
  change TC _ _ _ _ (Hp w []) [(0, vl), (1, (.int .i64 n)), (5, (.int .i64 (i1 : Int)))]
  obtain ⟨mf1, rfl⟩ : ∃ m, fu1 = m + 1 := ⟨fu1 - 1, by omega⟩
  rw [F_spec_l1Has_L1_s] at hL1
  refine TC.seq ?_
  refine TC.seq ?_
  refine TC.region ?_
  refine TL.op (yq (y_move (ev_t rfl))) rfl rfl rfl ?_
  refine TL.op (yq (y_move (ev_t rfl))) rfl rfl rfl ?_
  refine TL.op (yq (y_len (ev_t rfl) Try.underlying25 (fun w hw => ((ri_arg hl) w hw).ln))) rfl rfl rfl ?_
  refine TL.op (yq (y_lss (ev_t rfl) (ev_t rfl))) rfl rfl rfl ?_
  refine TL.nil ?_
  refine TN.seq ?_
  refine TC.cond (b := decide ((i1 : Int) < (l.length : Int))) (ev_t rfl) (fun h13 => ?_) (fun h13 => ?_)
  · rw [bif_pos h13] at hL1
    have q14 := (of_decide_eq_true h13)
    refine TC.skip ?_
    refine TN.seq ?_
    refine TC.seq ?_
    refine TC.block ?_
    refine TC.seq ?_
    refine TC.region ?_
    refine TL.op (yq (y_move (ev_t rfl))) rfl rfl rfl ?_
    refine TL.op (yq (y_move (ev_t rfl))) rfl rfl rfl ?_
    have hb15 : i1 < l.length := (by first | omega | (simp only [List.length_set, List.length_append, List.length_cons, List.length_nil, List.length_replicate]; omega) | (rw [sortI_length]; simp only [List.length_cons, List.length_nil]; omega))
    refine TL.op (yq (y_idx (k := i1) (ev_t rfl) (ev_t rfl) (by first | omega | simp) slT_25 (ri_arg hl) hb15)) rfl rfl rfl ?_
    refine TL.op (yq (y_ldi (ev_t rfl) one_3 (ri_arg hl) hb15)) rfl rfl rfl ?_
    refine TL.op (yq (y_move (ev_t rfl))) rfl rfl rfl ?_
    refine TL.op (yq (y_eql (ev_t rfl) (ev_t rfl))) rfl rfl rfl ?_
    refine TL.nil ?_
    refine TN.seq ?_
    refine TC.cond (b := decide ((l.getD i1 0) = n)) (ev_t rfl) (fun h16 => ?_) (fun h16 => ?_)
    · rw [bif_pos h16] at hL1
      have q17 := (of_decide_eq_true h16)
      refine TC.seq ?_
      refine TC.region ?_
      refine TL.op (yq (y_assign ev_c)) rfl rfl rfl ?_
      refine TL.nil ?_
      refine TN.seq ?_
      refine TC.ret ?_
      refine TN.blockR ?_
      refine TN.thenR ?_
      refine TN.thenR ?_
      rw [← hL1, elim_ret] at hF
      refine TN.blockR ?_
      refine TN.thenR ?_
      subst hF
      exact TN.ret1 rfl (ev_t rfl) (fun w' hw => ⟨rfl, hw⟩)
    · rw [bif_neg h16] at hL1
      have q17 := (of_decide_eq_false h16)
      refine TC.skip ?_
      refine TN.blockN ?_
      refine TN.seq ?_
      refine TC.region ?_
      refine TL.op (yq (y_move (ev_t rfl))) rfl rfl rfl ?_
      refine TL.op (yq (y_add (ev_t rfl) ev_c (by unfold In64; omega))) rfl rfl rfl ?_
      refine TL.op (yq (y_assign (ev_t rfl))) rfl rfl rfl ?_
      refine TL.nil ?_
      exact TN.hand (mf1, (i1 + 1)) ⟨(by first | omega | (simp [-List.getD_eq_getElem?_getD] <;> omega)), (by omega), hL1⟩ (Nat.lt_succ_self _) ⟨rfl, rfl, rfl, trivial⟩ (fun w hw => hw)
  · rw [bif_neg h13] at hL1
    have q14 := (of_decide_eq_false h13)
    refine TC.exit ?_
    refine TN.thenE ?_
    refine TN.thenE ?_
    rw [← hL1, elim_next] at hF
    try dsimp only at hF
    refine TN.blockH ?_
    refine TN.seq ?_
    refine TC.seq ?_
    refine TC.region ?_
    refine TL.op (yq (y_assign ev_c)) rfl rfl rfl ?_
    refine TL.nil ?_
    refine TN.seq ?_
    refine TC.ret ?_
    subst hF
    exact TN.ret1 rfl (ev_t rfl) (fun w' hw => ⟨rfl, hw⟩)

set_option maxRecDepth 4000 in
set_option maxHeartbeats 1000000 in
theorem laws_eqIntSS_ok (w : World) (va : Value) (ua : List Value) (a : List (List Int)) (ha : RII w va ua a) (vb : Value) (ub : List Value) (b : List (List Int)) (hb : RII w vb ub b)  :
    Calls Try.prog 29 ([va, vb] : List Value).toArray w (Ret (.bool (F_laws_eqIntSS a b)) (Hp w [])) := by
  obtain ⟨rz, hF⟩ : ∃ rz, (F_laws_eqIntSS a b) = rz := ⟨_, rfl⟩
  rw [hF]
  unfold F_laws_eqIntSS at hF
  have hlen_a := argT_len ha
  have hlen_b := argT_len hb
  refine calls_tc Try.func29 rfl rfl rfl ?_
  change TC _ _ _ _ (Hp w []) [(0, va), (1, vb)]
  refine TC.seq ?_
  refine TC.region ?_
  refine TL.op (yq (y_assign ev_c)) rfl rfl rfl ?_
  refine TL.nil ?_
  refine TN.seq ?_
  refine TC.seq ?_
  refine TC.seq ?_
  refine TC.region ?_
  refine TL.op (yq (y_move (ev_t rfl))) rfl rfl rfl ?_
  refine TL.op (yq (y_len (ev_t rfl) Try.underlying22 (fun w hw => ((fun w hw => ((rii_arg ha) w hw).1) w hw).ln))) rfl rfl rfl ?_
  refine TL.op (yq (y_move (ev_t rfl))) rfl rfl rfl ?_
  refine TL.op (yq (y_len (ev_t rfl) Try.underlying22 (fun w hw => ((fun w hw => ((rii_arg hb) w hw).1) w hw).ln))) rfl rfl rfl ?_
  refine TL.op (yq (y_neq (ev_t rfl) (ev_t rfl))) rfl rfl rfl ?_
  refine TL.nil ?_
  refine TN.seq ?_
  refine TC.cond (b := !decide ((a.length : Int) = (b.length : Int))) (ev_t rfl) (fun h19 => ?_) (fun h19 => ?_)
  · rw [bif_pos h19] at hF
    have q20 := (of_decide_eq_false (not_t h19))
    refine TC.seq ?_
    refine TC.region ?_
    refine TL.op (yq (y_assign ev_c)) rfl rfl rfl ?_
    refine TL.nil ?_
    refine TN.seq ?_
    refine TC.ret ?_
    refine TN.thenR ?_
    subst hF
    exact TN.ret1 rfl (ev_t rfl) (fun w' hw => ⟨rfl, hw⟩)
  · rw [bif_neg h19] at hF
    have q20 := (of_decide_eq_true (not_f h19))
    refine TC.skip ?_
    refine TN.seq ?_
    refine TC.seq ?_
    refine TC.seq ?_
    refine TC.region ?_
    refine TL.op (yq (y_assign ev_c)) rfl rfl rfl ?_
    refine TL.nil ?_
    refine TN.seq ?_
    refine TC.block ?_
    obtain ⟨c21, hc22⟩ : ∃ c, F_laws_eqIntSS_L1 a b ((a.length - 0) + 1) 0 = c := ⟨_, rfl⟩
    rw [hc22] at hF
    refine TC.loop (ι := Nat × Nat) (fun (fu1, i1) => [(0, va), (1, vb), (5, (.int .i64 (i1 : Int)))]) (fun (fu1, i1) => Hp w []) (fun (fu1, i1) => (i1 ≤ a.length) ∧ a.length - i1 < fu1 ∧ F_laws_eqIntSS_L1 a b fu1 i1 = c21) (fun (fu1, i1) => fu1) ((a.length - 0) + 1, 0) ⟨(by first | omega | (simp [-List.getD_eq_getElem?_getD] <;> omega)), (by omega), hc22⟩ ⟨rfl, rfl, rfl, trivial⟩ (fun w hw => hw) ?_
    rintro ⟨fu1, i1⟩ hJ1
    obtain ⟨hi1_0, hmu1, hL1⟩ : (i1 ≤ a.length) ∧ a.length - i1 < fu1 ∧ F_laws_eqIntSS_L1 a b fu1 i1 = c21 := hJ1
    change TC _ _ _ _ (Hp w []) [(0, va), (1, vb), (5, (.int .i64 (i1 : Int)))]
    obtain ⟨mf1, rfl⟩ : ∃ m, fu1 = m + 1 := ⟨fu1 - 1, by omega⟩
    rw [F_laws_eqIntSS_L1_s] at hL1
    refine TC.seq ?_
    refine TC.seq ?_
    refine TC.region ?_
    refine TL.op (yq (y_move (ev_t rfl))) rfl rfl rfl ?_
    refine TL.op (yq (y_move (ev_t rfl))) rfl rfl rfl ?_
    refine TL.op (yq (y_len (ev_t rfl) Try.underlying22 (fun w hw => ((fun w hw => ((rii_arg ha) w hw).1) w hw).ln))) rfl rfl rfl ?_
    refine TL.op (yq (y_lss (ev_t rfl) (ev_t rfl))) rfl rfl rfl ?_
    refine TL.nil ?_
    refine TN.seq ?_
    refine TC.cond (b := decide ((i1 : Int) < (a.length : Int))) (ev_t rfl) (fun h23 => ?_) (fun h23 => ?_)
    · rw [bif_pos h23] at hL1
      have q24 := (of_decide_eq_true h23)
      refine TC.skip ?_
      refine TN.seq ?_
      refine TC.seq ?_
      refine TC.block ?_
      refine TC.seq ?_
      refine TC.regionQ (by kernel_rfl) (by kernel_rfl) dr_hp ?_
      refine TQ.op (yq (y_move (ev_t rfl))) rfl rfl rfl ?_
      refine TQ.op (yq (y_move (ev_t rfl))) rfl rfl rfl ?_
      have hb25 : i1 < a.length := (by first | omega | (simp only [List.length_set, List.length_append, List.length_cons, List.length_nil, List.length_replicate]; omega) | (rw [sortI_length]; simp only [List.length_cons, List.length_nil]; omega))
      refine TQ.op (yq (y_idx (k := i1) (ev_t rfl) (ev_t rfl) (by first | omega | simp) slT_22 (fun w hw => ((rii_arg ha) w hw).1) hb25)) rfl rfl rfl ?_
      have ha26 := ha.row (i := i1) hb25
      refine TQ.op (yq (y_ldA (ev_t rfl) one_25 (rii_arg ha) hb25)) rfl rfl rfl ?_
      refine TQ.op (yq (y_move (ev_t rfl))) rfl rfl rfl ?_
      refine TQ.op (yq (y_move (ev_t rfl))) rfl rfl rfl ?_
      have hb27 : i1 < b.length := (by first | omega | (simp only [List.length_set, List.length_append, List.length_cons, List.length_nil, List.length_replicate]; omega) | (rw [sortI_length]; simp only [List.length_cons, List.length_nil]; omega))
      refine TQ.op (yq (y_idx (k := i1) (ev_t rfl) (ev_t rfl) (by first | omega | simp) slT_22 (fun w hw => ((rii_arg hb) w hw).1) hb27)) rfl rfl rfl ?_
      have ha28 := hb.row (i := i1) hb27
      refine TQ.op (yq (y_ldA (ev_t rfl) one_25 (rii_arg hb) hb27)) rfl rfl rfl ?_
      refine TQ.op (y_call (vs := [(ua.getD i1 undef), (ub.getD i1 undef)]) (v := (.bool (F_laws_eqIntS (a.getD i1 []) (b.getD i1 [])))) en_21 ⟨(ev_t rfl), (ev_t rfl), trivial⟩ (fun w hw => laws_eqIntS_ok w (ua.getD i1 undef) (a.getD i1 []) ((ri_arg ha26) w hw) (ub.getD i1 undef) (b.getD i1 []) ((ri_arg ha28) w hw))) rfl rfl rfl ?_
      refine TQ.op (yq (y_not (ev_t rfl))) rfl rfl rfl ?_
      refine TQ.nil ?_
      refine TN.seq ?_
      refine TC.cond (b := !(F_laws_eqIntS (a.getD i1 []) (b.getD i1 []))) (ev_t rfl) (fun h29 => ?_) (fun h29 => ?_)
      · rw [bif_pos h29] at hL1
        have q30 := (not_t h29)
        refine TC.seq ?_
        refine TC.region ?_
        refine TL.op (yq (y_assign ev_c)) rfl rfl rfl ?_
        refine TL.nil ?_
        refine TN.seq ?_
        refine TC.ret ?_
        refine TN.blockR ?_
        refine TN.thenR ?_
        refine TN.thenR ?_
        rw [← hL1, elim_ret] at hF
        refine TN.blockR ?_
        refine TN.thenR ?_
        subst hF
        exact TN.ret1 rfl (ev_t rfl) (fun w' hw => ⟨rfl, hw⟩)
      · rw [bif_neg h29] at hL1
        have q30 := (not_f h29)
        refine TC.skip ?_
        refine TN.blockN ?_
        refine TN.seq ?_
        refine TC.region ?_
        refine TL.op (yq (y_move (ev_t rfl))) rfl rfl rfl ?_
        refine TL.op (yq (y_add (ev_t rfl) ev_c (by unfold In64; omega))) rfl rfl rfl ?_
        refine TL.op (yq (y_assign (ev_t rfl))) rfl rfl rfl ?_
        refine TL.nil ?_
        exact TN.hand (mf1, (i1 + 1)) ⟨(by first | omega | (simp [-List.getD_eq_getElem?_getD] <;> omega)), (by omega), hL1⟩ (Nat.lt_succ_self _) ⟨rfl, rfl, rfl, trivial⟩ (fun w hw => hw)
    · rw [bif_neg h23] at hL1
      have q24 := (of_decide_eq_false h23)
      refine TC.exit ?_
      refine TN.thenE ?_
      refine TN.thenE ?_
      rw [← hL1, elim_next] at hF
      try dsimp only at hF
      refine TN.blockH ?_
      refine TN.seq ?_
      refine TC.seq ?_
      refine TC.region ?_
      refine TL.op (yq (y_assign ev_c)) rfl rfl rfl ?_
      refine TL.nil ?_
      refine TN.seq ?_
      refine TC.ret ?_
      subst hF
      exact TN.ret1 rfl (ev_t rfl) (fun w' hw => ⟨rfl, hw⟩)

set_option maxRecDepth 4000 in
set_option maxHeartbeats 1000000 in
theorem laws_markIntS_ok (w0 w : World) (fr : List Ck) (va : Value) (a : List Int) (hw : Hp w0 (rowI 3 va a :: fr) w) (k : Int) (hp0 : 0 ≤ k) (hp1 : k + a.length ≤ 4611686018427387904) :
    Calls Try.prog 25 ([va, (.int .i64 k)] : List Value).toArray w (fun e w' => ∃ _i : Unit, e = .returned (.int .i64 ((F_laws_markIntS a k).1)) ∧ Hp w0 (rowI 3 va ((F_laws_markIntS a k).2) :: fr) w') := by
  obtain ⟨rz, hF⟩ : ∃ rz, (F_laws_markIntS a k) = rz := ⟨_, rfl⟩
  rw [hF]
  unfold F_laws_markIntS at hF
  have hlen_a : a.length ≤ 9223372036854775807 := (hw.get 0 rfl).maxn
  refine calls_tcm Try.func25 rfl rfl rfl hw ?_
  change TC _ _ _ _ (Hp w0 ([rowI 3 va a] ++ fr)) [(0, va), (1, (.int .i64 k))]
  refine TC.seq ?_
  refine TC.region ?_
  refine TL.op (yq (y_assign ev_c)) rfl rfl rfl ?_
  refine TL.nil ?_
  refine TN.seq ?_
  refine TC.seq ?_
  refine TC.seq ?_
  refine TC.region ?_
  refine TL.op (yq (y_assign ev_c)) rfl rfl rfl ?_
  refine TL.nil ?_
  refine TN.seq ?_
  refine TC.block ?_
  obtain ⟨c10, hc11⟩ : ∃ c, F_laws_markIntS_L1  ((a.length - 0) + 1) (k, 0, a) = c := ⟨_, rfl⟩
  rw [hc11] at hF
  refine TC.loop (ι := Nat × Int × Nat × List Int) (fun (fu1, k1, i1, a1) => [(0, va), (1, (.int .i64 k1)), (5, (.int .i64 (i1 : Int)))]) (fun (fu1, k1, i1, a1) => Hp w0 ([rowI 3 va a1] ++ fr)) (fun (fu1, k1, i1, a1) => (a1.length = a.length) ∧ (i1 ≤ a.length) ∧ (k1 = k + i1) ∧ a.length - i1 < fu1 ∧ F_laws_markIntS_L1  fu1 (k1, i1, a1) = c10) (fun (fu1, k1, i1, a1) => fu1) ((a.length - 0) + 1, k, 0, a) ⟨(by first | omega | (simp [-List.getD_eq_getElem?_getD] <;> omega)), (by first | omega | (simp [-List.getD_eq_getElem?_getD] <;> omega)), (by first | omega | (simp [-List.getD_eq_getElem?_getD] <;> omega)), (by omega), hc11⟩ ⟨rfl, rfl, rfl, trivial⟩ (fun w hw => hw) ?_
  rintro ⟨fu1, k1, i1, a1⟩ hJ1
  obtain ⟨hi1_0, hi1_1, hi1_2, hmu1, hL1⟩ : (a1.length = a.length) ∧ (i1 ≤ a.length) ∧ (k1 = k + i1) ∧ a.length - i1 < fu1 ∧ F_laws_markIntS_L1  fu1 (k1, i1, a1) = c10 := hJ1
  change TC _ _ _ _ (Hp w0 ([rowI 3 va a1] ++ fr)) [(0, va), (1, (.int .i64 k1)), (5, (.int .i64 (i1 : Int)))]
  obtain ⟨mf1, rfl⟩ : ∃ m, fu1 = m + 1 := ⟨fu1 - 1, by omega⟩
  rw [F_laws_markIntS_L1_s] at hL1
  refine TC.seq ?_
  refine TC.seq ?_
  refine TC.region ?_
  refine TL.op (yq (y_move (ev_t rfl))) rfl rfl rfl ?_
  refine TL.op (yq (y_move (ev_t rfl))) rfl rfl rfl ?_
  refine TL.op (yq (y_len (ev_t rfl) Try.underlying25 (fun w hw => ((ri_row 0 rfl) w hw).ln))) rfl rfl rfl ?_
  refine TL.op (yq (y_lss (ev_t rfl) (ev_t rfl))) rfl rfl rfl ?_
  refine TL.nil ?_
  refine TN.seq ?_
  refine TC.cond (b := decide ((i1 : Int) < (a1.length : Int))) (ev_t rfl) (fun h12 => ?_) (fun h12 => ?_)
  · rw [bif_pos h12] at hL1
    have q13 := (of_decide_eq_true h12)
    refine TC.skip ?_
    refine TN.seq ?_
    refine TC.seq ?_
    refine TC.block ?_
    refine TC.seq ?_
    refine TC.region ?_
    refine TL.op (yq (y_move (ev_t rfl))) rfl rfl rfl ?_
    refine TL.op (yq (y_move (ev_t rfl))) rfl rfl rfl ?_
    refine TL.op (yq (y_move (ev_t rfl))) rfl rfl rfl ?_
    have hb14 : i1 < a1.length := (by first | omega | (simp only [List.length_set, List.length_append, List.length_cons, List.length_nil, List.length_replicate]; omega) | (rw [sortI_length]; simp only [List.length_cons, List.length_nil]; omega))
    refine TL.op (yq (y_idx (k := i1) (ev_t rfl) (ev_t rfl) (by first | omega | simp) slT_25 (ri_row 0 rfl) hb14)) rfl rfl rfl ?_
    refine TL.storeI 0 (ev_t rfl) (ev_t rfl) one_3 rfl hb14 ?_
    refine TL.nil ?_
    refine TN.seq ?_
    refine TC.region ?_
    refine TL.op (yq (y_move (ev_t rfl))) rfl rfl rfl ?_
    refine TL.op (yq (y_add (ev_t rfl) ev_c (by unfold In64; omega))) rfl rfl rfl ?_
    refine TL.op (yq (y_assign (ev_t rfl))) rfl rfl rfl ?_
    refine TL.nil ?_
    refine TN.blockN ?_
    refine TN.seq ?_
    refine TC.region ?_
    refine TL.op (yq (y_move (ev_t rfl))) rfl rfl rfl ?_
    refine TL.op (yq (y_add (ev_t rfl) ev_c (by unfold In64; omega))) rfl rfl rfl ?_
    refine TL.op (yq (y_assign (ev_t rfl))) rfl rfl rfl ?_
    refine TL.nil ?_
    exact TN.hand (mf1, k1 + 1, (i1 + 1), (a1.set i1 k1)) ⟨(by first | omega | (simp [-List.getD_eq_getElem?_getD] <;> omega)), (by first | omega | (simp [-List.getD_eq_getElem?_getD] <;> omega)), (by first | omega | (simp [-List.getD_eq_getElem?_getD] <;> omega)), (by omega), hL1⟩ (Nat.lt_succ_self _) ⟨rfl, rfl, rfl, trivial⟩ (fun w hw => hw)
  · rw [bif_neg h12] at hL1
    have q13 := (of_decide_eq_false h12)
    refine TC.exit ?_
    refine TN.thenE ?_
    refine TN.thenE ?_
    rw [← hL1, elim_next] at hF
    try dsimp only at hF
    refine TN.blockH ?_
    refine TN.seq ?_
    refine TC.seq ?_
    refine TC.region ?_
    refine TL.op (yq (y_move (ev_t rfl))) rfl rfl rfl ?_
    refine TL.op (yq (y_assign (ev_t rfl))) rfl rfl rfl ?_
    refine TL.nil ?_
    refine TN.seq ?_
    refine TC.ret ?_
    subst hF
    exact TN.ret1 rfl (ev_t rfl) (fun w' hw => ⟨(), rfl, hw⟩)

set_option maxRecDepth 4000 in
set_option maxHeartbeats 1000000 in
theorem laws_heldIntS_ok (w : World) (va : Value) (a : List Int) (ha : RI w va a) (k : Int) (hp0 : 0 ≤ k) (hp1 : k + a.length ≤ 4611686018427387904) :
    Calls Try.prog 26 ([va, (.int .i64 k)] : List Value).toArray w (Ret (.int .i64 (F_laws_heldIntS a k)) (Hp w [])) := by
  obtain ⟨rz, hF⟩ : ∃ rz, (F_laws_heldIntS a k) = rz := ⟨_, rfl⟩
  rw [hF]
  unfold F_laws_heldIntS at hF
  have hlen_a := arg_len ha
  refine calls_tc Try.func26 rfl rfl rfl ?_
  change TC _ _ _ _ (Hp w []) [(0, va), (1, (.int .i64 k))]
  refine TC.seq ?_
  refine TC.region ?_
  refine TL.op (yq (y_assign ev_c)) rfl rfl rfl ?_
  refine TL.nil ?_
  refine TN.seq ?_
  refine TC.seq ?_
  refine TC.seq ?_
  refine TC.region ?_
  refine TL.op (yq (y_assign ev_c)) rfl rfl rfl ?_
  refine TL.nil ?_
  refine TN.seq ?_
  refine TC.block ?_
  obtain ⟨c11, hc12⟩ : ∃ c, F_laws_heldIntS_L1 a ((a.length - 0) + 1) (k, 0) = c := ⟨_, rfl⟩
  rw [hc12] at hF
  refine TC.loop (ι := Nat × Int × Nat) (fun (fu1, k1, i1) => [(0, va), (1, (.int .i64 k1)), (5, (.int .i64 (i1 : Int)))]) (fun (fu1, k1, i1) => Hp w []) (fun (fu1, k1, i1) => (i1 ≤ a.length) ∧ (k1 = k + i1) ∧ a.length - i1 < fu1 ∧ F_laws_heldIntS_L1 a fu1 (k1, i1) = c11) (fun (fu1, k1, i1) => fu1) ((a.length - 0) + 1, k, 0) ⟨(by first | omega | (simp [-List.getD_eq_getElem?_getD] <;> omega)), (by first | omega | (simp [-List.getD_eq_getElem?_getD] <;> omega)), (by omega), hc12⟩ ⟨rfl, rfl, rfl, trivial⟩ (fun w hw => hw) ?_
  rintro ⟨fu1, k1, i1⟩ hJ1
  obtain ⟨hi1_0, hi1_1, hmu1, hL1⟩ : (i1 ≤ a.length) ∧ (k1 = k + i1) ∧ a.length - i1 < fu1 ∧ F_laws_heldIntS_L1 a fu1 (k1, i1) = c11 := hJ1
  change TC _ _ _ _ (Hp w []) [(0, va), (1, (.int .i64 k1)), (5, (.int .i64 (i1 : Int)))]
  obtain ⟨mf1, rfl⟩ : ∃ m, fu1 = m + 1 := ⟨fu1 - 1, by omega⟩
  rw [F_laws_heldIntS_L1_s] at hL1
  refine TC.seq ?_
  refine TC.seq ?_
  refine TC.region ?_
  refine TL.op (yq (y_move (ev_t rfl))) rfl rfl rfl ?_
  refine TL.op (yq (y_move (ev_t rfl))) rfl rfl rfl ?_
  refine TL.op (yq (y_len (ev_t rfl) Try.underlying25 (fun w hw => ((ri_arg ha) w hw).ln))) rfl rfl rfl ?_
  refine TL.op (yq (y_lss (ev_t rfl) (ev_t rfl))) rfl rfl rfl ?_
  refine TL.nil ?_
  refine TN.seq ?_
  refine TC.cond (b := decide ((i1 : Int) < (a.length : Int))) (ev_t rfl) (fun h13 => ?_) (fun h13 => ?_)
  · rw [bif_pos h13] at hL1
    have q14 := (of_decide_eq_true h13)
    refine TC.skip ?_
    refine TN.seq ?_
    refine TC.seq ?_
    refine TC.block ?_
    refine TC.seq ?_
    refine TC.seq ?_
    refine TC.region ?_
    refine TL.op (yq (y_move (ev_t rfl))) rfl rfl rfl ?_
    refine TL.op (yq (y_move (ev_t rfl))) rfl rfl rfl ?_
    have hb15 : i1 < a.length := (by first | omega | (simp only [List.length_set, List.length_append, List.length_cons, List.length_nil, List.length_replicate]; omega) | (rw [sortI_length]; simp only [List.length_cons, List.length_nil]; omega))
    refine TL.op (yq (y_idx (k := i1) (ev_t rfl) (ev_t rfl) (by first | omega | simp) slT_25 (ri_arg ha) hb15)) rfl rfl rfl ?_
    refine TL.op (yq (y_ldi (ev_t rfl) one_3 (ri_arg ha) hb15)) rfl rfl rfl ?_
    refine TL.op (yq (y_move (ev_t rfl))) rfl rfl rfl ?_
    refine TL.op (yq (y_neq (ev_t rfl) (ev_t rfl))) rfl rfl rfl ?_
    refine TL.nil ?_
    refine TN.seq ?_
    refine TC.cond (b := !decide ((a.getD i1 0) = k1)) (ev_t rfl) (fun h16 => ?_) (fun h16 => ?_)
    · rw [bif_pos h16] at hL1
      have q17 := (of_decide_eq_false (not_t h16))
      refine TC.seq ?_
      refine TC.region ?_
      refine TL.op (yq (y_assign ev_c)) rfl rfl rfl ?_
      refine TL.nil ?_
      refine TN.seq ?_
      refine TC.ret ?_
      refine TN.thenR ?_
      refine TN.blockR ?_
      refine TN.thenR ?_
      refine TN.thenR ?_
      rw [← hL1, elim_ret] at hF
      refine TN.blockR ?_
      refine TN.thenR ?_
      subst hF
      exact TN.ret1 rfl (ev_t rfl) (fun w' hw => ⟨rfl, hw⟩)
    · rw [bif_neg h16] at hL1
      have q17 := (of_decide_eq_true (not_f h16))
      refine TC.skip ?_
      refine TN.seq ?_
      refine TC.region ?_
      refine TL.op (yq (y_move (ev_t rfl))) rfl rfl rfl ?_
      refine TL.op (yq (y_add (ev_t rfl) ev_c (by unfold In64; omega))) rfl rfl rfl ?_
      refine TL.op (yq (y_assign (ev_t rfl))) rfl rfl rfl ?_
      refine TL.nil ?_
      refine TN.blockN ?_
      refine TN.seq ?_
      refine TC.region ?_
      refine TL.op (yq (y_move (ev_t rfl))) rfl rfl rfl ?_
      refine TL.op (yq (y_add (ev_t rfl) ev_c (by unfold In64; omega))) rfl rfl rfl ?_
      refine TL.op (yq (y_assign (ev_t rfl))) rfl rfl rfl ?_
      refine TL.nil ?_
      exact TN.hand (mf1, k1 + 1, (i1 + 1)) ⟨(by first | omega | (simp [-List.getD_eq_getElem?_getD] <;> omega)), (by first | omega | (simp [-List.getD_eq_getElem?_getD] <;> omega)), (by omega), hL1⟩ (Nat.lt_succ_self _) ⟨rfl, rfl, rfl, trivial⟩ (fun w hw => hw)
  · rw [bif_neg h13] at hL1
    have q14 := (of_decide_eq_false h13)
    refine TC.exit ?_
    refine TN.thenE ?_
    refine TN.thenE ?_
    rw [← hL1, elim_next] at hF
    try dsimp only at hF
    refine TN.blockH ?_
    refine TN.seq ?_
    refine TC.seq ?_
    refine TC.region ?_
    refine TL.op (yq (y_move (ev_t rfl))) rfl rfl rfl ?_
    refine TL.op (yq (y_assign (ev_t rfl))) rfl rfl rfl ?_
    refine TL.nil ?_
    refine TN.seq ?_
    refine TC.ret ?_
    subst hF
    exact TN.ret1 rfl (ev_t rfl) (fun w' hw => ⟨rfl, hw⟩)

set_option maxRecDepth 4000 in
set_option maxHeartbeats 1000000 in
theorem impl_isServers_ok (w : World) (k : Int)  :
    Calls Try.prog 98 ([(.int .i64 k)] : List Value).toArray w (Ret (.bool (F_impl_isServers k)) (Hp w [])) := by
  obtain ⟨rz, hF⟩ : ∃ rz, (F_impl_isServers k) = rz := ⟨_, rfl⟩
  rw [hF]
  unfold F_impl_isServers at hF
  refine calls_tc Try.func98 rfl rfl rfl ?_
  change TC _ _ _ _ (Hp w []) [(0, (.int .i64 k))]
  refine TC.seq ?_
  refine TC.region ?_
  refine TL.op (yq (y_assign ev_c)) rfl rfl rfl ?_
  refine TL.nil ?_
  refine TN.seq ?_
  refine TC.seq ?_
  refine TC.region ?_
  refine TL.op (yq (y_move (ev_t rfl))) rfl rfl rfl ?_
  refine TL.op (y_call (vs := [(.int .i64 k), (.int .i64 1), (.int .i64 3)]) (v := (.bool ((decide (1 ≤ k)) && (decide (k ≤ 3))))) en_78 ⟨(ev_t rfl), ev_c, ev_c, trivial⟩ (fun w hw => impl_within_ok w k 1 3)) rfl rfl rfl ?_
  refine TL.op (yq (y_assign (ev_t rfl))) rfl rfl rfl ?_
  refine TL.nil ?_
  refine TN.seq ?_
  refine TC.ret ?_
  subst hF
  exact TN.ret1 rfl (ev_t rfl) (fun w' hw => ⟨rfl, hw⟩)

set_option maxRecDepth 4000 in
set_option maxHeartbeats 1000000 in
theorem impl_configsOf_ok_R (fr : Nat) : ∀ (w : World) (n : Int) (k : Int) (src : Int) (hp0 : 0 ≤ k) (hp1 : k ≤ 3) (hp2 : 0 ≤ src) (hp3 : n ≤ 6) (hfr : k.toNat < fr),
    Calls Try.prog 99 ([(.int .i64 n), (.int .i64 k), (.int .i64 src)] : List Value).toArray w (fun e w' => ∃ i : Value × List Value, e = .returned i.1 ∧ Hp w [tabI 25 3 i.1 i.2 (F_impl_configsOf_R fr n k src)] w') := by
  induction fr with
  | zero => intro w; intros; omega
  | succ mr ih =>
    intro w n k src hp0 hp1 hp2 hp3 hfr
    obtain ⟨rz, hF⟩ : ∃ rz, (F_impl_configsOf_R (mr + 1) n k src) = rz := ⟨_, rfl⟩
    rw [hF]
    rw [F_impl_configsOf_R_s] at hF
    refine calls_tc Try.func99 rfl rfl rfl ?_
    change TC _ _ _ _ (Hp w []) [(0, (.int .i64 n)), (1, (.int .i64 k)), (2, (.int .i64 src))]
    refine TC.seq ?_
    refine TC.region ?_
    refine TL.op (yq (y_assign ev_c)) rfl rfl rfl ?_
    refine TL.nil ?_
    refine TN.seq ?_
    refine TC.seq ?_
    refine TC.seq ?_
    refine TC.region ?_
    refine TL.op (yq (y_move (ev_t rfl))) rfl rfl rfl ?_
    refine TL.op (yq (y_eql (ev_t rfl) ev_c)) rfl rfl rfl ?_
    refine TL.nil ?_
    refine TN.seq ?_
    refine TC.cond (b := decide (k = 0)) (ev_t rfl) (fun h16 => ?_) (fun h16 => ?_)
    · rw [bif_pos h16] at hF
      have q17 := (of_decide_eq_true h16)
      refine TC.seq ?_
      refine TC.region ?_
      refine TL.buildI (zs := []) (qs := []) slT_25 rfl trivial rfl (by decide) rfl (fun v2_0 => ?_)
      refine TL.buildU slT_22 (ev_t rfl) (fun w hw => ((ri_row 0 rfl) w hw).ln) rfl (fun v2_1 => ?_)
      refine TL.cls (fun w hw => hw.uniTab 0 1 rfl rfl rfl) ?_
      refine TL.op (yq (y_assign (ev_t rfl))) rfl rfl rfl ?_
      refine TL.nil ?_
      refine TN.seq ?_
      refine TC.ret ?_
      refine TN.thenR ?_
      subst hF
      exact TN.ret1 rfl (ev_t rfl) (fun w' hw => ⟨(v2_1, [v2_0]), rfl, Hp.sublist hw (.cons_cons _ (.cons _ .slnil))⟩)
    · rw [bif_neg h16] at hF
      have q17 := (of_decide_eq_false h16)
      refine TC.skip ?_
      refine TN.seq ?_
      refine TC.seq ?_
      refine TC.region ?_
      refine TL.buildSlice (zs := []) (vs := []) slT_22 rfl trivial (by simp) rfl (by decide) rfl (fun v3_0 => ?_)
      refine TL.cls (fun w hw => hw.emptyTab 3) ?_
      refine TL.op (yq (y_assign (ev_t rfl))) rfl rfl rfl ?_
      refine TL.nil ?_
      refine TN.seq ?_
      refine TC.seq ?_
      refine TC.seq ?_
      refine TC.region ?_
      refine TL.op (yq (y_move (ev_t rfl))) rfl rfl rfl ?_
      refine TL.op (yq (y_assign (ev_t rfl))) rfl rfl rfl ?_
      refine TL.nil ?_
      refine TN.seq ?_
      refine TC.block ?_
      obtain ⟨c18, hc19⟩ : ∃ c, F_impl_configsOf_L1 n k (F_impl_configsOf_R mr) (((n - src).toNat) + 1) (([]), src) = c := ⟨_, rfl⟩
      rw [hc19] at hF
      refine TC.loop (ι := Nat × List (List Int) × Int × Value × List Value) (fun (fu1, out1, x1, vout1, uout1) => [(0, (.int .i64 n)), (1, (.int .i64 k)), (7, vout1), (8, (.int .i64 x1))]) (fun (fu1, out1, x1, vout1, uout1) => Hp w [tabI 25 3 vout1 uout1 out1]) (fun (fu1, out1, x1, vout1, uout1) => (src ≤ x1) ∧ (out1.length ≤ 36 * (x1 - src).toNat) ∧ (n - x1).toNat < fu1 ∧ F_impl_configsOf_L1 n k (F_impl_configsOf_R mr) fu1 (out1, x1) = c18) (fun (fu1, out1, x1, vout1, uout1) => fu1) (((n - src).toNat) + 1, [], src, v3_0, []) ⟨(by first | omega | (simp [-List.getD_eq_getElem?_getD] <;> omega)), (by first | omega | (simp [-List.getD_eq_getElem?_getD] <;> omega)), (by omega), hc19⟩ ⟨rfl, rfl, rfl, rfl, trivial⟩ (fun w hw => hw) ?_
      rintro ⟨fu1, out1, x1, vout1, uout1⟩ hJ1
      obtain ⟨hi1_0, hi1_1, hmu1, hL1⟩ : (src ≤ x1) ∧ (out1.length ≤ 36 * (x1 - src).toNat) ∧ (n - x1).toNat < fu1 ∧ F_impl_configsOf_L1 n k (F_impl_configsOf_R mr) fu1 (out1, x1) = c18 := hJ1
      change TC _ _ _ _ (Hp w [tabI 25 3 vout1 uout1 out1]) [(0, (.int .i64 n)), (1, (.int .i64 k)), (7, vout1), (8, (.int .i64 x1))]
      obtain ⟨mf1, rfl⟩ : ∃ m, fu1 = m + 1 := ⟨fu1 - 1, by omega⟩
      rw [F_impl_configsOf_L1_s] at hL1
      refine TC.seq ?_
      refine TC.seq ?_
      refine TC.region ?_
      refine TL.op (yq (y_move (ev_t rfl))) rfl rfl rfl ?_
      refine TL.op (yq (y_move (ev_t rfl))) rfl rfl rfl ?_
      refine TL.op (yq (y_lss (ev_t rfl) (ev_t rfl))) rfl rfl rfl ?_
      refine TL.nil ?_
      refine TN.seq ?_
      refine TC.cond (b := decide (x1 < n)) (ev_t rfl) (fun h20 => ?_) (fun h20 => ?_)
      · rw [bif_pos h20] at hL1
        have q21 := (of_decide_eq_true h20)
        refine TC.skip ?_
        refine TN.seq ?_
        refine TC.seq ?_
        refine TC.block ?_
        refine TC.seq ?_
        refine TC.region ?_
        refine TL.op (yq (y_move (ev_t rfl))) rfl rfl rfl ?_
        refine TL.op (yq (y_move (ev_t rfl))) rfl rfl rfl ?_
        refine TL.op (yq (y_sub (ev_t rfl) ev_c (by unfold In64; omega))) rfl rfl rfl ?_
        refine TL.op (yq (y_move (ev_t rfl))) rfl rfl rfl ?_
        refine TL.callr (ι := Value × List Value) (vs := [(.int .i64 n), (.int .i64 (k - 1)), (.int .i64 x1)]) (fun i => i.1) (fun i => [tabI 25 3 i.1 i.2 ((F_impl_configsOf_R mr) n (k - 1) x1)]) en_99 ⟨(ev_t rfl), (ev_t rfl), (ev_t rfl), trivial⟩ rfl (fun w hw => ih w n (k - 1) x1 (by first | assumption | omega | grind) (by first | assumption | omega | grind) (by first | assumption | omega | grind) (by first | assumption | omega | grind) (by omega)) (fun r7_4 => ?_)
        refine TL.op (yq (y_len (ev_t rfl) Try.underlying22 (fun w hw => ((fun w hw => ((rii_tab 0 rfl) w hw).1) w hw).ln))) rfl rfl rfl ?_
        refine TL.op (yq (y_move ev_c)) rfl rfl rfl ?_
        refine TL.nil ?_
        refine TN.seq ?_
        refine TC.block ?_
        have hrl := len_configsOf mr n (k - 1) x1 (by omega) (by omega) (by omega) (by omega)
        obtain ⟨c22, hc23⟩ : ∃ c, F_impl_configsOf_L2 n k (F_impl_configsOf_R mr) x1 (((((F_impl_configsOf_R mr) n (k - 1) x1).length) - 0) + 1) (out1, 0) = c := ⟨_, rfl⟩
        rw [hc23] at hL1
        refine TC.loop (ι := Nat × List (List Int) × Nat × Value × List Value) (fun (fu2, out2, k28_2, vout2, uout2) => [(0, (.int .i64 n)), (1, (.int .i64 k)), (7, vout2), (8, (.int .i64 x1)), (26, r7_4.1), (27, (.int .i64 (((F_impl_configsOf_R mr) n (k - 1) x1).length : Int))), (28, (.int .i64 (k28_2 : Int)))]) (fun (fu2, out2, k28_2, vout2, uout2) => Hp w [tabI 25 3 r7_4.1 r7_4.2 ((F_impl_configsOf_R mr) n (k - 1) x1), tabI 25 3 vout2 uout2 out2]) (fun (fu2, out2, k28_2, vout2, uout2) => (k28_2 ≤ (((F_impl_configsOf_R mr) n (k - 1) x1).length)) ∧ (out2.length ≤ out1.length + k28_2) ∧ (((F_impl_configsOf_R mr) n (k - 1) x1).length) - k28_2 < fu2 ∧ F_impl_configsOf_L2 n k (F_impl_configsOf_R mr) x1 fu2 (out2, k28_2) = c22) (fun (fu2, out2, k28_2, vout2, uout2) => fu2) (((((F_impl_configsOf_R mr) n (k - 1) x1).length) - 0) + 1, out1, 0, vout1, uout1) ⟨(by first | omega | (simp [-List.getD_eq_getElem?_getD] <;> omega)), (by first | omega | (simp [-List.getD_eq_getElem?_getD] <;> omega)), (by omega), hc23⟩ ⟨rfl, rfl, rfl, rfl, rfl, rfl, rfl, trivial⟩ (fun w hw => hw) ?_
        rintro ⟨fu2, out2, k28_2, vout2, uout2⟩ hJ2
        obtain ⟨hi2_0, hi2_1, hmu2, hL2⟩ : (k28_2 ≤ (((F_impl_configsOf_R mr) n (k - 1) x1).length)) ∧ (out2.length ≤ out1.length + k28_2) ∧ (((F_impl_configsOf_R mr) n (k - 1) x1).length) - k28_2 < fu2 ∧ F_impl_configsOf_L2 n k (F_impl_configsOf_R mr) x1 fu2 (out2, k28_2) = c22 := hJ2
        change TC _ _ _ _ (Hp w [tabI 25 3 r7_4.1 r7_4.2 ((F_impl_configsOf_R mr) n (k - 1) x1), tabI 25 3 vout2 uout2 out2]) [(0, (.int .i64 n)), (1, (.int .i64 k)), (7, vout2), (8, (.int .i64 x1)), (26, r7_4.1), (27, (.int .i64 (((F_impl_configsOf_R mr) n (k - 1) x1).length : Int))), (28, (.int .i64 (k28_2 : Int)))]
        obtain ⟨mf2, rfl⟩ : ∃ m, fu2 = m + 1 := ⟨fu2 - 1, by omega⟩
        rw [F_impl_configsOf_L2_s] at hL2
        have hrow := row_configsOf mr n (k - 1) x1 k28_2 (by omega) (by omega)
        refine TC.seq ?_
        refine TC.region ?_
        refine TL.op (yq (y_lss (ev_t rfl) (ev_t rfl))) rfl rfl rfl ?_
        refine TL.nil ?_
        refine TN.seq ?_
        refine TC.seq ?_
        refine TC.cond (b := decide ((k28_2 : Int) < (((F_impl_configsOf_R mr) n (k - 1) x1).length : Int))) (ev_t rfl) (fun h24 => ?_) (fun h24 => ?_)
        · rw [bif_pos h24] at hL2
          have q25 := (of_decide_eq_true h24)
          refine TC.skip ?_
          refine TN.seq ?_
          refine TC.seq ?_
          refine TC.block ?_
          refine TC.seq ?_
          refine TC.region ?_
          have hb26 : k28_2 < ((F_impl_configsOf_R mr) n (k - 1) x1).length := (by first | omega | (simp only [List.length_set, List.length_append, List.length_cons, List.length_nil, List.length_replicate]; omega) | (rw [sortI_length]; simp only [List.length_cons, List.length_nil]; omega))
          refine TL.op (yq (y_idx (k := k28_2) (ev_t rfl) (ev_t rfl) (by first | omega | simp) slT_22 (fun w hw => ((rii_tab 0 rfl) w hw).1) hb26)) rfl rfl rfl ?_
          refine TL.op (yq (y_ldT 0 (ev_t rfl) one_25 rfl hb26)) rfl rfl rfl ?_
          refine TL.op (yq (y_assign (ev_t rfl))) rfl rfl rfl ?_
          refine TL.nil ?_
          refine TN.seq ?_
          refine TC.region ?_
          refine TL.op (yq (y_move (ev_t rfl))) rfl rfl rfl ?_
          refine TL.op (yq (y_move (ev_t rfl))) rfl rfl rfl ?_
          refine TL.buildI (zs := [.tmp 33]) (qs := [x1]) slT_25 rfl ⟨(ev_t rfl), trivial⟩ rfl (by decide) rfl (fun v10_2 => ?_)
          refine TL.op (yq (y_move (ev_t rfl))) rfl rfl rfl ?_
          refine TL.appendI 0 (ev_t rfl) (ev_t rfl) rfl slT_25 (ri_tab 1 k28_2 rfl hb26) (by first | omega | (simp [-List.getD_eq_getElem?_getD] <;> omega)) rfl (fun v10_4 => ?_)
          refine TL.buildU slT_22 (ev_t rfl) (fun w hw => ((ri_row 0 rfl) w hw).ln) rfl (fun v10_5 => ?_)
          refine TL.appendT 3 1 rfl (ev_t rfl) (ev_t rfl) rfl rfl slT_22 (rd_row 0 rfl) (by first | omega | (simp [-List.getD_eq_getElem?_getD] <;> omega)) rfl (fun v10_6 => ?_)
          refine TL.op (yq (y_assign (ev_t rfl))) rfl rfl rfl ?_
          refine TL.nil ?_
          refine TN.blockN ?_
          refine TN.seq ?_
          refine TC.region ?_
          refine TL.op (yq (y_add (ev_t rfl) ev_c (by unfold In64; omega))) rfl rfl rfl ?_
          refine TL.op (yq (y_move (ev_t rfl))) rfl rfl rfl ?_
          refine TL.nil ?_
          exact TN.hand (mf2, (out2 ++ [([x1] ++ (((F_impl_configsOf_R mr) n (k - 1) x1).getD k28_2 []))]), (k28_2 + 1), v10_6, (uout2 ++ [v10_4])) ⟨(by first | omega | (simp [-List.getD_eq_getElem?_getD] <;> omega)), (by first | omega | (simp [-List.getD_eq_getElem?_getD] <;> omega)), (by omega), hL2⟩ (Nat.lt_succ_self _) ⟨rfl, rfl, rfl, rfl, rfl, rfl, rfl, trivial⟩ (fun w hw => Hp.sublist hw (.cons _ (.cons _ (.cons_cons _ (.cons_cons _ .slnil)))))
        · rw [bif_neg h24] at hL2
          have q25 := (of_decide_eq_false h24)
          refine TC.exit ?_
          refine TN.thenE ?_
          refine TN.thenE ?_
          rw [← hL2, elim_next] at hL1
          try dsimp only at hL1
          refine TN.blockH ?_
          refine TN.blockN ?_
          refine TN.seq ?_
          refine TC.region ?_
          refine TL.op (yq (y_move (ev_t rfl))) rfl rfl rfl ?_
          refine TL.op (yq (y_add (ev_t rfl) ev_c (by unfold In64; omega))) rfl rfl rfl ?_
          refine TL.op (yq (y_assign (ev_t rfl))) rfl rfl rfl ?_
          refine TL.nil ?_
          exact TN.hand (mf1, out2, x1 + 1, vout2, uout2) ⟨(by first | omega | (simp [-List.getD_eq_getElem?_getD] <;> omega)), (by first | omega | (simp [-List.getD_eq_getElem?_getD] <;> omega)), (by omega), hL1⟩ (Nat.lt_succ_self _) ⟨rfl, rfl, rfl, rfl, trivial⟩ (fun w hw => Hp.sublist hw (.cons _ (.cons_cons _ .slnil)))
      · rw [bif_neg h20] at hL1
        have q21 := (of_decide_eq_false h20)
        refine TC.exit ?_
        refine TN.thenE ?_
        refine TN.thenE ?_
        rw [← hL1, elim_next] at hF
        try dsimp only at hF
        refine TN.blockH ?_
        refine TN.seq ?_
        refine TC.seq ?_
        refine TC.region ?_
        refine TL.op (yq (y_move (ev_t rfl))) rfl rfl rfl ?_
        refine TL.op (yq (y_assign (ev_t rfl))) rfl rfl rfl ?_
        refine TL.nil ?_
        refine TN.seq ?_
        refine TC.ret ?_
        subst hF
        exact TN.ret1 rfl (ev_t rfl) (fun w' hw => ⟨(vout1, uout1), rfl, hw⟩)
theorem impl_configsOf_ok (w : World) (n : Int) (k : Int) (src : Int) (hp0 : 0 ≤ k) (hp1 : k ≤ 3) (hp2 : 0 ≤ src) (hp3 : n ≤ 6) :
    Calls Try.prog 99 ([(.int .i64 n), (.int .i64 k), (.int .i64 src)] : List Value).toArray w (fun e w' => ∃ i : Value × List Value, e = .returned i.1 ∧ Hp w [tabI 25 3 i.1 i.2 (F_impl_configsOf n k src)] w') := impl_configsOf_ok_R _ w n k src hp0 hp1 hp2 hp3 (Nat.lt_succ_self _)

set_option maxRecDepth 4000 in
set_option maxHeartbeats 1000000 in
theorem laws_markIntSS_ok (w0 w : World) (fr : List Ck) (va : Value) (ua : List Value) (a : List (List Int)) (hw : Hp w0 (tabI 25 3 va ua a :: fr) w) (k : Int) (hp0 : 0 ≤ k) (hp1 : k + total a ≤ 1000000000) :
    Calls Try.prog 30 ([va, (.int .i64 k)] : List Value).toArray w (fun e w' => ∃ _i : Unit, e = .returned (.int .i64 ((F_laws_markIntSS a k).1)) ∧ Hp w0 (tabI 25 3 va ua ((F_laws_markIntSS a k).2) :: fr) w') := by
  obtain ⟨rz, hF⟩ : ∃ rz, (F_laws_markIntSS a k) = rz := ⟨_, rfl⟩
  rw [hF]
  unfold F_laws_markIntSS at hF
  have htot := totalFrom_zero a
  have hlen_a : a.length ≤ 9223372036854775807 := (hw.get 0 rfl).maxn
  refine calls_tcm Try.func30 rfl rfl rfl hw ?_
  change TC _ _ _ _ (Hp w0 ([tabI 25 3 va ua a] ++ fr)) [(0, va), (1, (.int .i64 k))]
  refine TC.seq ?_
  refine TC.region ?_
  refine TL.op (yq (y_assign ev_c)) rfl rfl rfl ?_
  refine TL.nil ?_
  refine TN.seq ?_
  refine TC.seq ?_
  refine TC.seq ?_
  refine TC.region ?_
  refine TL.op (yq (y_assign ev_c)) rfl rfl rfl ?_
  refine TL.nil ?_
  refine TN.seq ?_
  refine TC.block ?_
  obtain ⟨c10, hc11⟩ : ∃ c, F_laws_markIntSS_L1  ((a.length - 0) + 1) (k, 0, a) = c := ⟨_, rfl⟩
  rw [hc11] at hF
  refine TC.loop (ι := Nat × Int × Nat × List (List Int)) (fun (fu1, k1, i1, a1) => [(0, va), (1, (.int .i64 k1)), (5, (.int .i64 (i1 : Int)))]) (fun (fu1, k1, i1, a1) => Hp w0 ([tabI 25 3 va ua a1] ++ fr)) (fun (fu1, k1, i1, a1) => (a1.length = a.length) ∧ (i1 ≤ a.length) ∧ (0 ≤ k1) ∧ (k1 + totalFrom a i1 ≤ 1000000000) ∧ (∀ j, i1 ≤ j → a1.getD j [] = a.getD j []) ∧ a.length - i1 < fu1 ∧ F_laws_markIntSS_L1  fu1 (k1, i1, a1) = c10) (fun (fu1, k1, i1, a1) => fu1) ((a.length - 0) + 1, k, 0, a) ⟨(by first | omega | (simp [-List.getD_eq_getElem?_getD] <;> omega)), (by first | omega | (simp [-List.getD_eq_getElem?_getD] <;> omega)), (by first | omega | (simp [-List.getD_eq_getElem?_getD] <;> omega)), (by first | omega | (simp [-List.getD_eq_getElem?_getD] <;> omega)), (fun _ _ => rfl), (by omega), hc11⟩ ⟨rfl, rfl, rfl, trivial⟩ (fun w hw => hw) ?_
  rintro ⟨fu1, k1, i1, a1⟩ hJ1
  obtain ⟨hi1_0, hi1_1, hi1_2, hi1_3, hi1_4, hmu1, hL1⟩ : (a1.length = a.length) ∧ (i1 ≤ a.length) ∧ (0 ≤ k1) ∧ (k1 + totalFrom a i1 ≤ 1000000000) ∧ (∀ j, i1 ≤ j → a1.getD j [] = a.getD j []) ∧ a.length - i1 < fu1 ∧ F_laws_markIntSS_L1  fu1 (k1, i1, a1) = c10 := hJ1
  change TC _ _ _ _ (Hp w0 ([tabI 25 3 va ua a1] ++ fr)) [(0, va), (1, (.int .i64 k1)), (5, (.int .i64 (i1 : Int)))]
  obtain ⟨mf1, rfl⟩ : ∃ m, fu1 = m + 1 := ⟨fu1 - 1, by omega⟩
  rw [F_laws_markIntSS_L1_s] at hL1
  have hst := totalFrom_step a i1
  have hg := congrArg List.length (hi1_4 i1 (Nat.le_refl _))
  have hmk := markIntS_fst (a1.getD i1 []) k1
  refine TC.seq ?_
  refine TC.seq ?_
  refine TC.region ?_
  refine TL.op (yq (y_move (ev_t rfl))) rfl rfl rfl ?_
  refine TL.op (yq (y_move (ev_t rfl))) rfl rfl rfl ?_
  refine TL.op (yq (y_len (ev_t rfl) Try.underlying22 (fun w hw => ((fun w hw => ((rii_tab 0 rfl) w hw).1) w hw).ln))) rfl rfl rfl ?_
  refine TL.op (yq (y_lss (ev_t rfl) (ev_t rfl))) rfl rfl rfl ?_
  refine TL.nil ?_
  refine TN.seq ?_
  refine TC.cond (b := decide ((i1 : Int) < (a1.length : Int))) (ev_t rfl) (fun h12 => ?_) (fun h12 => ?_)
  · rw [bif_pos h12] at hL1
    have q13 := (of_decide_eq_true h12)
    refine TC.skip ?_
    refine TN.seq ?_
    refine TC.seq ?_
    refine TC.block ?_
    refine TC.region ?_
    refine TL.op (yq (y_move (ev_t rfl))) rfl rfl rfl ?_
    refine TL.op (yq (y_move (ev_t rfl))) rfl rfl rfl ?_
    have hb14 : i1 < a1.length := (by first | omega | (simp only [List.length_set, List.length_append, List.length_cons, List.length_nil, List.length_replicate]; omega) | (rw [sortI_length]; simp only [List.length_cons, List.length_nil]; omega))
    refine TL.op (yq (y_idx (k := i1) (ev_t rfl) (ev_t rfl) (by first | omega | simp) slT_22 (fun w hw => ((rii_tab 0 rfl) w hw).1) hb14)) rfl rfl rfl ?_
    refine TL.op (yq (y_ldT 0 (ev_t rfl) one_25 rfl hb14)) rfl rfl rfl ?_
    refine TL.op (yq (y_move (ev_t rfl))) rfl rfl rfl ?_
    refine TL.callmT 0 i1 (vs := [(ua.getD i1 undef), (.int .i64 k1)]) (.int .i64 ((F_laws_markIntS (a1.getD i1 []) k1).1)) ((F_laws_markIntS (a1.getD i1 []) k1).2) en_25 ⟨(ev_t rfl), (ev_t rfl), trivial⟩ rfl rfl hb14 (fun w1 fr1 hw => laws_markIntS_ok w0 w1 fr1 (ua.getD i1 undef) (a1.getD i1 []) hw k1 (by first | assumption | omega | grind) (by first | assumption | omega | grind)) ?_
    refine TL.op (yq (y_assign (ev_t rfl))) rfl rfl rfl ?_
    refine TL.nil ?_
    refine TN.blockN ?_
    refine TN.seq ?_
    refine TC.region ?_
    refine TL.op (yq (y_move (ev_t rfl))) rfl rfl rfl ?_
    refine TL.op (yq (y_add (ev_t rfl) ev_c (by unfold In64; omega))) rfl rfl rfl ?_
    refine TL.op (yq (y_assign (ev_t rfl))) rfl rfl rfl ?_
    refine TL.nil ?_
    exact TN.hand (mf1, (F_laws_markIntS (a1.getD i1 []) k1).1, (i1 + 1), (a1.set i1 ((F_laws_markIntS (a1.getD i1 []) k1).2))) ⟨(by first | omega | (simp [-List.getD_eq_getElem?_getD] <;> omega)), (by first | omega | (simp [-List.getD_eq_getElem?_getD] <;> omega)), (by first | omega | (simp [-List.getD_eq_getElem?_getD] <;> omega)), (by first | omega | (simp [-List.getD_eq_getElem?_getD] <;> omega)), (fun j hj => by rw [getD_set_ne _ _ _ _ _ (by omega)]; exact hi1_4 j (by omega)), (by omega), hL1⟩ (Nat.lt_succ_self _) ⟨rfl, rfl, rfl, trivial⟩ (fun w hw => hw)
  · rw [bif_neg h12] at hL1
    have q13 := (of_decide_eq_false h12)
    refine TC.exit ?_
    refine TN.thenE ?_
    refine TN.thenE ?_
    rw [← hL1, elim_next] at hF
    try dsimp only at hF
    refine TN.blockH ?_
    refine TN.seq ?_
    refine TC.seq ?_
    refine TC.region ?_
    refine TL.op (yq (y_move (ev_t rfl))) rfl rfl rfl ?_
    refine TL.op (yq (y_assign (ev_t rfl))) rfl rfl rfl ?_
    refine TL.nil ?_
    refine TN.seq ?_
    refine TC.ret ?_
    subst hF
    exact TN.ret1 rfl (ev_t rfl) (fun w' hw => ⟨(), rfl, hw⟩)

set_option maxRecDepth 4000 in
set_option maxHeartbeats 1000000 in
theorem laws_heldIntSS_ok (w : World) (va : Value) (ua : List Value) (a : List (List Int)) (ha : RII w va ua a) (k : Int) (hp0 : 0 ≤ k) (hp1 : k + total a ≤ 1000000000) :
    Calls Try.prog 31 ([va, (.int .i64 k)] : List Value).toArray w (Ret (.int .i64 (F_laws_heldIntSS a k)) (Hp w [])) := by
  obtain ⟨rz, hF⟩ : ∃ rz, (F_laws_heldIntSS a k) = rz := ⟨_, rfl⟩
  rw [hF]
  unfold F_laws_heldIntSS at hF
  have htot := totalFrom_zero a
  have hlen_a := argT_len ha
  refine calls_tc Try.func31 rfl rfl rfl ?_
  change TC _ _ _ _ (Hp w []) [(0, va), (1, (.int .i64 k))]
  refine TC.seq ?_
  refine TC.region ?_
  refine TL.op (yq (y_assign ev_c)) rfl rfl rfl ?_
  refine TL.nil ?_
  refine TN.seq ?_
  refine TC.seq ?_
  refine TC.seq ?_
  refine TC.region ?_
  refine TL.op (yq (y_assign ev_c)) rfl rfl rfl ?_
  refine TL.nil ?_
  refine TN.seq ?_
  refine TC.block ?_
  obtain ⟨c13, hc14⟩ : ∃ c, F_laws_heldIntSS_L1 a ((a.length - 0) + 1) (k, 0) = c := ⟨_, rfl⟩
  rw [hc14] at hF
  refine TC.loop (ι := Nat × Int × Nat) (fun (fu1, k1, i1) => [(0, va), (1, (.int .i64 k1)), (5, (.int .i64 (i1 : Int)))]) (fun (fu1, k1, i1) => Hp w []) (fun (fu1, k1, i1) => (i1 ≤ a.length) ∧ (0 ≤ k1) ∧ (k1 + totalFrom a i1 ≤ 1000000000) ∧ a.length - i1 < fu1 ∧ F_laws_heldIntSS_L1 a fu1 (k1, i1) = c13) (fun (fu1, k1, i1) => fu1) ((a.length - 0) + 1, k, 0) ⟨(by first | omega | (simp [-List.getD_eq_getElem?_getD] <;> omega)), (by first | omega | (simp [-List.getD_eq_getElem?_getD] <;> omega)), (by first | omega | (simp [-List.getD_eq_getElem?_getD] <;> omega)), (by omega), hc14⟩ ⟨rfl, rfl, rfl, trivial⟩ (fun w hw => hw) ?_
  rintro ⟨fu1, k1, i1⟩ hJ1
  obtain ⟨hi1_0, hi1_1, hi1_2, hmu1, hL1⟩ : (i1 ≤ a.length) ∧ (0 ≤ k1) ∧ (k1 + totalFrom a i1 ≤ 1000000000) ∧ a.length - i1 < fu1 ∧ F_laws_heldIntSS_L1 a fu1 (k1, i1) = c13 := hJ1
  change TC _ _ _ _ (Hp w []) [(0, va), (1, (.int .i64 k1)), (5, (.int .i64 (i1 : Int)))]
  obtain ⟨mf1, rfl⟩ : ∃ m, fu1 = m + 1 := ⟨fu1 - 1, by omega⟩
  rw [F_laws_heldIntSS_L1_s] at hL1
  have hst := totalFrom_step a i1
  have hhd := heldIntS_le (a.getD i1 []) k1
  refine TC.seq ?_
  refine TC.seq ?_
  refine TC.region ?_
  refine TL.op (yq (y_move (ev_t rfl))) rfl rfl rfl ?_
  refine TL.op (yq (y_move (ev_t rfl))) rfl rfl rfl ?_
  refine TL.op (yq (y_len (ev_t rfl) Try.underlying22 (fun w hw => ((fun w hw => ((rii_arg ha) w hw).1) w hw).ln))) rfl rfl rfl ?_
  refine TL.op (yq (y_lss (ev_t rfl) (ev_t rfl))) rfl rfl rfl ?_
  refine TL.nil ?_
  refine TN.seq ?_
  refine TC.cond (b := decide ((i1 : Int) < (a.length : Int))) (ev_t rfl) (fun h15 => ?_) (fun h15 => ?_)
  · rw [bif_pos h15] at hL1
    have q16 := (of_decide_eq_true h15)
    refine TC.skip ?_
    refine TN.seq ?_
    refine TC.seq ?_
    refine TC.block ?_
    refine TC.seq ?_
    refine TC.region ?_
    refine TL.op (yq (y_move (ev_t rfl))) rfl rfl rfl ?_
    refine TL.op (yq (y_move (ev_t rfl))) rfl rfl rfl ?_
    have hb17 : i1 < a.length := (by first | omega | (simp only [List.length_set, List.length_append, List.length_cons, List.length_nil, List.length_replicate]; omega) | (rw [sortI_length]; simp only [List.length_cons, List.length_nil]; omega))
    refine TL.op (yq (y_idx (k := i1) (ev_t rfl) (ev_t rfl) (by first | omega | simp) slT_22 (fun w hw => ((rii_arg ha) w hw).1) hb17)) rfl rfl rfl ?_
    have ha18 := ha.row (i := i1) hb17
    refine TL.op (yq (y_ldA (ev_t rfl) one_25 (rii_arg ha) hb17)) rfl rfl rfl ?_
    refine TL.op (yq (y_move (ev_t rfl))) rfl rfl rfl ?_
    refine TL.op (y_call (vs := [(ua.getD i1 undef), (.int .i64 k1)]) (v := (.int .i64 (F_laws_heldIntS (a.getD i1 []) k1))) en_26 ⟨(ev_t rfl), (ev_t rfl), trivial⟩ (fun w hw => laws_heldIntS_ok w (ua.getD i1 undef) (a.getD i1 []) ((ri_arg ha18) w hw) k1 (by first | assumption | omega | grind) (by first | assumption | omega | grind))) rfl rfl rfl ?_
    refine TL.op (yq (y_assign (ev_t rfl))) rfl rfl rfl ?_
    refine TL.nil ?_
    refine TN.seq ?_
    refine TC.seq ?_
    refine TC.region ?_
    refine TL.op (yq (y_move (ev_t rfl))) rfl rfl rfl ?_
    refine TL.op (yq (y_lss (ev_t rfl) ev_c)) rfl rfl rfl ?_
    refine TL.nil ?_
    refine TN.seq ?_
    refine TC.cond (b := decide ((F_laws_heldIntS (a.getD i1 []) k1) < 0)) (ev_t rfl) (fun h19 => ?_) (fun h19 => ?_)
    · rw [bif_pos h19] at hL1
      have q20 := (of_decide_eq_true h19)
      refine TC.seq ?_
      refine TC.region ?_
      refine TL.op (yq (y_assign ev_c)) rfl rfl rfl ?_
      refine TL.nil ?_
      refine TN.seq ?_
      refine TC.ret ?_
      refine TN.blockR ?_
      refine TN.thenR ?_
      refine TN.thenR ?_
      rw [← hL1, elim_ret] at hF
      refine TN.blockR ?_
      refine TN.thenR ?_
      subst hF
      exact TN.ret1 rfl (ev_t rfl) (fun w' hw => ⟨rfl, hw⟩)
    · rw [bif_neg h19] at hL1
      have q20 := (of_decide_eq_false h19)
      refine TC.skip ?_
      refine TN.blockN ?_
      refine TN.seq ?_
      refine TC.region ?_
      refine TL.op (yq (y_move (ev_t rfl))) rfl rfl rfl ?_
      refine TL.op (yq (y_add (ev_t rfl) ev_c (by unfold In64; omega))) rfl rfl rfl ?_
      refine TL.op (yq (y_assign (ev_t rfl))) rfl rfl rfl ?_
      refine TL.nil ?_
      exact TN.hand (mf1, (F_laws_heldIntS (a.getD i1 []) k1), (i1 + 1)) ⟨(by first | omega | (simp [-List.getD_eq_getElem?_getD] <;> omega)), (by first | omega | (simp [-List.getD_eq_getElem?_getD] <;> omega)), (by first | omega | (simp [-List.getD_eq_getElem?_getD] <;> omega)), (by omega), hL1⟩ (Nat.lt_succ_self _) ⟨rfl, rfl, rfl, trivial⟩ (fun w hw => hw)
  · rw [bif_neg h15] at hL1
    have q16 := (of_decide_eq_false h15)
    refine TC.exit ?_
    refine TN.thenE ?_
    refine TN.thenE ?_
    rw [← hL1, elim_next] at hF
    try dsimp only at hF
    refine TN.blockH ?_
    refine TN.seq ?_
    refine TC.seq ?_
    refine TC.region ?_
    refine TL.op (yq (y_move (ev_t rfl))) rfl rfl rfl ?_
    refine TL.op (yq (y_assign (ev_t rfl))) rfl rfl rfl ?_
    refine TL.nil ?_
    refine TN.seq ?_
    refine TC.ret ?_
    subst hF
    exact TN.ret1 rfl (ev_t rfl) (fun w' hw => ⟨rfl, hw⟩)

set_option maxRecDepth 4000 in
set_option maxHeartbeats 1000000 in
theorem spec_l6Configs_ok (w : World) (n : Int) (k : Int) (hp0 : n ≤ 6) (hp1 : k ≤ 3) :
    Calls Try.prog 54 ([(.int .i64 n), (.int .i64 k)] : List Value).toArray w (fun e w' => ∃ i : Value × List Value, e = .returned i.1 ∧ Hp w [tabI 25 3 i.1 i.2 (F_spec_l6Configs n k)] w') := by
  obtain ⟨rz, hF⟩ : ∃ rz, (F_spec_l6Configs n k) = rz := ⟨_, rfl⟩
  rw [hF]
  unfold F_spec_l6Configs at hF
  refine calls_tc Try.func54 rfl rfl rfl ?_
  change TC _ _ _ _ (Hp w []) [(0, (.int .i64 n)), (1, (.int .i64 k))]
  refine TC.seq ?_
  refine TC.region ?_
  refine TL.op (yq (y_assign ev_c)) rfl rfl rfl ?_
  refine TL.nil ?_
  refine TN.seq ?_
  refine TC.seq ?_
  refine TC.region ?_
  refine TL.buildI (zs := []) (qs := []) slT_25 rfl trivial rfl (by decide) rfl (fun v1_0 => ?_)
  refine TL.buildU slT_22 (ev_t rfl) (fun w hw => ((ri_row 0 rfl) w hw).ln) rfl (fun v1_1 => ?_)
  refine TL.cls (fun w hw => hw.uniTab 0 1 rfl rfl rfl) ?_
  refine TL.op (yq (y_assign (ev_t rfl))) rfl rfl rfl ?_
  refine TL.nil ?_
  refine TN.seq ?_
  refine TC.seq ?_
  refine TC.seq ?_
  refine TC.region ?_
  refine TL.op (yq (y_assign ev_c)) rfl rfl rfl ?_
  refine TL.nil ?_
  refine TN.seq ?_
  refine TC.block ?_
  obtain ⟨c47, hc48⟩ : ∃ c, F_spec_l6Configs_L1 n k ((((k).toNat) - 0) + 1) (([([] : List Int)]), 0) = c := ⟨_, rfl⟩
  rw [hc48] at hF
  refine TC.loop (ι := Nat × List (List Int) × Nat × Value × List Value) (fun (fu1, now1, i1, vnow1, unow1) => [(0, (.int .i64 n)), (1, (.int .i64 k)), (5, vnow1), (6, (.int .i64 (i1 : Int)))]) (fun (fu1, now1, i1, vnow1, unow1) => Hp w [tabI 25 3 vnow1 unow1 now1]) (fun (fu1, now1, i1, vnow1, unow1) => (i1 ≤ ((k).toNat)) ∧ (now1.length ≤ 6 ^ i1) ∧ (Cfg i1 now1) ∧ ((k).toNat) - i1 < fu1 ∧ F_spec_l6Configs_L1 n k fu1 (now1, i1) = c47) (fun (fu1, now1, i1, vnow1, unow1) => fu1) ((((k).toNat) - 0) + 1, [([] : List Int)], 0, v1_1, [v1_0]) ⟨(by first | omega | (simp [-List.getD_eq_getElem?_getD] <;> omega)), (by simp), Cfg.one, (by omega), hc48⟩ ⟨rfl, rfl, rfl, rfl, trivial⟩ (fun w hw => Hp.sublist hw (.cons_cons _ (.cons _ .slnil))) ?_
  rintro ⟨fu1, now1, i1, vnow1, unow1⟩ hJ1
  obtain ⟨hi1_0, hi1_1, hi1_2, hmu1, hL1⟩ : (i1 ≤ ((k).toNat)) ∧ (now1.length ≤ 6 ^ i1) ∧ (Cfg i1 now1) ∧ ((k).toNat) - i1 < fu1 ∧ F_spec_l6Configs_L1 n k fu1 (now1, i1) = c47 := hJ1
  change TC _ _ _ _ (Hp w [tabI 25 3 vnow1 unow1 now1]) [(0, (.int .i64 n)), (1, (.int .i64 k)), (5, vnow1), (6, (.int .i64 (i1 : Int)))]
  obtain ⟨mf1, rfl⟩ : ∃ m, fu1 = m + 1 := ⟨fu1 - 1, by omega⟩
  rw [F_spec_l6Configs_L1_s] at hL1
  have hpw : 6 ^ i1 ≤ 6 ^ 3 := Nat.pow_le_pow_right (by decide) (by omega)
  refine TC.seq ?_
  refine TC.seq ?_
  refine TC.region ?_
  refine TL.op (yq (y_move (ev_t rfl))) rfl rfl rfl ?_
  refine TL.op (yq (y_move (ev_t rfl))) rfl rfl rfl ?_
  refine TL.op (yq (y_lss (ev_t rfl) (ev_t rfl))) rfl rfl rfl ?_
  refine TL.nil ?_
  refine TN.seq ?_
  refine TC.cond (b := decide ((i1 : Int) < k)) (ev_t rfl) (fun h49 => ?_) (fun h49 => ?_)
  · rw [bif_pos h49] at hL1
    have q50 := (of_decide_eq_true h49)
    refine TC.skip ?_
    refine TN.seq ?_
    refine TC.seq ?_
    refine TC.block ?_
    refine TC.seq ?_
    refine TC.region ?_
    refine TL.buildSlice (zs := []) (vs := []) slT_22 rfl trivial (by simp) rfl (by decide) rfl (fun v5_0 => ?_)
    refine TL.cls (fun w hw => hw.emptyTab 3) ?_
    refine TL.op (yq (y_assign (ev_t rfl))) rfl rfl rfl ?_
    refine TL.nil ?_
    refine TN.seq ?_
    refine TC.seq ?_
    refine TC.seq ?_
    refine TC.region ?_
    refine TL.op (yq (y_assign ev_c)) rfl rfl rfl ?_
    refine TL.nil ?_
    refine TN.seq ?_
    refine TC.block ?_
    obtain ⟨c51, hc52⟩ : ∃ c, F_spec_l6Configs_L2 n now1 i1 ((now1.length - 0) + 1) (([]), 0) = c := ⟨_, rfl⟩
    rw [hc52] at hL1
    refine TC.loop (ι := Nat × List (List Int) × Nat × Value × List Value) (fun (fu2, next2, j2, vnext2, unext2) => [(0, (.int .i64 n)), (1, (.int .i64 k)), (5, vnow1), (6, (.int .i64 (i1 : Int))), (7, vnext2), (8, (.int .i64 (j2 : Int)))]) (fun (fu2, next2, j2, vnext2, unext2) => Hp w [tabI 25 3 vnext2 unext2 next2, tabI 25 3 vnow1 unow1 now1]) (fun (fu2, next2, j2, vnext2, unext2) => (j2 ≤ now1.length) ∧ (next2.length ≤ 6 * j2) ∧ (Cfg (i1 + 1) next2) ∧ now1.length - j2 < fu2 ∧ F_spec_l6Configs_L2 n now1 i1 fu2 (next2, j2) = c51) (fun (fu2, next2, j2, vnext2, unext2) => fu2) ((now1.length - 0) + 1, [], 0, v5_0, []) ⟨(by first | omega | (simp [-List.getD_eq_getElem?_getD] <;> omega)), (by first | omega | (simp [-List.getD_eq_getElem?_getD] <;> omega)), (Cfg.nil _), (by omega), hc52⟩ ⟨rfl, rfl, rfl, rfl, rfl, rfl, trivial⟩ (fun w hw => hw) ?_
    rintro ⟨fu2, next2, j2, vnext2, unext2⟩ hJ2
    obtain ⟨hi2_0, hi2_1, hi2_2, hmu2, hL2⟩ : (j2 ≤ now1.length) ∧ (next2.length ≤ 6 * j2) ∧ (Cfg (i1 + 1) next2) ∧ now1.length - j2 < fu2 ∧ F_spec_l6Configs_L2 n now1 i1 fu2 (next2, j2) = c51 := hJ2
    change TC _ _ _ _ (Hp w [tabI 25 3 vnext2 unext2 next2, tabI 25 3 vnow1 unow1 now1]) [(0, (.int .i64 n)), (1, (.int .i64 k)), (5, vnow1), (6, (.int .i64 (i1 : Int))), (7, vnext2), (8, (.int .i64 (j2 : Int)))]
    obtain ⟨mf2, rfl⟩ : ∃ m, fu2 = m + 1 := ⟨fu2 - 1, by omega⟩
    rw [F_spec_l6Configs_L2_s] at hL2
    refine TC.seq ?_
    refine TC.seq ?_
    refine TC.region ?_
    refine TL.op (yq (y_move (ev_t rfl))) rfl rfl rfl ?_
    refine TL.op (yq (y_move (ev_t rfl))) rfl rfl rfl ?_
    refine TL.op (yq (y_len (ev_t rfl) Try.underlying22 (fun w hw => ((fun w hw => ((rii_tab 1 rfl) w hw).1) w hw).ln))) rfl rfl rfl ?_
    refine TL.op (yq (y_lss (ev_t rfl) (ev_t rfl))) rfl rfl rfl ?_
    refine TL.nil ?_
    refine TN.seq ?_
    refine TC.cond (b := decide ((j2 : Int) < (now1.length : Int))) (ev_t rfl) (fun h53 => ?_) (fun h53 => ?_)
    · rw [bif_pos h53] at hL2
      have q54 := (of_decide_eq_true h53)
      refine TC.skip ?_
      refine TN.seq ?_
      refine TC.seq ?_
      refine TC.block ?_
      refine TC.seq ?_
      refine TC.region ?_
      refine TL.op (yq (y_assign ev_c)) rfl rfl rfl ?_
      refine TL.nil ?_
      refine TN.seq ?_
      have hcp := hi1_2.pos j2 (((i1 : Int) - 1).toNat)
      have hcl := hi1_2.len (j := j2) (by omega)
      obtain ⟨c59, hcj10⟩ : ∃ c, ((bif decide (0 < (i1 : Int)) then (Ctl.next ((now1.getD j2 []).getD (((i1 : Int) - 1).toNat) 0)) else (Ctl.next 0)) : Ctl (Int) (List (List Int))) = c := ⟨_, rfl⟩
      rw [hcj10] at hL2
      refine TC.cut (fun a' w' => ∃ fromj10 : Int, Slots 55 [(0, (.int .i64 n)), (1, (.int .i64 k)), (5, vnow1), (6, (.int .i64 (i1 : Int))), (7, vnext2), (8, (.int .i64 (j2 : Int))), (9, (.int .i64 fromj10))] a' ∧ Hp w [tabI 25 3 vnext2 unext2 next2, tabI 25 3 vnow1 unow1 now1] w' ∧ (Ctl.next fromj10 : Ctl (Int) (List (List Int))) = c59 ∧ (0 ≤ fromj10)) ?_ ?_
      · refine TC.seq ?_
        refine TC.region ?_
        refine TL.op (yq (y_move (ev_t rfl))) rfl rfl rfl ?_
        refine TL.op (yq (y_gtr (ev_t rfl) ev_c)) rfl rfl rfl ?_
        refine TL.nil ?_
        refine TN.seq ?_
        refine TC.cond (b := decide (0 < (i1 : Int))) (ev_t rfl) (fun h60 => ?_) (fun h60 => ?_)
        · rw [bif_pos h60] at hcj10
          have q61 := (of_decide_eq_true h60)
          refine TC.region ?_
          refine TL.op (yq (y_move (ev_t rfl))) rfl rfl rfl ?_
          refine TL.op (yq (y_move (ev_t rfl))) rfl rfl rfl ?_
          have hb62 : j2 < now1.length := (by first | omega | (simp only [List.length_set, List.length_append, List.length_cons, List.length_nil, List.length_replicate]; omega) | (rw [sortI_length]; simp only [List.length_cons, List.length_nil]; omega))
          refine TL.op (yq (y_idx (k := j2) (ev_t rfl) (ev_t rfl) (by first | omega | simp) slT_22 (fun w hw => ((rii_tab 1 rfl) w hw).1) hb62)) rfl rfl rfl ?_
          refine TL.op (yq (y_ldT 1 (ev_t rfl) one_25 rfl hb62)) rfl rfl rfl ?_
          refine TL.op (yq (y_move (ev_t rfl))) rfl rfl rfl ?_
          refine TL.op (yq (y_sub (ev_t rfl) ev_c (by unfold In64; omega))) rfl rfl rfl ?_
          have hb63 : ((i1 : Int) - 1).toNat < (now1.getD j2 []).length := (by first | omega | (simp only [List.length_set, List.length_append, List.length_cons, List.length_nil, List.length_replicate]; omega) | (rw [sortI_length]; simp only [List.length_cons, List.length_nil]; omega))
          refine TL.op (yq (y_idx (k := ((i1 : Int) - 1).toNat) (ev_t rfl) (ev_t rfl) (by first | omega | simp) slT_25 (ri_tab 1 j2 rfl hb62) hb63)) rfl rfl rfl ?_
          refine TL.op (yq (y_ldi (ev_t rfl) one_3 (ri_tab 1 j2 rfl hb62) hb63)) rfl rfl rfl ?_
          refine TL.op (yq (y_assign (ev_t rfl))) rfl rfl rfl ?_
          refine TL.nil ?_
          exact fun a' w' hs hw => ⟨((now1.getD j2 []).getD (((i1 : Int) - 1).toNat) 0), hs.sub ⟨rfl, rfl, rfl, rfl, rfl, rfl, rfl, trivial⟩, hw, hcj10, (by first | omega | (simp [-List.getD_eq_getElem?_getD] <;> omega))⟩
        · rw [bif_neg h60] at hcj10
          have q61 := (of_decide_eq_false h60)
          refine TC.skip ?_
          exact fun a' w' hs hw => ⟨0, hs.sub ⟨rfl, rfl, rfl, rfl, rfl, rfl, rfl, trivial⟩, hw, hcj10, (by first | omega | (simp [-List.getD_eq_getElem?_getD] <;> omega))⟩
      · rintro a' w' ⟨fromj10, hs', hw', hdj10, hij10_0⟩
        rw [← hdj10, elim_next] at hL2
        try dsimp only at hL2
        refine (?_ : TC _ _ _ 55 (Hp w [tabI 25 3 vnext2 unext2 next2, tabI 25 3 vnow1 unow1 now1]) [(0, (.int .i64 n)), (1, (.int .i64 k)), (5, vnow1), (6, (.int .i64 (i1 : Int))), (7, vnext2), (8, (.int .i64 (j2 : Int))), (9, (.int .i64 fromj10))]) a' w' hs' hw'
        clear hs' hw' hcj10
        refine TC.seq ?_
        refine TC.region ?_
        refine TL.op (yq (y_move (ev_t rfl))) rfl rfl rfl ?_
        refine TL.op (yq (y_assign (ev_t rfl))) rfl rfl rfl ?_
        refine TL.nil ?_
        refine TN.seq ?_
        refine TC.block ?_
        have hcl := hi1_2.len (j := j2) (by omega)
        obtain ⟨c64, hc65⟩ : ∃ c, F_spec_l6Configs_L3 n now1 j2 (((n - fromj10).toNat) + 1) (next2, fromj10) = c := ⟨_, rfl⟩
        rw [hc65] at hL2
        refine TC.loop (ι := Nat × List (List Int) × Int × Value × List Value) (fun (fu3, next3, x3, vnext3, unext3) => [(0, (.int .i64 n)), (1, (.int .i64 k)), (5, vnow1), (6, (.int .i64 (i1 : Int))), (7, vnext3), (8, (.int .i64 (j2 : Int))), (10, (.int .i64 x3))]) (fun (fu3, next3, x3, vnext3, unext3) => Hp w [tabI 25 3 vnext3 unext3 next3, tabI 25 3 vnow1 unow1 now1]) (fun (fu3, next3, x3, vnext3, unext3) => (0 ≤ x3) ∧ (next3.length ≤ next2.length + (x3 - fromj10).toNat) ∧ (Cfg (i1 + 1) next3) ∧ (fromj10 ≤ x3) ∧ (x3 ≤ 6 ∨ x3 = fromj10) ∧ (n - x3).toNat < fu3 ∧ F_spec_l6Configs_L3 n now1 j2 fu3 (next3, x3) = c64) (fun (fu3, next3, x3, vnext3, unext3) => fu3) (((n - fromj10).toNat) + 1, next2, fromj10, vnext2, unext2) ⟨(by first | omega | (simp [-List.getD_eq_getElem?_getD] <;> omega)), (by first | omega | (simp [-List.getD_eq_getElem?_getD] <;> omega)), hi2_2, (by first | omega | (simp [-List.getD_eq_getElem?_getD] <;> omega)), (by first | omega | (simp [-List.getD_eq_getElem?_getD] <;> omega)), (by omega), hc65⟩ ⟨rfl, rfl, rfl, rfl, rfl, rfl, rfl, trivial⟩ (fun w hw => hw) ?_
        rintro ⟨fu3, next3, x3, vnext3, unext3⟩ hJ3
        obtain ⟨hi3_0, hi3_1, hi3_2, hi3_3, hi3_4, hmu3, hL3⟩ : (0 ≤ x3) ∧ (next3.length ≤ next2.length + (x3 - fromj10).toNat) ∧ (Cfg (i1 + 1) next3) ∧ (fromj10 ≤ x3) ∧ (x3 ≤ 6 ∨ x3 = fromj10) ∧ (n - x3).toNat < fu3 ∧ F_spec_l6Configs_L3 n now1 j2 fu3 (next3, x3) = c64 := hJ3
        change TC _ _ _ _ (Hp w [tabI 25 3 vnext3 unext3 next3, tabI 25 3 vnow1 unow1 now1]) [(0, (.int .i64 n)), (1, (.int .i64 k)), (5, vnow1), (6, (.int .i64 (i1 : Int))), (7, vnext3), (8, (.int .i64 (j2 : Int))), (10, (.int .i64 x3))]
        obtain ⟨mf3, rfl⟩ : ∃ m, fu3 = m + 1 := ⟨fu3 - 1, by omega⟩
        rw [F_spec_l6Configs_L3_s] at hL3
        refine TC.seq ?_
        refine TC.seq ?_
        refine TC.region ?_
        refine TL.op (yq (y_move (ev_t rfl))) rfl rfl rfl ?_
        refine TL.op (yq (y_move (ev_t rfl))) rfl rfl rfl ?_
        refine TL.op (yq (y_lss (ev_t rfl) (ev_t rfl))) rfl rfl rfl ?_
        refine TL.nil ?_
        refine TN.seq ?_
        refine TC.cond (b := decide (x3 < n)) (ev_t rfl) (fun h66 => ?_) (fun h66 => ?_)
        · rw [bif_pos h66] at hL3
          have q67 := (of_decide_eq_true h66)
          refine TC.skip ?_
          refine TN.seq ?_
          refine TC.seq ?_
          refine TC.block ?_
          refine TC.region ?_
          refine TL.op (yq (y_move (ev_t rfl))) rfl rfl rfl ?_
          refine TL.buildI (zs := []) (qs := []) slT_25 rfl trivial rfl (by decide) rfl (fun v15_1 => ?_)
          refine TL.op (yq (y_move (ev_t rfl))) rfl rfl rfl ?_
          refine TL.op (yq (y_move (ev_t rfl))) rfl rfl rfl ?_
          have hb68 : j2 < now1.length := (by first | omega | (simp only [List.length_set, List.length_append, List.length_cons, List.length_nil, List.length_replicate]; omega) | (rw [sortI_length]; simp only [List.length_cons, List.length_nil]; omega))
          refine TL.op (yq (y_idx (k := j2) (ev_t rfl) (ev_t rfl) (by first | omega | simp) slT_22 (fun w hw => ((rii_tab 2 rfl) w hw).1) hb68)) rfl rfl rfl ?_
          refine TL.op (yq (y_ldT 2 (ev_t rfl) one_25 rfl hb68)) rfl rfl rfl ?_
          refine TL.appendI 0 (ev_t rfl) (ev_t rfl) rfl slT_25 (ri_tab 2 j2 rfl hb68) (by first | omega | (simp [-List.getD_eq_getElem?_getD] <;> omega)) rfl (fun v15_6 => ?_)
          refine TL.op (yq (y_move (ev_t rfl))) rfl rfl rfl ?_
          refine TL.buildI (zs := [.tmp 48]) (qs := [x3]) slT_25 rfl ⟨(ev_t rfl), trivial⟩ rfl (by decide) rfl (fun v15_8 => ?_)
          refine TL.appendI 1 (ev_t rfl) (ev_t rfl) rfl slT_25 (ri_row 0 rfl) (by first | omega | (simp [-List.getD_eq_getElem?_getD] <;> omega)) rfl (fun v15_9 => ?_)
          refine TL.buildU slT_22 (ev_t rfl) (fun w hw => ((ri_row 1 rfl) w hw).ln) rfl (fun v15_10 => ?_)
          refine TL.appendT 3 2 rfl (ev_t rfl) (ev_t rfl) rfl rfl slT_22 (rd_row 0 rfl) (by first | omega | (simp [-List.getD_eq_getElem?_getD] <;> omega)) rfl (fun v15_11 => ?_)
          refine TL.op (yq (y_assign (ev_t rfl))) rfl rfl rfl ?_
          refine TL.nil ?_
          refine TN.blockN ?_
          refine TN.seq ?_
          refine TC.region ?_
          refine TL.op (yq (y_move (ev_t rfl))) rfl rfl rfl ?_
          refine TL.op (yq (y_add (ev_t rfl) ev_c (by unfold In64; omega))) rfl rfl rfl ?_
          refine TL.op (yq (y_assign (ev_t rfl))) rfl rfl rfl ?_
          refine TL.nil ?_
          exact TN.hand (mf3, (next3 ++ [((([] : List Int) ++ (now1.getD j2 [])) ++ ([x3]))]), x3 + 1, v15_11, (unext3 ++ [v15_9])) ⟨(by first | omega | (simp [-List.getD_eq_getElem?_getD] <;> omega)), (by first | omega | (simp [-List.getD_eq_getElem?_getD] <;> omega)), (hi1_2.push hi3_2 (by omega) hi3_0), (by first | omega | (simp [-List.getD_eq_getElem?_getD] <;> omega)), (by first | omega | (simp [-List.getD_eq_getElem?_getD] <;> omega)), (by omega), hL3⟩ (Nat.lt_succ_self _) ⟨rfl, rfl, rfl, rfl, rfl, rfl, rfl, trivial⟩ (fun w hw => Hp.sublist hw (.cons _ (.cons _ (.cons _ (.cons_cons _ (.cons_cons _ .slnil))))))
        · rw [bif_neg h66] at hL3
          have q67 := (of_decide_eq_false h66)
          refine TC.exit ?_
          refine TN.thenE ?_
          refine TN.thenE ?_
          rw [← hL3, elim_next] at hL2
          try dsimp only at hL2
          refine TN.blockH ?_
          refine TN.blockN ?_
          refine TN.seq ?_
          refine TC.region ?_
          refine TL.op (yq (y_move (ev_t rfl))) rfl rfl rfl ?_
          refine TL.op (yq (y_add (ev_t rfl) ev_c (by unfold In64; omega))) rfl rfl rfl ?_
          refine TL.op (yq (y_assign (ev_t rfl))) rfl rfl rfl ?_
          refine TL.nil ?_
          exact TN.hand (mf2, next3, (j2 + 1), vnext3, unext3) ⟨(by first | omega | (simp [-List.getD_eq_getElem?_getD] <;> omega)), (by first | omega | (simp [-List.getD_eq_getElem?_getD] <;> omega)), hi3_2, (by omega), hL2⟩ (Nat.lt_succ_self _) ⟨rfl, rfl, rfl, rfl, rfl, rfl, trivial⟩ (fun w hw => hw)
    · rw [bif_neg h53] at hL2
      have q54 := (of_decide_eq_false h53)
      refine TC.exit ?_
      refine TN.thenE ?_
      refine TN.thenE ?_
      rw [← hL2, elim_next] at hL1
      try dsimp only at hL1
      refine TN.blockH ?_
      refine TN.seq ?_
      refine TC.region ?_
      refine TL.op (yq (y_move (ev_t rfl))) rfl rfl rfl ?_
      refine TL.op (yq (y_assign (ev_t rfl))) rfl rfl rfl ?_
      refine TL.nil ?_
      refine TN.blockN ?_
      refine TN.seq ?_
      refine TC.region ?_
      refine TL.op (yq (y_move (ev_t rfl))) rfl rfl rfl ?_
      refine TL.op (yq (y_add (ev_t rfl) ev_c (by unfold In64; omega))) rfl rfl rfl ?_
      refine TL.op (yq (y_assign (ev_t rfl))) rfl rfl rfl ?_
      refine TL.nil ?_
      exact TN.hand (mf1, next2, (i1 + 1), vnext2, unext2) ⟨(by first | omega | (simp [-List.getD_eq_getElem?_getD] <;> omega)), (by rw [Nat.pow_succ]; omega), hi2_2, (by omega), hL1⟩ (Nat.lt_succ_self _) ⟨rfl, rfl, rfl, rfl, trivial⟩ (fun w hw => Hp.sublist hw (.cons_cons _ (.cons _ .slnil)))
  · rw [bif_neg h49] at hL1
    have q50 := (of_decide_eq_false h49)
    refine TC.exit ?_
    refine TN.thenE ?_
    refine TN.thenE ?_
    rw [← hL1, elim_next] at hF
    try dsimp only at hF
    refine TN.blockH ?_
    refine TN.seq ?_
    refine TC.seq ?_
    refine TC.region ?_
    refine TL.op (yq (y_move (ev_t rfl))) rfl rfl rfl ?_
    refine TL.op (yq (y_assign (ev_t rfl))) rfl rfl rfl ?_
    refine TL.nil ?_
    refine TN.seq ?_
    refine TC.ret ?_
    subst hF
    exact TN.ret1 rfl (ev_t rfl) (fun w' hw => ⟨(vnow1, unow1), rfl, hw⟩)


end Go.Proofs.Ytilmadapmcnlgaa
