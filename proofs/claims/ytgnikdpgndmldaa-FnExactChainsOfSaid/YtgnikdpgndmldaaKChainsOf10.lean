/-
  Part of a proof: rules of the walk, plain functions and their laws, walks. No condition.
-/
import Derived.Test.YtgnikdpgndmldaaKChainsOf9
namespace Go.Proofs.Ytgnikdpgndmldaa
set_option linter.unusedVariables false
set_option linter.unusedSimpArgs false
open Go Go.RowKit
set_option linter.unusedVariables false

set_option maxRecDepth 4000 in
set_option maxHeartbeats 1000000 in
theorem spec_l1Has_ok (w : World) (vl : Value) (l : List Int) (hl : RI w vl l) (n : Int)  :
    Calls Try.prog 32 ([vl, (.int .i64 n)] : List Value).toArray w (Ret (.bool (F_spec_l1Has l n)) (Hp w [])) := by
  obtain ⟨rz, hF⟩ : ∃ rz, (F_spec_l1Has l n) = rz := ⟨_, rfl⟩
  rw [hF]
  unfold F_spec_l1Has at hF
  have hlen_l := arg_len hl
  refine calls_tc Try.func32 rfl rfl rfl ?_
  change TC _ _ _ _ (Hp w []) [(0, vl), (1, (.int .i64 n))]
  refine TC.seq ?_
  refine TC.region ?_
  refine TL.op (yq (y_assign ev_c)) rfl rfl rfl ?_
  refine TL.nil ?_
  refine TN.seq ?_
  refine TC.seq ?_
  refine TC.seq ?_
  refine TC.region ?_
  refine TL.op (yq (y_assign ev_c)) rfl rfl rfl ?_
  refine TL.nil ?_
  refine TN.seq ?_
  refine TC.block ?_
  obtain ⟨c11, hc12⟩ : ∃ c, F_spec_l1Has_L1 l n ((l.length - 0) + 1) 0 = c := ⟨_, rfl⟩
  rw [hc12] at hF
  refine TC.loop (ι := Nat × Nat) (fun (fu1, i1) => [(0, vl), (1, (.int .i64 n)), (5, (.int .i64 (i1 : Int)))]) (fun (fu1, i1) => Hp w []) (fun (fu1, i1) => (i1 ≤ l.length) ∧ l.length - i1 < fu1 ∧ F_spec_l1Has_L1 l n fu1 i1 = c11) (fun (fu1, i1) => fu1) ((l.length - 0) + 1, 0) ⟨(by first | omega | (simp [-List.getD_eq_getElem?_getD] <;> omega)), (by omega), hc12⟩ ⟨rfl, rfl, rfl, trivial⟩ (fun w hw => hw) ?_
  rintro ⟨fu1, i1⟩ hJ1
  obtain ⟨hi1_0, hmu1, hL1⟩ : (i1 ≤ l.length) ∧ l.length - i1 < fu1 ∧ F_spec_l1Has_L1 l n fu1 i1 = c11 := hJ1
  change TC _ _ _ _ (Hp w []) [(0, vl), (1, (.int .i64 n)), (5, (.int .i64 (i1 : Int)))]
  obtain ⟨mf1, rfl⟩ : ∃ m, fu1 = m + 1 := ⟨fu1 - 1, by omega⟩
  rw [F_spec_l1Has_L1_s] at hL1
  refine TC.seq ?_
  refine TC.seq ?_
  refine TC.region ?_
  refine TL.op (yq (y_move (ev_t rfl))) rfl rfl rfl ?_
  refine TL.op (yq (y_move (ev_t rfl))) rfl rfl rfl ?_
  refine TL.op (yq (y_len (ev_t rfl) Try.underlying25 (fun w hw => ((ri_arg hl) w hw).ln))) rfl rfl rfl ?_
  refine TL.op (yq (y_lss (ev_t rfl) (ev_t rfl))) rfl rfl rfl ?_
  refine TL.nil ?_
  refine TN.seq ?_
  refine TC.cond (b := decide ((i1 : Int) < (l.length : Int))) (ev_t rfl) (fun h13 => ?_) (fun h13 => ?_)
  · rw [bif_pos h13] at hL1
    have q14 := (of_decide_eq_true h13)
    refine TC.skip ?_
    refine TN.seq ?_
    refine TC.seq ?_
    refine TC.block ?_
    refine TC.seq ?_
    refine TC.region ?_
    refine TL.op (yq (y_move (ev_t rfl))) rfl rfl rfl ?_
    refine TL.op (yq (y_move (ev_t rfl))) rfl rfl rfl ?_
    have hb15 : i1 < l.length := (by first | omega | (simp only [List.length_set, List.length_append, List.length_cons, List.length_nil, List.length_replicate]; omega) | (rw [sortI_length]; simp only [List.length_cons, List.length_nil]; omega) | (simp only [ByteArray.size_append]; omega))
    refine TL.op (yq (y_idx (k := i1) (ev_t rfl) (ev_t rfl) (by first | omega | simp) slT_25 (ri_arg hl) hb15)) rfl rfl rfl ?_
    refine TL.op (yq (y_ldi (ev_t rfl) one_3 (ri_arg hl) hb15)) rfl rfl rfl ?_
    refine TL.op (yq (y_move (ev_t rfl))) rfl rfl rfl ?_
    refine TL.op (yq (y_eql (ev_t rfl) (ev_t rfl))) rfl rfl rfl ?_
    refine TL.nil ?_
    refine TN.seq ?_
    refine TC.cond (b := decide ((l.getD i1 0) = n)) (ev_t rfl) (fun h16 => ?_) (fun h16 => ?_)
    · rw [bif_pos h16] at hL1
      have q17 := (of_decide_eq_true h16)
      refine TC.seq ?_
      refine TC.region ?_
      refine TL.op (yq (y_assign ev_c)) rfl rfl rfl ?_
      refine TL.nil ?_
      refine TN.seq ?_
      refine TC.ret ?_
      refine TN.blockR ?_
      refine TN.thenR ?_
      refine TN.thenR ?_
      rw [← hL1, elim_ret] at hF
      refine TN.blockR ?_
      refine TN.thenR ?_
      subst hF
      exact TN.ret1 rfl (ev_t rfl) (fun w' hw => ⟨rfl, hw⟩)
    · rw [bif_neg h16] at hL1
      have q17 := (of_decide_eq_false h16)
      refine TC.skip ?_
      refine TN.blockN ?_
      refine TN.seq ?_
      refine TC.region ?_
      refine TL.op (yq (y_move (ev_t rfl))) rfl rfl rfl ?_
      refine TL.op (yq (y_add (ev_t rfl) ev_c (by unfold In64; constructor <;> omega))) rfl rfl rfl ?_
      refine TL.op (yq (y_assign (ev_t rfl))) rfl rfl rfl ?_
      refine TL.nil ?_
      exact TN.hand (mf1, (i1 + 1)) ⟨(by first | omega | (simp [-List.getD_eq_getElem?_getD] <;> omega)), (by omega), hL1⟩ (Nat.lt_succ_self _) ⟨rfl, rfl, rfl, trivial⟩ (fun w hw => hw)
  · rw [bif_neg h13] at hL1
    have q14 := (of_decide_eq_false h13)
    refine TC.exit ?_
    refine TN.thenE ?_
    refine TN.thenE ?_
    rw [← hL1, elim_next] at hF
    try dsimp only at hF
    refine TN.blockH ?_
    refine TN.seq ?_
    refine TC.seq ?_
    refine TC.region ?_
    refine TL.op (yq (y_assign ev_c)) rfl rfl rfl ?_
    refine TL.nil ?_
    refine TN.seq ?_
    refine TC.ret ?_
    subst hF
    exact TN.ret1 rfl (ev_t rfl) (fun w' hw => ⟨rfl, hw⟩)

set_option maxRecDepth 4000 in
set_option maxHeartbeats 1000000 in
theorem slices_Index_Sint_int_ok (w : World) (vs : Value) (s : List Int) (hs : RI w vs s) (v : Int)  :
    Calls Try.prog 53 ([vs, (.int .i64 v)] : List Value).toArray w (Ret (.int .i64 (F_slices_Index_Sint_int s v)) (Hp w [])) := by
  obtain ⟨rz, hF⟩ : ∃ rz, (F_slices_Index_Sint_int s v) = rz := ⟨_, rfl⟩
  rw [hF]
  unfold F_slices_Index_Sint_int at hF
  have hlen_s := arg_len hs
  refine calls_tc Try.func53 rfl rfl rfl ?_
  change TC _ _ _ _ (Hp w []) [(0, vs), (1, (.int .i64 v))]
  refine TC.seq ?_
  refine TC.region ?_
  refine TL.op (yq (y_assign ev_c)) rfl rfl rfl ?_
  refine TL.nil ?_
  refine TN.seq ?_
  refine TC.seq ?_
  refine TC.seq ?_
  refine TC.region ?_
  refine TL.op (yq (y_move (ev_t rfl))) rfl rfl rfl ?_
  refine TL.op (yq (y_len (ev_t rfl) Try.underlying25 (fun w hw => ((ri_arg hs) w hw).ln))) rfl rfl rfl ?_
  refine TL.op (yq (y_move ev_c)) rfl rfl rfl ?_
  refine TL.nil ?_
  refine TN.seq ?_
  refine TC.block ?_
  obtain ⟨c11, hc12⟩ : ∃ c, F_slices_Index_Sint_int_L1 s v ((s.length - 0) + 1) 0 = c := ⟨_, rfl⟩
  rw [hc12] at hF
  refine TC.loop (ι := Nat × Nat) (fun (fu1, k8_1) => [(0, vs), (1, (.int .i64 v)), (7, (.int .i64 (s.length : Int))), (8, (.int .i64 (k8_1 : Int)))]) (fun (fu1, k8_1) => Hp w []) (fun (fu1, k8_1) => (k8_1 ≤ s.length) ∧ s.length - k8_1 < fu1 ∧ F_slices_Index_Sint_int_L1 s v fu1 k8_1 = c11) (fun (fu1, k8_1) => fu1) ((s.length - 0) + 1, 0) ⟨(by first | omega | (simp [-List.getD_eq_getElem?_getD] <;> omega)), (by omega), hc12⟩ ⟨rfl, rfl, rfl, rfl, trivial⟩ (fun w hw => hw) ?_
  rintro ⟨fu1, k8_1⟩ hJ1
  obtain ⟨hi1_0, hmu1, hL1⟩ : (k8_1 ≤ s.length) ∧ s.length - k8_1 < fu1 ∧ F_slices_Index_Sint_int_L1 s v fu1 k8_1 = c11 := hJ1
  change TC _ _ _ _ (Hp w []) [(0, vs), (1, (.int .i64 v)), (7, (.int .i64 (s.length : Int))), (8, (.int .i64 (k8_1 : Int)))]
  obtain ⟨mf1, rfl⟩ : ∃ m, fu1 = m + 1 := ⟨fu1 - 1, by omega⟩
  rw [F_slices_Index_Sint_int_L1_s] at hL1
  refine TC.seq ?_
  refine TC.region ?_
  refine TL.op (yq (y_lss (ev_t rfl) (ev_t rfl))) rfl rfl rfl ?_
  refine TL.nil ?_
  refine TN.seq ?_
  refine TC.seq ?_
  refine TC.cond (b := decide ((k8_1 : Int) < (s.length : Int))) (ev_t rfl) (fun h13 => ?_) (fun h13 => ?_)
  · rw [bif_pos h13] at hL1
    have q14 := (of_decide_eq_true h13)
    refine TC.skip ?_
    refine TN.seq ?_
    refine TC.seq ?_
    refine TC.block ?_
    refine TC.seq ?_
    refine TC.region ?_
    refine TL.op (yq (y_move (ev_t rfl))) rfl rfl rfl ?_
    refine TL.op (yq (y_assign (ev_t rfl))) rfl rfl rfl ?_
    refine TL.nil ?_
    refine TN.seq ?_
    refine TC.seq ?_
    refine TC.region ?_
    refine TL.op (yq (y_move (ev_t rfl))) rfl rfl rfl ?_
    refine TL.op (yq (y_move (ev_t rfl))) rfl rfl rfl ?_
    refine TL.op (yq (y_move (ev_t rfl))) rfl rfl rfl ?_
    have hb15 : k8_1 < s.length := (by first | omega | (simp only [List.length_set, List.length_append, List.length_cons, List.length_nil, List.length_replicate]; omega) | (rw [sortI_length]; simp only [List.length_cons, List.length_nil]; omega) | (simp only [ByteArray.size_append]; omega))
    refine TL.op (yq (y_idx (k := k8_1) (ev_t rfl) (ev_t rfl) (by first | omega | simp) slT_25 (ri_arg hs) hb15)) rfl rfl rfl ?_
    refine TL.op (yq (y_ldi (ev_t rfl) one_3 (ri_arg hs) hb15)) rfl rfl rfl ?_
    refine TL.op (yq (y_eql (ev_t rfl) (ev_t rfl))) rfl rfl rfl ?_
    refine TL.nil ?_
    refine TN.seq ?_
    refine TC.cond (b := decide (v = (s.getD k8_1 0))) (ev_t rfl) (fun h16 => ?_) (fun h16 => ?_)
    · rw [bif_pos h16] at hL1
      have q17 := (of_decide_eq_true h16)
      refine TC.seq ?_
      refine TC.region ?_
      refine TL.op (yq (y_move (ev_t rfl))) rfl rfl rfl ?_
      refine TL.op (yq (y_assign (ev_t rfl))) rfl rfl rfl ?_
      refine TL.nil ?_
      refine TN.seq ?_
      refine TC.ret ?_
      refine TN.blockR ?_
      refine TN.thenR ?_
      refine TN.thenR ?_
      rw [← hL1, elim_ret] at hF
      refine TN.blockR ?_
      refine TN.thenR ?_
      subst hF
      exact TN.ret1 rfl (ev_t rfl) (fun w' hw => ⟨rfl, hw⟩)
    · rw [bif_neg h16] at hL1
      have q17 := (of_decide_eq_false h16)
      refine TC.skip ?_
      refine TN.blockN ?_
      refine TN.seq ?_
      refine TC.region ?_
      refine TL.op (yq (y_add (ev_t rfl) ev_c (by unfold In64; constructor <;> omega))) rfl rfl rfl ?_
      refine TL.op (yq (y_move (ev_t rfl))) rfl rfl rfl ?_
      refine TL.nil ?_
      exact TN.hand (mf1, (k8_1 + 1)) ⟨(by first | omega | (simp [-List.getD_eq_getElem?_getD] <;> omega)), (by omega), hL1⟩ (Nat.lt_succ_self _) ⟨rfl, rfl, rfl, rfl, trivial⟩ (fun w hw => hw)
  · rw [bif_neg h13] at hL1
    have q14 := (of_decide_eq_false h13)
    refine TC.exit ?_
    refine TN.thenE ?_
    refine TN.thenE ?_
    rw [← hL1, elim_next] at hF
    try dsimp only at hF
    refine TN.blockH ?_
    refine TN.seq ?_
    refine TC.seq ?_
    refine TC.region ?_
    refine TL.op (yq (y_assign ev_c)) rfl rfl rfl ?_
    refine TL.nil ?_
    refine TN.seq ?_
    refine TC.ret ?_
    subst hF
    exact TN.ret1 rfl (ev_t rfl) (fun w' hw => ⟨rfl, hw⟩)

set_option maxRecDepth 4000 in
set_option maxHeartbeats 1000000 in
theorem slices_Contains_Sint_int_ok (w : World) (vs : Value) (s : List Int) (hs : RI w vs s) (v : Int)  :
    Calls Try.prog 36 ([vs, (.int .i64 v)] : List Value).toArray w (Ret (.bool (F_slices_Contains_Sint_int s v)) (Hp w [])) := by
  obtain ⟨rz, hF⟩ : ∃ rz, (F_slices_Contains_Sint_int s v) = rz := ⟨_, rfl⟩
  rw [hF]
  unfold F_slices_Contains_Sint_int at hF
  have hlen_s := arg_len hs
  refine calls_tc Try.func36 rfl rfl rfl ?_
  change TC _ _ _ _ (Hp w []) [(0, vs), (1, (.int .i64 v))]
  refine TC.seq ?_
  refine TC.region ?_
  refine TL.op (yq (y_assign ev_c)) rfl rfl rfl ?_
  refine TL.nil ?_
  refine TN.seq ?_
  refine TC.seq ?_
  refine TC.region ?_
  refine TL.op (yq (y_move (ev_t rfl))) rfl rfl rfl ?_
  refine TL.op (yq (y_move (ev_t rfl))) rfl rfl rfl ?_
  refine TL.op (y_call (vs := [vs, (.int .i64 v)]) (v := (.int .i64 (F_slices_Index_Sint_int s v))) en_53 ⟨(ev_t rfl), (ev_t rfl), trivial⟩ (fun w hw => slices_Index_Sint_int_ok w vs s ((ri_arg hs) w hw) v)) rfl rfl rfl ?_
  refine TL.op (yq (y_geq (ev_t rfl) ev_c)) rfl rfl rfl ?_
  refine TL.op (yq (y_assign (ev_t rfl))) rfl rfl rfl ?_
  refine TL.nil ?_
  refine TN.seq ?_
  refine TC.ret ?_
  subst hF
  exact TN.ret1 rfl (ev_t rfl) (fun w' hw => ⟨rfl, hw⟩)

set_option maxRecDepth 4000 in
set_option maxHeartbeats 1000000 in
theorem spec_l4With_ok (w : World) (vlist : Value) (list : List Int) (hlist : RI w vlist list) (at_ : Int) (y : Int) (hp0 : 0 ≤ at_ ∧ at_ < list.length) (hp1 : list.length ≤ 1000000) :
    Calls Try.prog 74 ([vlist, (.int .i64 at_), (.int .i64 y)] : List Value).toArray w (fun e w' => ∃ i : Value, e = .returned i ∧ Hp w [rowI 3 i (F_spec_l4With list at_ y)] w') := by
  obtain ⟨rz, hF⟩ : ∃ rz, (F_spec_l4With list at_ y) = rz := ⟨_, rfl⟩
  rw [hF]
  unfold F_spec_l4With at hF
  have hlen_list := arg_len hlist
  refine calls_tc Try.func74 rfl rfl rfl ?_
  change TC _ _ _ _ (Hp w []) [(0, vlist), (1, (.int .i64 at_)), (2, (.int .i64 y))]
  refine TC.seq ?_
  refine TC.region ?_
  refine TL.op (yq (y_assign ev_c)) rfl rfl rfl ?_
  refine TL.nil ?_
  refine TN.seq ?_
  refine TC.seq ?_
  refine TC.region ?_
  refine TL.op (yq (y_move (ev_t rfl))) rfl rfl rfl ?_
  refine TL.callr (ι := Value) (vs := [vlist]) (fun i => i) (fun i => [rowI 3 i list]) en_35 ⟨(ev_t rfl), trivial⟩ rfl (fun w hw => spec_l1Own_ok w vlist list ((ri_arg hlist) w hw) (by first | assumption | omega | grind)) (fun r1_1 => ?_)
  refine TL.op (yq (y_assign (ev_t rfl))) rfl rfl rfl ?_
  refine TL.nil ?_
  refine TN.seq ?_
  refine TC.seq ?_
  refine TC.region ?_
  refine TL.op (yq (y_move (ev_t rfl))) rfl rfl rfl ?_
  refine TL.op (yq (y_move (ev_t rfl))) rfl rfl rfl ?_
  refine TL.op (yq (y_move (ev_t rfl))) rfl rfl rfl ?_
  have hb2 : (at_).toNat < list.length := (by first | omega | (simp only [List.length_set, List.length_append, List.length_cons, List.length_nil, List.length_replicate]; omega) | (rw [sortI_length]; simp only [List.length_cons, List.length_nil]; omega) | (simp only [ByteArray.size_append]; omega))
  refine TL.op (yq (y_idx (k := (at_).toNat) (ev_t rfl) (ev_t rfl) (by first | omega | simp) slT_25 (ri_row 0 rfl) hb2)) rfl rfl rfl ?_
  refine TL.storeI 0 (ev_t rfl) (ev_t rfl) one_3 rfl hb2 ?_
  refine TL.nil ?_
  refine TN.seq ?_
  refine TC.seq ?_
  refine TC.region ?_
  refine TL.op (yq (y_move (ev_t rfl))) rfl rfl rfl ?_
  refine TL.op (yq (y_assign (ev_t rfl))) rfl rfl rfl ?_
  refine TL.nil ?_
  refine TN.seq ?_
  refine TC.ret ?_
  subst hF
  exact TN.ret1 rfl (ev_t rfl) (fun w' hw => ⟨r1_1, rfl, hw⟩)

set_option maxRecDepth 4000 in
set_option maxHeartbeats 1000000 in
theorem spec_l7Tight_ok (w : World) (vm : Value) (um : List Value) (m : List (List Int)) (hm : RII w vm um m) (va : Value) (a : List Int) (ha : RI w va a) (vreqs : Value) (reqs : List Int) (hreqs : RI w vreqs reqs) (vprices : Value) (prices : List Int) (hprices : RI w vprices prices) (vrents : Value) (rents : List Int) (hrents : RI w vrents rents) (l : Int) (i : Int) (hp0 : Sv m a reqs) (hp1 : 0 ≤ l) (hp2 : l < rents.length) (hp3 : 0 ≤ i) (hp4 : i < reqs.length) (hp5 : prices.length = reqs.length) (hp6 : rents.length = a.length + reqs.length) (hp7 : ∀ i, 0 ≤ prices.getD i 0 ∧ prices.getD i 0 ≤ 99999) (hp8 : ∀ l, 0 ≤ rents.getD l 0 ∧ rents.getD l 0 ≤ 99999) :
    Calls Try.prog 33 ([(.agg #[vm]), va, vreqs, vprices, vrents, (.int .i64 l), (.int .i64 i)] : List Value).toArray w (Ret (.bool (F_spec_l7Tight m a reqs prices rents l i)) (Hp w [])) := by
  obtain ⟨rz, hF⟩ : ∃ rz, (F_spec_l7Tight m a reqs prices rents l i) = rz := ⟨_, rfl⟩
  rw [hF]
  unfold F_spec_l7Tight at hF
  have hr60 := hp0.r60
  have hn3 := hp0.cf.n3
  have hpi := hp7 i.toNat
  have hri := hp8 l.toNat
  have hlen_m := argT_len hm
  have hlen_a := arg_len ha
  have hlen_reqs := arg_len hreqs
  have hlen_prices := arg_len hprices
  have hlen_rents := arg_len hrents
  refine calls_tc Try.func33 rfl rfl rfl ?_
  change TC _ _ _ _ (Hp w []) [(0, (.agg #[vm])), (1, va), (2, vreqs), (3, vprices), (4, vrents), (5, (.int .i64 l)), (6, (.int .i64 i))]
  refine TC.seq ?_
  refine TC.region ?_
  refine TL.box (ev_t rfl) rfl (fun g0_0 => ?_)
  refine TL.op (yq (y_assign ev_c)) rfl rfl rfl ?_
  refine TL.nil ?_
  refine TN.seq ?_
  refine TC.seq ?_
  refine TC.regionQ (by kernel_rfl) (by kernel_rfl) dr_hp ?_
  refine TQ.op (yq (y_move (ev_t rfl))) rfl rfl rfl ?_
  refine TQ.op (yq (y_move (ev_t rfl))) rfl rfl rfl ?_
  refine TQ.op (yq (y_len (ev_t rfl) Try.underlying25 (fun w hw => ((ri_arg ha) w hw).ln))) rfl rfl rfl ?_
  refine TQ.op (yq (y_move (ev_t rfl))) rfl rfl rfl ?_
  refine TQ.op (yq (y_add (ev_t rfl) (ev_t rfl) (by unfold In64; constructor <;> omega))) rfl rfl rfl ?_
  refine TQ.op (yq (y_lss (ev_t rfl) (ev_t rfl))) rfl rfl rfl ?_
  refine TQ.op (yq (y_move (ev_t rfl))) rfl rfl rfl ?_
  refine TQ.opw (w_t rfl rfl rfl) (fun hg => yq (y_move (ev_t rfl))) rfl rfl ?_
  refine TQ.opw (w_t rfl rfl rfl) (fun hg => yq (y_move (ev_t rfl))) rfl rfl ?_
  refine TQ.opw (w_t rfl rfl rfl) (fun hg => yq (y_idx (k := (i).toNat) (ev_g rfl hg) (ev_g rfl hg) (by have hgf := (of_decide_eq_true hg); first | omega | simp) slT_25 (ri_arg hprices) (show (i).toNat < prices.length by have hgf := (of_decide_eq_true hg); omega))) rfl rfl ?_
  refine TQ.opw (w_t rfl rfl rfl) (fun hg => yq (y_ldi (ev_g rfl hg) one_3 (ri_arg hprices) (show (i).toNat < prices.length by have hgf := (of_decide_eq_true hg); omega))) rfl rfl ?_
  refine TQ.opw (w_t rfl rfl rfl) (fun hg => yq (y_move (ev_t rfl))) rfl rfl ?_
  refine TQ.opw (w_t rfl rfl rfl) (fun hg => yq (y_move (ev_t rfl))) rfl rfl ?_
  refine TQ.opw (w_t rfl rfl rfl) (fun hg => yq (y_idx (k := (l).toNat) (ev_g rfl hg) (ev_g rfl hg) (by have hgf := (of_decide_eq_true hg); first | omega | simp) slT_25 (ri_arg hrents) (show (l).toNat < rents.length by have hgf := (of_decide_eq_true hg); omega))) rfl rfl ?_
  refine TQ.opw (w_t rfl rfl rfl) (fun hg => yq (y_ldi (ev_g rfl hg) one_3 (ri_arg hrents) (show (l).toNat < rents.length by have hgf := (of_decide_eq_true hg); omega))) rfl rfl ?_
  refine TQ.opw (w_t rfl rfl rfl) (fun hg => yq (y_sub (ev_g rfl hg) (ev_g rfl hg) (by unfold In64; constructor <;> omega))) rfl rfl ?_
  refine TQ.opw (w_t rfl rfl rfl) (fun hg => yq (y_ldagg (cs := [vm]) 0 (ev_t rfl) agg_29 rfl)) rfl rfl ?_
  refine TQ.opw (w_t rfl rfl rfl) (fun hg => yq (y_move (ev_t rfl))) rfl rfl ?_
  refine TQ.opw (w_t rfl rfl rfl) (fun hg => yq (y_move (ev_t rfl))) rfl rfl ?_
  refine TQ.opw (w_t rfl rfl rfl) (fun hg => yq (y_move (ev_t rfl))) rfl rfl ?_
  refine TQ.opw (w_t rfl rfl rfl) (fun hg => yq (y_move (ev_t rfl))) rfl rfl ?_
  refine TQ.opw (w_t rfl rfl rfl) (fun hg => y_call (vs := [(.agg #[vm]), va, vreqs, (.int .i64 l), (.int .i64 i)]) (v := (.int .i64 (F_spec_l7Gap m a reqs l i))) en_43 ⟨(ev_g rfl hg), (ev_g rfl hg), (ev_g rfl hg), (ev_g rfl hg), (ev_g rfl hg), trivial⟩ (fun w hw => spec_l7Gap_ok w vm um m ((rii_arg hm) w hw) va a ((ri_arg ha) w hw) vreqs reqs ((ri_arg hreqs) w hw) l i (by have hgf := (of_decide_eq_true hg); first | assumption | omega | (have hq := hgf.n6; omega) | (have hq := hgf.1.n6; omega) | grind) (by have hgf := (of_decide_eq_true hg); first | assumption | omega | (have hq := hgf.n6; omega) | (have hq := hgf.1.n6; omega) | grind) (by have hgf := (of_decide_eq_true hg); first | assumption | omega | (have hq := hgf.n6; omega) | (have hq := hgf.1.n6; omega) | grind) (by have hgf := (of_decide_eq_true hg); first | assumption | omega | (have hq := hgf.n6; omega) | (have hq := hgf.1.n6; omega) | grind) (by have hgf := (of_decide_eq_true hg); first | assumption | omega | (have hq := hgf.n6; omega) | (have hq := hgf.1.n6; omega) | grind))) rfl rfl ?_
  refine TQ.opw (w_t rfl rfl rfl) (fun hg => yq (y_eql (ev_g rfl hg) (ev_g rfl hg))) rfl rfl ?_
  refine TQ.op (yq (y_and (ev_t rfl) (fun hq => (ev_g rfl hq)))) rfl rfl rfl ?_
  refine TQ.op (yq (y_assign (ev_t rfl))) rfl rfl rfl ?_
  refine TQ.nil ?_
  refine TN.seq ?_
  refine TC.ret ?_
  subst hF
  exact TN.ret1 rfl (ev_t rfl) (fun w' hw => ⟨rfl, Hp.sublist hw (List.nil_sublist _)⟩)


end Go.Proofs.Ytgnikdpgndmldaa
namespace Go.Proofs.Ytgnikdpgndmldaa
set_option linter.unusedVariables false
set_option linter.unusedSimpArgs false
open Go Go.RowKit
set_option linter.unusedVariables false

/-- Entry of a table of booleans. -/
def EG (grid : List (List Bool)) (r j : Nat) : Prop := (grid.getD r []).getD j false = true
section
variable {P : Program} {ops : Array Oper} {Q : Exit → Act → World → Prop} {N : Nat} {rest : List Oper} {l : Sl} {d : Nat}
variable {ty : TypeId} {ps : String} {af : Array Edge} {w0 : World} {os : List Ck} {k : FuncId} {ars : List Operand} {vs : List Value} {ats : Array TypeId}
/-- A call whose outcome is only read from then on: the class is begun anew. -/
theorem TL.callx {ι : Type} (ret : ι → Value) (F : ι → World → Prop) (he : En P k) (hv : Evs l ars vs) (hb : Nat.blt d N = true)
    (hc : ∀ w, Hp w0 os w → Calls P k vs.toArray w (fun e w' => ∃ i, e = .returned (ret i) ∧ Hp w [] w' ∧ F i w')) (h : ∀ i w1, Hp w0 os w1 → F i w1 → TL P ops Q N (Hp w1 []) rest ((d, ret i) :: l)) :
    TL P ops Q N (Hp w0 os) (⟨some d, .call { callee := .value (.func k), args := ars.toArray, argTypes := ats }, ty, ps, af, none⟩ :: rest) l :=
  TL.call (D := fun v w' => ∃ i, v = ret i ∧ Hp w0 os w' ∧ F i w') he hv hb (fun w hw => (hc w hw).mono fun _ _ ⟨i, h1, h2, h3⟩ => ⟨_, h1, i, rfl, hw.after0 h2, h3⟩)
    (fun v a w hs ⟨i, h1, h2, h3⟩ => by subst h1; exact h i w h2 h3 a w hs (Hp.start w))
end
theorem len_bools (bs : List Bool) : (bools bs).length = bs.length := by simp

/-- What a try hands back. -/
def TryOut (w : World) (E : Nat → Nat → Prop) (R C : Nat) (held : List Int) (seen : List Bool) (row : Nat) (e : Ending) (w' : World) : Prop :=
  ∃ (i : Value × Value × List Int × List Bool × Bool), e = .returned (.tuple #[i.1, i.2.1, .bool i.2.2.2.2]) ∧ Hp w [] w' ∧
    (RI w' i.1 i.2.2.1 ∧ Rd w' i.2.1 1 i.2.2.2.1.length (bools i.2.2.2.1) ∧ Kn.TryR E R C held seen row i.2.2.1 i.2.2.2.1 i.2.2.2.2)

set_option maxRecDepth 4000 in
set_option maxHeartbeats 2000000 in
theorem spec_l7Try_ok (R C : Nat) (hC9 : C ≤ 1000) : ∀ (mu : Nat) (w : World) (vg : Value) (ug : List Value) (grid : List (List Bool)) (hg : RBB w vg ug grid) (vh : Value) (held : List Int) (hh : RI w vh held)
    (vs : Value) (seen0 : List Bool) (hs : Rd w vs 1 seen0.length (bools seen0)) (row : Nat) (hR : grid.length = R) (hC : ∀ r, r < R → (grid.getD r []).length = C) (hH : Kn.Hd (EG grid) R C held) (hsl : seen0.length = C)
    (hrow : row < R) (hmu : seen0.count false < mu),
    Calls Try.prog 67 ([vg, vh, vs, .int .i64 (row : Int)] : List Value).toArray w (TryOut w (EG grid) R C held seen0 row) := by
  intro mu
  induction mu with
  | zero => intro w vg ug grid hg vh held hh vs seen0 hs row hR hC hH hsl hrow hmu; omega
  | succ mu ih =>
  intro w vg ug grid hg vh held hh vs seen0 hs row hR hC hH hsl hrow hmu
  have hhl : held.length = C := hH.1
  have hug : row < ug.length := by rw [hg.2.1]; omega
  have hgr : row < grid.length := by omega
  have hgc : (grid.getD row []).length = C := hC row hrow
  refine calls_tc Try.func67 rfl rfl rfl ?_
  change TC _ _ _ _ (Hp w []) [(0, vg), (1, vh), (2, vs), (3, .int .i64 (row : Int))]
  refine TC.seq ?_
  refine TC.region ?_
  refine TL.op (yq (y_assign ev_c)) rfl rfl rfl ?_
  refine TL.op (yq (y_assign ev_c)) rfl rfl rfl ?_
  refine TL.op (yq (y_assign ev_c)) rfl rfl rfl ?_
  refine TL.nil ?_
  refine TN.seq ?_
  refine TC.seq ?_
  refine TC.seq ?_
  refine TC.region ?_
  refine TL.op (yq (y_assign ev_c)) rfl rfl rfl ?_
  refine TL.nil ?_
  refine TN.seq ?_
  refine TC.block ?_
  refine TC.loop (ι := World × Nat × Value × List Bool) (fun (_, i, v, _) => [(0, vg), (1, vh), (2, v), (3, .int .i64 (row : Int)), (11, .int .i64 (i : Int))]) (fun (wb, _, _, _) => Hp wb [])
    (fun (wb, i, v, sn) => Hp w [] wb ∧ i ≤ C ∧ Rd wb v 1 sn.length (bools sn) ∧ Kn.Sl7 (EG grid) C held seen0 row i sn) (fun (_, i, _, _) => C - i) (w, 0, vs, seen0)
    ⟨Hp.start w, Nat.zero_le _, hs, Kn.Sl7.start hsl row⟩ ⟨rfl, rfl, rfl, rfl, rfl, trivial⟩ (fun w hw => hw) ?_
  rintro ⟨wb, i, v, sn⟩ hJ
  obtain ⟨hwb, hi, hsn, hSl⟩ : Hp w [] wb ∧ i ≤ C ∧ Rd wb v 1 sn.length (bools sn) ∧ Kn.Sl7 (EG grid) C held seen0 row i sn := hJ
  change TC _ _ _ _ (Hp wb []) [(0, vg), (1, vh), (2, v), (3, .int .i64 (row : Int)), (11, .int .i64 (i : Int))]
  have hgb : RBB wb vg ug grid := hg.below hwb.1
  have hhb : RI wb vh held := hh.below hwb.1
  have hlsn := hSl.ls
  refine TC.seq ?_
  refine TC.seq ?_
  refine TC.region ?_
  refine TL.op (yq (y_move (ev_t rfl))) rfl rfl rfl ?_
  refine TL.op (yq (y_move (ev_t rfl))) rfl rfl rfl ?_
  refine TL.op (yq (y_len (ev_t rfl) Try.underlying25 (fun w hw => ((ri_arg hhb) w hw).ln))) rfl rfl rfl ?_
  refine TL.op (yq (y_lss (ev_t rfl) (ev_t rfl))) rfl rfl rfl ?_
  refine TL.nil ?_
  refine TN.seq ?_
  refine TC.cond (b := decide ((i : Int) < (held.length : Int))) (ev_t rfl) (fun h1 => ?_) (fun h1 => ?_)
  · have hiC : i < C := by have := of_decide_eq_true h1; omega
    have hih : i < held.length := by omega
    have hisn : i < sn.length := by omega
    have higr : i < (grid.getD row []).length := by omega
    refine TC.skip ?_
    refine TN.seq ?_
    refine TC.seq ?_
    refine TC.block ?_
    refine TC.seq ?_
    refine TC.seq ?_
    refine TC.region ?_
    refine TL.op (yq (y_move (ev_t rfl))) rfl rfl rfl ?_
    refine TL.op (yq (y_move (ev_t rfl))) rfl rfl rfl ?_
    refine TL.op (yq (y_idx (k := row) (ev_t rfl) (ev_t rfl) rfl slT_66 (fun w hw => ((rbb_arg hgb) w hw).1) hug)) rfl rfl rfl ?_
    refine TL.op (yq (y_ldu (ev_t rfl) one_64 (fun w hw => ((rbb_arg hgb) w hw).1) hug)) rfl rfl rfl ?_
    refine TL.op (yq (y_move (ev_t rfl))) rfl rfl rfl ?_
    refine TL.op (yq (y_idx (k := i) (ev_t rfl) (ev_t rfl) rfl slT_64 (fun w hw => ((rbb_arg hgb) w hw).2.2 row hgr) higr)) rfl rfl rfl ?_
    refine TL.op (yq (y_ldbo (ev_t rfl) one_4 (fun w hw => ((rbb_arg hgb) w hw).2.2 row hgr) higr)) rfl rfl rfl ?_
    refine TL.op (yq (y_not (ev_t rfl))) rfl rfl rfl ?_
    refine TL.op (yq (y_move (ev_t rfl))) rfl rfl rfl ?_
    refine TL.opw (w_f rfl rfl rfl) (fun hg => yq (y_move (ev_t rfl))) rfl rfl ?_
    refine TL.opw (w_f rfl rfl rfl) (fun hg => yq (y_move (ev_t rfl))) rfl rfl ?_
    refine TL.opw (w_f rfl rfl rfl) (fun hg => yq (y_idx (k := i) (ev_g rfl hg) (ev_g rfl hg) rfl slT_64 (rd_arg hsn) hisn)) rfl rfl ?_
    refine TL.opw (w_f rfl rfl rfl) (fun hg => yq (y_ldbo (ev_g rfl hg) one_4 (rd_arg hsn) hisn)) rfl rfl ?_
    refine TL.op (yq (y_or (ev_t rfl) (fun hq => (ev_g rfl hq)))) rfl rfl rfl ?_
    refine TL.nil ?_
    refine TN.seq ?_
    refine TC.cond (b := ((!((grid.getD row []).getD i false)) || (sn.getD i false))) (ev_t rfl) (fun h2 => ?_) (fun h2 => ?_)
    · have hsk : ¬ EG grid row i ∨ sn.getD i false = true := (or_t h2).imp (fun h => by unfold EG; rw [not_t h]; intro h; cases h) id
      refine TC.exit ?_
      repeat first | refine TN.thenE ?_ | refine TN.blockM rfl ?_
      refine TN.blockH ?_
      refine TN.seq ?_
      refine TC.region ?_
      refine TL.op (yq (y_move (ev_t rfl))) rfl rfl rfl ?_
      refine TL.op (yq (y_add (ev_t rfl) ev_c (by unfold In64; constructor <;> omega))) rfl rfl rfl ?_
      refine TL.op (yq (y_assign (ev_t rfl))) rfl rfl rfl ?_
      refine TL.nil ?_
      exact TN.hand (wb, i + 1, v, sn) ⟨hwb, hiC, hsn, hSl.skip hsk⟩ (by show C - (i + 1) < C - i; omega) ⟨rfl, rfl, rfl, rfl, rfl, trivial⟩ (fun w hw => hw)
    obtain ⟨h2a, h2b⟩ := or_f h2
    have hE : EG grid row i := not_f h2a
    refine TC.skip ?_
    refine TN.seq ?_
    refine TC.seq ?_
    refine TC.region ?_
    refine TL.build0 slT_64 rfl (fun v1 => ?_)
    refine TL.op (yq (y_move (ev_t rfl))) rfl rfl rfl ?_
    refine TL.appendBo (zs := []) (qs := sn) 0 (ev_t rfl) (ev_t rfl) rfl slT_64 (rd_arg hsn) (by simp; omega) rfl (fun v2 => ?_)
    refine TL.op (yq (y_assign (ev_t rfl))) rfl rfl rfl ?_
    refine TL.nil ?_
    refine TN.seq ?_
    refine TC.seq ?_
    refine TC.region ?_
    refine TL.op (yq (y_move (ev_t rfl))) rfl rfl rfl ?_
    refine TL.op (yq (y_move (ev_t rfl))) rfl rfl rfl ?_
    refine TL.op (yq (y_idx (k := i) (ev_t rfl) (ev_t rfl) rfl slT_64 (rd_row 0 rfl) (by simpa using hisn))) rfl rfl rfl ?_
    refine TL.storeBo 0 (ev_t rfl) ev_c one_4 rfl (by simpa using hisn) ?_
    refine TL.nil ?_
    refine TN.seq ?_
    refine TC.seq ?_
    refine TC.region ?_
    refine TL.op (yq (y_move (ev_t rfl))) rfl rfl rfl ?_
    refine TL.op (yq (y_assign (ev_t rfl))) rfl rfl rfl ?_
    refine TL.nil ?_
    refine TN.seq ?_
    refine TC.base fun w2 hw2 => ?_
    have hw2' : Hp w [] w2 := hwb.after0 hw2.nl
    have hg2 : RBB w2 vg ug grid := hg.below hw2'.1
    have hh2 : RI w2 vh held := hh.below hw2'.1
    have hs2 : Rd w2 v2 1 (sn.set i true).length (bools (sn.set i true)) := (rd_row 0 rfl) w2 hw2
    refine TC.seq ?_
    refine TC.seq ?_
    refine TC.region ?_
    refine TL.op (yq (y_move (ev_t rfl))) rfl rfl rfl ?_
    refine TL.op (yq (y_move (ev_t rfl))) rfl rfl rfl ?_
    refine TL.op (yq (y_idxi (k := i) (ev_t rfl) (ev_t rfl) rfl slT_25 (ri_arg hh2) hih)) rfl rfl rfl ?_
    refine TL.op (yq (y_ldi (ev_t rfl) one_3 (ri_arg hh2) hih)) rfl rfl rfl ?_
    refine TL.op (yq (y_lss (ev_t rfl) ev_c)) rfl rfl rfl ?_
    refine TL.nil ?_
    refine TN.seq ?_
    refine TC.cond (b := decide (held.getD i 0 < 0)) (ev_t rfl) (fun h3 => ?_) (fun h3 => ?_)
    · have hneg := of_decide_eq_true h3
      refine TC.seq ?_
      refine TC.region ?_
      refine TL.op (yq (y_move (ev_t rfl))) rfl rfl rfl ?_
      refine TL.op (yq (y_move (ev_t rfl))) rfl rfl rfl ?_
      refine TL.op (yq (y_move (ev_t rfl))) rfl rfl rfl ?_
      refine TL.callr (ι := Value) (vs := [vh, (.int .i64 (i : Int)), (.int .i64 (row : Int))]) (fun u => u) (fun u => [rowI 3 u (F_spec_l4With held (i : Int) (row : Int))]) en_74 ⟨(ev_t rfl), (ev_t rfl), (ev_t rfl), trivial⟩ rfl (fun w hw => spec_l4With_ok w vh held ((ri_arg hh2) w hw) (i : Int) (row : Int) (by omega) (by omega)) (fun u => ?_)
      refine TL.op (yq (y_move (ev_t rfl))) rfl rfl rfl ?_
      refine TL.op (yq (y_assign (ev_t rfl))) rfl rfl rfl ?_
      refine TL.op (yq (y_assign (ev_t rfl))) rfl rfl rfl ?_
      refine TL.op (yq (y_assign ev_c)) rfl rfl rfl ?_
      refine TL.nil ?_
      refine TN.seq ?_
      refine TC.ret ?_
      repeat first | refine TN.thenR ?_ | refine TN.blockR ?_
      refine TN.ret3 rfl (ev_t rfl) (ev_t rfl) (ev_t rfl) (fun w3 hw3 => ?_)
      refine ⟨⟨u, v2, F_spec_l4With held (i : Int) (row : Int), sn.set i true, true⟩, rfl, hw2'.after0 hw3.nl, (ri_row 0 rfl) w3 hw3, hs2.below hw3.1, ?_⟩
      have := hSl.free hH hrow hiC h2b hE hneg
      show Kn.TryR _ _ _ _ _ _ (F_spec_l4With _ _ _) _ _
      unfold F_spec_l4With
      rw [Int.toNat_natCast]
      exact this
    have hge : 0 ≤ held.getD i 0 := by have := of_decide_eq_false h3; omega
    have hrn : (held.getD i 0).toNat < R := (hH.2 i hiC hge).1
    have hct := Kn.count_tried hisn h2b
    have hcf := hSl.cf
    refine TC.skip ?_
    refine TN.seq ?_
    refine TC.seq ?_
    refine TC.region ?_
    refine TL.op (yq (y_move (ev_t rfl))) rfl rfl rfl ?_
    refine TL.op (yq (y_move (ev_t rfl))) rfl rfl rfl ?_
    refine TL.op (yq (y_move (ev_t rfl))) rfl rfl rfl ?_
    refine TL.op (yq (y_move (ev_t rfl))) rfl rfl rfl ?_
    refine TL.op (yq (y_move (ev_t rfl))) rfl rfl rfl ?_
    refine TL.op (yq (y_idxi (k := i) (ev_t rfl) (ev_t rfl) rfl slT_25 (ri_arg hh2) hih)) rfl rfl rfl ?_
    refine TL.op (yq (y_ldi (ev_t rfl) one_3 (ri_arg hh2) hih)) rfl rfl rfl ?_
    refine TL.callx (ι := Value × Value × List Int × List Bool × Bool) (vs := [vg, vh, v2, (.int .i64 (held.getD i 0))]) (fun u => .tuple #[u.1, u.2.1, .bool u.2.2.2.2])
      (fun u w' => RI w' u.1 u.2.2.1 ∧ Rd w' u.2.1 1 u.2.2.2.1.length (bools u.2.2.2.1) ∧ Kn.TryR (EG grid) R C held (sn.set i true) (held.getD i 0).toNat u.2.2.1 u.2.2.2.1 u.2.2.2.2) en_67 ⟨(ev_t rfl), (ev_t rfl), (ev_t rfl), (ev_t rfl), trivial⟩ rfl
      (fun w3 hw3 => by
        have hcall := ih w3 vg ug grid (hg2.below hw3.1) vh held (hh2.below hw3.1) v2 (sn.set i true) (hs2.below hw3.1) (held.getD i 0).toNat hR hC hH (by rw [List.length_set]; exact hlsn) hrn (by omega)
        rw [Int.toNat_of_nonneg hge] at hcall
        exact hcall) ?_
    rintro ⟨u1, u2, next, more, ok⟩ w3 hw3 ⟨hr1, hr2, hT⟩
    have hw3' : Hp w [] w3 := hw2'.after0 hw3
    have hnx : ok = true → next.length = C := fun e => (hT.yes e).1.1
    refine TL.op (yq (y_move (ev_t rfl))) rfl rfl rfl ?_
    refine TL.op (yq (y_extract (ev_t rfl) rfl)) rfl rfl rfl ?_
    refine TL.op (yq (y_extract (ev_t rfl) rfl)) rfl rfl rfl ?_
    refine TL.op (yq (y_extract (ev_t rfl) rfl)) rfl rfl rfl ?_
    refine TL.op (yq (y_assign (ev_t rfl))) rfl rfl rfl ?_
    refine TL.op (yq (y_assign (ev_t rfl))) rfl rfl rfl ?_
    refine TL.op (yq (y_assign (ev_t rfl))) rfl rfl rfl ?_
    refine TL.nil ?_
    refine TN.seq ?_
    refine TC.seq ?_
    refine TC.region ?_
    refine TL.op (yq (y_move (ev_t rfl))) rfl rfl rfl ?_
    refine TL.op (yq (y_assign (ev_t rfl))) rfl rfl rfl ?_
    refine TL.nil ?_
    refine TN.seq ?_
    refine TC.seq ?_
    refine TC.region ?_
    refine TL.op (yq (y_move (ev_t rfl))) rfl rfl rfl ?_
    refine TL.nil ?_
    refine TN.seq ?_
    refine TC.cond (b := ok) (ev_t rfl) (fun h4 => ?_) (fun h4 => ?_)
    · subst h4
      have hnl := hnx rfl
      refine TC.seq ?_
      refine TC.region ?_
      refine TL.op (yq (y_move (ev_t rfl))) rfl rfl rfl ?_
      refine TL.op (yq (y_move (ev_t rfl))) rfl rfl rfl ?_
      refine TL.op (yq (y_move (ev_t rfl))) rfl rfl rfl ?_
      refine TL.callr (ι := Value) (vs := [u1, (.int .i64 (i : Int)), (.int .i64 (row : Int))]) (fun u => u) (fun u => [rowI 3 u (F_spec_l4With next (i : Int) (row : Int))]) en_74 ⟨(ev_t rfl), (ev_t rfl), (ev_t rfl), trivial⟩ rfl (fun w hw => spec_l4With_ok w u1 next ((ri_arg hr1) w hw) (i : Int) (row : Int) (by omega) (by omega)) (fun u => ?_)
      refine TL.op (yq (y_move (ev_t rfl))) rfl rfl rfl ?_
      refine TL.op (yq (y_assign (ev_t rfl))) rfl rfl rfl ?_
      refine TL.op (yq (y_assign (ev_t rfl))) rfl rfl rfl ?_
      refine TL.op (yq (y_assign ev_c)) rfl rfl rfl ?_
      refine TL.nil ?_
      refine TN.seq ?_
      refine TC.ret ?_
      repeat first | refine TN.thenR ?_ | refine TN.blockR ?_
      refine TN.ret3 rfl (ev_t rfl) (ev_t rfl) (ev_t rfl) (fun w4 hw4 => ?_)
      refine ⟨⟨u, u2, F_spec_l4With next (i : Int) (row : Int), more, true⟩, rfl, hw3'.after0 hw4.nl, (ri_row 0 rfl) w4 hw4, hr2.below hw4.1, ?_⟩
      have := hSl.step hH hrow hiC h2b hE hge hT
      show Kn.TryR _ _ _ _ _ _ (F_spec_l4With _ _ _) _ _
      unfold F_spec_l4With
      rw [Int.toNat_natCast]
      exact this
    · subst h4
      refine TC.skip ?_
      refine TN.blockN ?_
      refine TN.seq ?_
      refine TC.region ?_
      refine TL.op (yq (y_move (ev_t rfl))) rfl rfl rfl ?_
      refine TL.op (yq (y_add (ev_t rfl) ev_c (by unfold In64; constructor <;> omega))) rfl rfl rfl ?_
      refine TL.op (yq (y_assign (ev_t rfl))) rfl rfl rfl ?_
      refine TL.nil ?_
      exact TN.hand (w3, i + 1, u2, more) ⟨hw3', hiC, hr2, hSl.fail hiC h2b hge hT⟩ (by show C - (i + 1) < C - i; omega) ⟨rfl, rfl, rfl, rfl, rfl, trivial⟩ (fun w hw => hw)
  · have hiC : i = C := by have := of_decide_eq_false h1; omega
    subst hiC
    refine TC.exit ?_
    repeat first | refine TN.thenE ?_ | refine TN.blockM rfl ?_
    refine TN.blockH ?_
    refine TN.seq ?_
    refine TC.seq ?_
    refine TC.region ?_
    refine TL.op (yq (y_move (ev_t rfl))) rfl rfl rfl ?_
    refine TL.op (yq (y_move (ev_t rfl))) rfl rfl rfl ?_
    refine TL.op (yq (y_assign (ev_t rfl))) rfl rfl rfl ?_
    refine TL.op (yq (y_assign (ev_t rfl))) rfl rfl rfl ?_
    refine TL.op (yq (y_assign ev_c)) rfl rfl rfl ?_
    refine TL.nil ?_
    refine TN.seq ?_
    refine TC.ret ?_
    refine TN.ret3 rfl (ev_t rfl) (ev_t rfl) (ev_t rfl) (fun w4 hw4 => ?_)
    exact ⟨⟨vh, v, held, sn, false⟩, rfl, hwb.after0 hw4, hhb.below hw4.1, hsn.below hw4.1, hSl.done⟩
end Go.Proofs.Ytgnikdpgndmldaa
namespace Go.Proofs.Ytgnikdpgndmldaa
set_option linter.unusedVariables false
set_option linter.unusedSimpArgs false
open Go Go.RowKit
set_option linter.unusedVariables false

noncomputable def decC (p : Prop) : Bool := @decide p (Classical.propDecidable p)
theorem decC_t {p : Prop} (h : p) : decC p = true := @decide_eq_true p (Classical.propDecidable p) h
theorem decC_f {p : Prop} (h : ¬ p) : decC p = false := @decide_eq_false p (Classical.propDecidable p) h
theorem decC_iff {p : Prop} : decC p = true ↔ p := @decide_eq_true_iff p (Classical.propDecidable p)
noncomputable def covB (E : Nat → Nat → Prop) (R C : Nat) (need : Nat → Prop) : Bool := decC (Kn.Cov E R C need)
theorem covB_t {E : Nat → Nat → Prop} {R C : Nat} {need : Nat → Prop} (h : Kn.Cov E R C need) : covB E R C need = true := decC_t h
theorem covB_f {E : Nat → Nat → Prop} {R C : Nat} {need : Nat → Prop} (h : ¬ Kn.Cov E R C need) : covB E R C need = false := decC_f h
theorem covB_iff {E : Nat → Nat → Prop} {R C : Nat} {need : Nat → Prop} : covB E R C need = true ↔ Kn.Cov E R C need := decC_iff
theorem cov_zero {E : Nat → Nat → Prop} {C : Nat} {need : Nat → Prop} : Kn.Cov E 0 C need := ⟨fun _ => 0, fun r hr => by omega, fun r r' hr => by omega⟩
theorem ext_getD {α : Type} (d : α) {xs ys : List α} (hl : xs.length = ys.length) (h : ∀ i, i < ys.length → xs.getD i d = ys.getD i d) : xs = ys := by
  refine List.ext_getElem hl fun i h1 h2 => ?_
  have := h i h2
  rwa [Kn.getD_at _ _ _ h1, Kn.getD_at _ _ _ h2] at this
abbrev needs (rows : List Bool) (r : Nat) : Prop := rows.getD r false = true

set_option maxRecDepth 4000 in
set_option maxHeartbeats 2000000 in
theorem spec_l7Covers_ok (R C : Nat) (hC9 : C ≤ 1000) (hR9 : R ≤ 1000) (w : World) (vg : Value) (ug : List Value) (grid : List (List Bool)) (hg : RBB w vg ug grid) (vr : Value) (rows : List Bool) (hr : Rd w vr 1 rows.length (bools rows))
    (hR : grid.length = R) (hC : ∀ r, r < R → (grid.getD r []).length = C) (hrl : rows.length = R) :
    Calls Try.prog 50 ([vg, vr] : List Value).toArray w (Ret (.bool (covB (EG grid) R C (needs rows))) (Hp w [])) := by
  have hugl : ug.length = R := by rw [hg.2.1, hR]
  refine calls_tc Try.func50 rfl rfl rfl ?_
  change TC _ _ _ _ (Hp w []) [(0, vg), (1, vr)]
  refine TC.seq ?_
  refine TC.region ?_
  refine TL.op (yq (y_assign ev_c)) rfl rfl rfl ?_
  refine TL.nil ?_
  refine TN.seq ?_
  refine TC.seq ?_
  refine TC.seq ?_
  refine TC.region ?_
  refine TL.op (yq (y_move (ev_t rfl))) rfl rfl rfl ?_
  refine TL.op (yq (y_len (ev_t rfl) Try.underlying66 (fun w hw => (((rbb_arg hg) w hw).1).ln))) rfl rfl rfl ?_
  refine TL.op (yq (y_eql (ev_t rfl) ev_c)) rfl rfl rfl ?_
  refine TL.nil ?_
  refine TN.seq ?_
  refine TC.cond (b := decide ((ug.length : Int) = 0)) (ev_t rfl) (fun h1 => ?_) (fun h1 => ?_)
  · have hR0 : R = 0 := by have := of_decide_eq_true h1; omega
    subst hR0
    refine TC.seq ?_
    refine TC.region ?_
    refine TL.op (yq (y_assign ev_c)) rfl rfl rfl ?_
    refine TL.nil ?_
    refine TN.seq ?_
    refine TC.ret ?_
    repeat first | refine TN.thenR ?_ | refine TN.blockR ?_
    rw [covB_t cov_zero]
    exact TN.ret1 rfl (ev_t rfl) (fun w' hw => ⟨rfl, hw⟩)
  have hRp : 0 < R := by have := of_decide_eq_false h1; omega
  have hug0 : 0 < ug.length := by omega
  have hgr0 : 0 < grid.length := by omega
  have hg0 : (grid.getD 0 []).length = C := hC 0 hRp
  refine TC.skip ?_
  refine TN.seq ?_
  refine TC.seq ?_
  refine TC.region ?_
  refine TL.op (yq (y_move (ev_t rfl))) rfl rfl rfl ?_
  refine TL.op (yq (y_idx (k := 0) (ev_t rfl) ev_c rfl slT_66 (fun w hw => ((rbb_arg hg) w hw).1) hug0)) rfl rfl rfl ?_
  refine TL.op (yq (y_ldu (ev_t rfl) one_64 (fun w hw => ((rbb_arg hg) w hw).1) hug0)) rfl rfl rfl ?_
  refine TL.op (yq (y_len (ev_t rfl) Try.underlying64 (fun w hw => (((rbb_arg hg) w hw).2.2 0 hgr0).ln))) rfl rfl rfl ?_
  refine TL.makeSlice (n := (grid.getD 0 []).length) (ev_t rfl) (ev_t rfl) rfl slT_25 rfl (by omega) (by unfold maxLen; omega) rfl (fun v5 => ?_)
  refine TL.cls (fun w hw => hw.zeros) ?_
  rw [hg0]
  refine TL.op (yq (y_assign (ev_t rfl))) rfl rfl rfl ?_
  refine TL.nil ?_
  refine TN.seq ?_
  refine TC.seq ?_
  refine TC.seq ?_
  refine TC.region ?_
  refine TL.op (yq (y_assign ev_c)) rfl rfl rfl ?_
  refine TL.nil ?_
  refine TN.seq ?_
  refine TC.block ?_
  refine TC.loop (ι := Nat × List Int) (fun (i, _) => [(0, vg), (1, vr), (5, v5), (6, .int .i64 (i : Int))]) (fun (_, zs) => Hp w [rowI 3 v5 zs])
    (fun (i, zs) => i ≤ C ∧ zs.length = C ∧ ∀ j, j < i → zs.getD j 0 = -1) (fun (i, _) => C - i) (0, List.replicate C 0)
    ⟨Nat.zero_le _, by simp, fun j hj => by omega⟩ ⟨rfl, rfl, rfl, rfl, trivial⟩ (fun w hw => hw) ?_
  rintro ⟨i, zs⟩ hJ
  obtain ⟨hi, hzl, hz⟩ : i ≤ C ∧ zs.length = C ∧ ∀ j, j < i → zs.getD j 0 = -1 := hJ
  change TC _ _ _ _ (Hp w [rowI 3 v5 zs]) [(0, vg), (1, vr), (5, v5), (6, .int .i64 (i : Int))]
  refine TC.seq ?_
  refine TC.seq ?_
  refine TC.region ?_
  refine TL.op (yq (y_move (ev_t rfl))) rfl rfl rfl ?_
  refine TL.op (yq (y_move (ev_t rfl))) rfl rfl rfl ?_
  refine TL.op (yq (y_len (ev_t rfl) Try.underlying25 (fun w hw => ((ri_row 0 rfl) w hw).ln))) rfl rfl rfl ?_
  refine TL.op (yq (y_lss (ev_t rfl) (ev_t rfl))) rfl rfl rfl ?_
  refine TL.nil ?_
  refine TN.seq ?_
  refine TC.cond (b := decide ((i : Int) < (zs.length : Int))) (ev_t rfl) (fun h2 => ?_) (fun h2 => ?_)
  · have hiC : i < C := by have := of_decide_eq_true h2; omega
    have hiz : i < zs.length := by omega
    refine TC.skip ?_
    refine TN.seq ?_
    refine TC.seq ?_
    refine TC.block ?_
    refine TC.region ?_
    refine TL.op (yq (y_move (ev_t rfl))) rfl rfl rfl ?_
    refine TL.op (yq (y_move (ev_t rfl))) rfl rfl rfl ?_
    refine TL.op (yq (y_idxi (k := i) (ev_t rfl) (ev_t rfl) rfl slT_25 (ri_row 0 rfl) hiz)) rfl rfl rfl ?_
    refine TL.storeI 0 (ev_t rfl) ev_c one_3 rfl hiz ?_
    refine TL.nil ?_
    refine TN.blockN ?_
    refine TN.seq ?_
    refine TC.region ?_
    refine TL.op (yq (y_move (ev_t rfl))) rfl rfl rfl ?_
    refine TL.op (yq (y_add (ev_t rfl) ev_c (by unfold In64; constructor <;> omega))) rfl rfl rfl ?_
    refine TL.op (yq (y_assign (ev_t rfl))) rfl rfl rfl ?_
    refine TL.nil ?_
    refine TN.hand (i + 1, zs.set i (-1)) ⟨hiC, by rw [List.length_set]; exact hzl, fun j hj => ?_⟩ (by show C - (i + 1) < C - i; omega) ⟨rfl, rfl, rfl, rfl, trivial⟩ (fun w hw => hw)
    rw [Kn.getD_set _ _ _ _ _ hiz]
    split
    · rfl
    · exact hz j (by omega)
  have hiC : i = C := by have := of_decide_eq_false h2; omega
  have hzs : zs = List.replicate C (-1) := ext_getD 0 (by simp [hzl]) (fun j hj => by
    rw [List.length_replicate] at hj
    rw [hz j (by omega), getD_rep _ _ _ _ hj])
  subst hzs
  refine TC.exit ?_
  repeat first | refine TN.thenE ?_ | refine TN.blockM rfl ?_
  refine TN.blockH ?_
  refine TN.seq ?_
  refine TC.base fun w1 hw1 => ?_
  have hw1' : Hp w [] w1 := hw1.nl
  have hv5 : RI w1 v5 (List.replicate C (-1)) := (ri_row 0 rfl) w1 hw1
  refine TC.seq ?_
  refine TC.seq ?_
  refine TC.region ?_
  refine TL.op (yq (y_assign ev_c)) rfl rfl rfl ?_
  refine TL.nil ?_
  refine TN.seq ?_
  refine TC.block ?_
  refine TC.loop (ι := World × Nat × Value × List Int) (fun (_, r, v, _) => [(0, vg), (1, vr), (5, v), (7, .int .i64 (r : Int))]) (fun (wb, _, _, _) => Hp wb [])
    (fun (wb, r, v, held) => Hp w [] wb ∧ r ≤ R ∧ RI wb v held ∧ Kn.Kc (EG grid) R C (needs rows) r held) (fun (_, r, _, _) => R - r) (w1, 0, v5, List.replicate C (-1))
    ⟨hw1', Nat.zero_le _, hv5, Kn.Kc.start C⟩ ⟨rfl, rfl, rfl, rfl, trivial⟩ (fun w hw => hw) ?_
  rintro ⟨wb, r, v, held⟩ hJ
  obtain ⟨hwb, hrR, hvh, hK⟩ : Hp w [] wb ∧ r ≤ R ∧ RI wb v held ∧ Kn.Kc (EG grid) R C (needs rows) r held := hJ
  change TC _ _ _ _ (Hp wb []) [(0, vg), (1, vr), (5, v), (7, .int .i64 (r : Int))]
  have hgb : RBB wb vg ug grid := hg.below hwb.1
  have hrb : Rd wb vr 1 rows.length (bools rows) := hr.below hwb.1
  have hhl : held.length = C := hK.hd.1
  refine TC.seq ?_
  refine TC.seq ?_
  refine TC.region ?_
  refine TL.op (yq (y_move (ev_t rfl))) rfl rfl rfl ?_
  refine TL.op (yq (y_move (ev_t rfl))) rfl rfl rfl ?_
  refine TL.op (yq (y_len (ev_t rfl) Try.underlying66 (fun w hw => (((rbb_arg hgb) w hw).1).ln))) rfl rfl rfl ?_
  refine TL.op (yq (y_lss (ev_t rfl) (ev_t rfl))) rfl rfl rfl ?_
  refine TL.nil ?_
  refine TN.seq ?_
  refine TC.cond (b := decide ((r : Int) < (ug.length : Int))) (ev_t rfl) (fun h3 => ?_) (fun h3 => ?_)
  · have hrl' : r < R := by have := of_decide_eq_true h3; omega
    have hrr : r < rows.length := by omega
    refine TC.skip ?_
    refine TN.seq ?_
    refine TC.seq ?_
    refine TC.block ?_
    refine TC.seq ?_
    refine TC.region ?_
    refine TL.op (yq (y_move (ev_t rfl))) rfl rfl rfl ?_
    refine TL.op (yq (y_move (ev_t rfl))) rfl rfl rfl ?_
    refine TL.op (yq (y_idx (k := r) (ev_t rfl) (ev_t rfl) rfl slT_64 (rd_arg hrb) hrr)) rfl rfl rfl ?_
    refine TL.op (yq (y_ldbo (ev_t rfl) one_4 (rd_arg hrb) hrr)) rfl rfl rfl ?_
    refine TL.nil ?_
    refine TN.seq ?_
    refine TC.cond (b := rows.getD r false) (ev_t rfl) (fun h4 => ?_) (fun h4 => ?_)
    · skip
      refine TC.seq ?_
      refine TC.region ?_
      refine TL.op (yq (y_move (ev_t rfl))) rfl rfl rfl ?_
      refine TL.op (yq (y_move (ev_t rfl))) rfl rfl rfl ?_
      refine TL.op (yq (y_move (ev_t rfl))) rfl rfl rfl ?_
      refine TL.op (yq (y_len (ev_t rfl) Try.underlying25 (fun w hw => ((ri_arg hvh) w hw).ln))) rfl rfl rfl ?_
      refine TL.makeSlice (n := held.length) (ev_t rfl) (ev_t rfl) rfl slT_64 rfl (by omega) (by unfold maxLen; omega) rfl (fun v6 => ?_)
      refine TL.cls (fun w hw => hw.zerosB) ?_
      rw [hhl]
      refine TL.op (yq (y_move (ev_t rfl))) rfl rfl rfl ?_
      refine TL.callx (ι := Value × Value × List Int × List Bool × Bool) (vs := [vg, v, v6, (.int .i64 (r : Int))]) (fun u => .tuple #[u.1, u.2.1, .bool u.2.2.2.2])
        (fun u w' => RI w' u.1 u.2.2.1 ∧ Rd w' u.2.1 1 u.2.2.2.1.length (bools u.2.2.2.1) ∧ Kn.TryR (EG grid) R C held (List.replicate C false) r u.2.2.1 u.2.2.2.1 u.2.2.2.2) en_67 ⟨(ev_t rfl), (ev_t rfl), (ev_t rfl), (ev_t rfl), trivial⟩ rfl
        (fun w3 hw3 => spec_l7Try_ok R C hC9 (C + 1) w3 vg ug grid (hgb.below hw3.1) v held (hvh.below hw3.1) v6 (List.replicate C false) ((rd_row 0 rfl) w3 hw3) r hR hC hK.hd (by simp) hrl' (by rw [List.count_replicate_self]; omega)) ?_
      rintro ⟨u1, u2, next, more, ok⟩ w3 hw3 ⟨hr1, hr2, hT⟩
      have hw3' : Hp w [] w3 := hwb.after0 hw3.nl
      refine TL.op (yq (y_move (ev_t rfl))) rfl rfl rfl ?_
      refine TL.op (yq (y_extract (ev_t rfl) rfl)) rfl rfl rfl ?_
      refine TL.op (yq (y_extract (ev_t rfl) rfl)) rfl rfl rfl ?_
      refine TL.op (yq (y_extract (ev_t rfl) rfl)) rfl rfl rfl ?_
      refine TL.op (yq (y_assign (ev_t rfl))) rfl rfl rfl ?_
      refine TL.op (yq (y_assign (ev_t rfl))) rfl rfl rfl ?_
      refine TL.op (yq (y_assign (ev_t rfl))) rfl rfl rfl ?_
      refine TL.nil ?_
      refine TN.seq ?_
      refine TC.seq ?_
      refine TC.seq ?_
      refine TC.region ?_
      refine TL.op (yq (y_move (ev_t rfl))) rfl rfl rfl ?_
      refine TL.op (yq (y_not (ev_t rfl))) rfl rfl rfl ?_
      refine TL.nil ?_
      refine TN.seq ?_
      refine TC.cond (b := !ok) (ev_t rfl) (fun h5 => ?_) (fun h5 => ?_)
      · have h5' : ok = false := not_t h5
        subst h5'
        refine TC.seq ?_
        refine TC.region ?_
        refine TL.op (yq (y_assign ev_c)) rfl rfl rfl ?_
        refine TL.nil ?_
        refine TN.seq ?_
        refine TC.ret ?_
        repeat first | refine TN.thenR ?_ | refine TN.blockR ?_
        rw [covB_f (hK.fail hrl' h4 hT)]
        exact TN.ret1 rfl (ev_t rfl) (fun w' hw => ⟨rfl, hw3'.after0 hw⟩)
      · have h5' : ok = true := not_f h5
        subst h5'
        refine TC.skip ?_
        refine TN.seq ?_
        refine TC.region ?_
        refine TL.op (yq (y_move (ev_t rfl))) rfl rfl rfl ?_
        refine TL.op (yq (y_assign (ev_t rfl))) rfl rfl rfl ?_
        refine TL.nil ?_
        refine TN.blockN ?_
        refine TN.seq ?_
        refine TC.region ?_
        refine TL.op (yq (y_move (ev_t rfl))) rfl rfl rfl ?_
        refine TL.op (yq (y_add (ev_t rfl) ev_c (by unfold In64; constructor <;> omega))) rfl rfl rfl ?_
        refine TL.op (yq (y_assign (ev_t rfl))) rfl rfl rfl ?_
        refine TL.nil ?_
        exact TN.hand (w3, r + 1, u1, next) ⟨hw3', hrl', hr1, hK.step h4 hT⟩ (by show R - (r + 1) < R - r; omega) ⟨rfl, rfl, rfl, rfl, trivial⟩ (fun w hw => hw)
    · skip
      refine TC.skip ?_
      refine TN.blockN ?_
      refine TN.seq ?_
      refine TC.region ?_
      refine TL.op (yq (y_move (ev_t rfl))) rfl rfl rfl ?_
      refine TL.op (yq (y_add (ev_t rfl) ev_c (by unfold In64; constructor <;> omega))) rfl rfl rfl ?_
      refine TL.op (yq (y_assign (ev_t rfl))) rfl rfl rfl ?_
      refine TL.nil ?_
      exact TN.hand (wb, r + 1, v, held) ⟨hwb, hrl', hvh, hK.skip (by show ¬ rows.getD r false = true; rw [h4]; simp)⟩ (by show R - (r + 1) < R - r; omega) ⟨rfl, rfl, rfl, rfl, trivial⟩ (fun w hw => hw)
  · have hrl' : r = R := by have := of_decide_eq_false h3; omega
    subst hrl'
    refine TC.exit ?_
    repeat first | refine TN.thenE ?_ | refine TN.blockM rfl ?_
    refine TN.blockH ?_
    refine TN.seq ?_
    refine TC.seq ?_
    refine TC.region ?_
    refine TL.op (yq (y_assign ev_c)) rfl rfl rfl ?_
    refine TL.nil ?_
    refine TN.seq ?_
    refine TC.ret ?_
    rw [covB_t hK.all]
    exact TN.ret1 rfl (ev_t rfl) (fun w' hw => ⟨rfl, hwb.after0 hw⟩)

set_option maxRecDepth 4000 in
theorem spec_l7All_ok (w : World) (n : Nat) (hn : n ≤ 1000) :
    Calls Try.prog 52 ([.int .i64 (n : Int)] : List Value).toArray w (fun e w' => ∃ i : Value, e = .returned i ∧ Hp w [rowB 4 i (List.replicate n true)] w') := by
  refine calls_tc Try.func52 rfl rfl rfl ?_
  change TC _ _ _ _ (Hp w []) [(0, .int .i64 (n : Int))]
  refine TC.seq ?_
  refine TC.region ?_
  refine TL.op (yq (y_assign ev_c)) rfl rfl rfl ?_
  refine TL.nil ?_
  refine TN.seq ?_
  refine TC.seq ?_
  refine TC.region ?_
  refine TL.build0 slT_64 rfl (fun v1 => ?_)
  refine TL.op (yq (y_assign (ev_t rfl))) rfl rfl rfl ?_
  refine TL.nil ?_
  refine TN.seq ?_
  refine TC.seq ?_
  refine TC.seq ?_
  refine TC.region ?_
  refine TL.op (yq (y_assign ev_c)) rfl rfl rfl ?_
  refine TL.nil ?_
  refine TN.seq ?_
  refine TC.block ?_
  refine TC.loop (ι := Nat × Value) (fun (i, v) => [(0, .int .i64 (n : Int)), (3, v), (4, .int .i64 (i : Int))]) (fun (i, v) => Hp w [rowB 4 v (List.replicate i true)])
    (fun (i, _) => i ≤ n) (fun (i, _) => n - i) (0, v1)
    (Nat.zero_le _) ⟨rfl, rfl, rfl, trivial⟩ (fun w hw => hw) ?_
  rintro ⟨i, v⟩ hJ
  have hi : i ≤ n := hJ
  change TC _ _ _ _ (Hp w [rowB 4 v (List.replicate i true)]) [(0, .int .i64 (n : Int)), (3, v), (4, .int .i64 (i : Int))]
  refine TC.seq ?_
  refine TC.seq ?_
  refine TC.region ?_
  refine TL.op (yq (y_move (ev_t rfl))) rfl rfl rfl ?_
  refine TL.op (yq (y_move (ev_t rfl))) rfl rfl rfl ?_
  refine TL.op (yq (y_lss (ev_t rfl) (ev_t rfl))) rfl rfl rfl ?_
  refine TL.nil ?_
  refine TN.seq ?_
  refine TC.cond (b := decide ((i : Int) < (n : Int))) (ev_t rfl) (fun h2 => ?_) (fun h2 => ?_)
  · have hin : i < n := by have := of_decide_eq_true h2; omega
    refine TC.skip ?_
    refine TN.seq ?_
    refine TC.seq ?_
    refine TC.block ?_
    refine TC.region ?_
    refine TL.op (yq (y_move (ev_t rfl))) rfl rfl rfl ?_
    refine TL.buildBo (zs := [.const (.bool true)]) (qs := [true]) slT_64 rfl ⟨ev_c, trivial⟩ rfl (by omega) rfl (fun v2 => ?_)
    refine TL.appendBo (zs := List.replicate i true) (qs := [true]) 1 (ev_t rfl) (ev_t rfl) rfl slT_64 (rd_row 0 rfl) (by simp; omega) rfl (fun v3 => ?_)
    refine TL.op (yq (y_assign (ev_t rfl))) rfl rfl rfl ?_
    refine TL.nil ?_
    refine TN.blockN ?_
    refine TN.seq ?_
    refine TC.region ?_
    refine TL.op (yq (y_move (ev_t rfl))) rfl rfl rfl ?_
    refine TL.op (yq (y_add (ev_t rfl) ev_c (by unfold In64; constructor <;> omega))) rfl rfl rfl ?_
    refine TL.op (yq (y_assign (ev_t rfl))) rfl rfl rfl ?_
    refine TL.nil ?_
    refine TN.hand (i + 1, v3) hin (by show n - (i + 1) < n - i; omega) ⟨rfl, rfl, rfl, trivial⟩ (fun w hw => ?_)
    have := Hp.sublist (os' := [rowB 4 v3 (List.replicate i true ++ [true])]) hw (by simp)
    rwa [← List.replicate_succ'] at this
  · have hin : i = n := by have := of_decide_eq_false h2; omega
    subst hin
    refine TC.exit ?_
    repeat first | refine TN.thenE ?_ | refine TN.blockM rfl ?_
    refine TN.blockH ?_
    refine TN.seq ?_
    refine TC.seq ?_
    refine TC.region ?_
    refine TL.op (yq (y_move (ev_t rfl))) rfl rfl rfl ?_
    refine TL.op (yq (y_assign (ev_t rfl))) rfl rfl rfl ?_
    refine TL.nil ?_
    refine TN.seq ?_
    refine TC.ret ?_
    exact TN.ret1 rfl (ev_t rfl) (fun w' hw => ⟨v, rfl, hw⟩)
end Go.Proofs.Ytgnikdpgndmldaa
namespace Go.Proofs.Ytgnikdpgndmldaa
set_option linter.unusedVariables false
set_option linter.unusedSimpArgs false
open Go Go.RowKit
set_option linter.unusedVariables false

/-- The table of a function of two numbers. -/
def tbl (f : Nat → Nat → Bool) (R C : Nat) : List (List Bool) := (List.range R).map fun i => (List.range C).map (f i)
theorem tbl_succ (f : Nat → Nat → Bool) (R C : Nat) : tbl f (R + 1) C = tbl f R C ++ [(List.range C).map (f R)] := by unfold tbl; rw [List.range_succ, List.map_append]; rfl
theorem tbl_len (f : Nat → Nat → Bool) (R C : Nat) : (tbl f R C).length = R := by simp [tbl]
theorem tbl_row (f : Nat → Nat → Bool) (R C : Nat) {i : Nat} (h : i < R) : (tbl f R C).getD i [] = (List.range C).map (f i) := by
  rw [Kn.getD_at _ _ _ (by rw [tbl_len]; exact h)]; simp [tbl]
theorem range_getD (f : Nat → Bool) (C : Nat) {j : Nat} (h : j < C) : ((List.range C).map f).getD j false = f j := by
  rw [Kn.getD_at _ _ _ (by simpa using h)]; simp
theorem tbl_rlen (f : Nat → Nat → Bool) (R C : Nat) {i : Nat} (h : i < R) : ((tbl f R C).getD i []).length = C := by rw [tbl_row f R C h]; simp
theorem tbl_eg (f : Nat → Nat → Bool) (R C : Nat) {i j : Nat} (h : i < R) (hj : j < C) : EG (tbl f R C) i j ↔ f i j = true := by
  unfold EG; rw [tbl_row f R C h, range_getD _ _ hj]
theorem cov_congr {E E' : Nat → Nat → Prop} {R C : Nat} {need need' : Nat → Prop} (hE : ∀ i j, i < R → j < C → (E i j ↔ E' i j)) (hn : ∀ i, i < R → (need i ↔ need' i)) : Kn.Cov E R C need ↔ Kn.Cov E' R C need' := by
  constructor
  · rintro ⟨f, h1, h2⟩
    exact ⟨f, fun r hr hne => ⟨(h1 r hr ((hn r hr).2 hne)).1, (hE r _ hr (h1 r hr ((hn r hr).2 hne)).1).1 (h1 r hr ((hn r hr).2 hne)).2⟩, fun r r' hr hr' ha hb => h2 r r' hr hr' ((hn r hr).2 ha) ((hn r' hr').2 hb)⟩
  · rintro ⟨f, h1, h2⟩
    exact ⟨f, fun r hr hne => ⟨(h1 r hr ((hn r hr).1 hne)).1, (hE r _ hr (h1 r hr ((hn r hr).1 hne)).1).2 (h1 r hr ((hn r hr).1 hne)).2⟩, fun r r' hr hr' ha hb => h2 r r' hr hr' ((hn r hr).1 ha) ((hn r' hr').1 hb)⟩

/-- The rows of a table of booleans lie in a bag. -/
def BagOk (us : List Value) (bss : List (List Bool)) (L : List (Value × List Value)) : Prop := us.length = bss.length ∧ ∀ i, i < bss.length → (us.getD i undef, bools (bss.getD i [])) ∈ L
theorem BagOk.nil (L : List (Value × List Value)) : BagOk [] [] L := ⟨rfl, fun i hi => by simp at hi⟩
theorem getD_last {α : Type} (xs : List α) (x d : α) {i : Nat} (h : i < xs.length + 1) : (xs ++ [x]).getD i d = if i = xs.length then x else xs.getD i d := by
  rw [Kn.getD_at _ _ _ (by simpa using h), List.getElem_append]
  split
  · rename_i h1
    rw [if_neg (by omega), Kn.getD_at _ _ _ h1]
  · rename_i h1
    rw [if_pos (by omega)]
    simp
theorem BagOk.push {us : List Value} {bss : List (List Bool)} {L : List (Value × List Value)} (h : BagOk us bss L) (u : Value) (bs : List Bool) : BagOk (us ++ [u]) (bss ++ [bs]) ((u, bools bs) :: L) := by
  have h1 := h.1
  refine ⟨by simp [h1], fun i hi => ?_⟩
  simp only [List.length_append, List.length_cons, List.length_nil] at hi
  rw [getD_last us u undef (by omega), getD_last bss bs [] (by omega)]
  by_cases e : i = us.length
  · rw [if_pos e, if_pos (by omega)]; simp
  · rw [if_neg e, if_neg (by omega)]; exact List.mem_cons_of_mem _ (h.2 i (by omega))
theorem rbb_bag {w0 w : World} {os : List Ck} (p q : Nat) {e e1 : TypeId} {v : Value} {us : List Value} {gs : List Nat} {L : List (Value × List Value)} {bss : List (List Bool)} (ho : os[p]? = some (.row v e1 1 us.length us)) (hq : os[q]? = some (bagCk e gs L)) (hB : BagOk us bss L)
    (hw : Hp w0 os w) : RBB w v us bss := by
  refine ⟨(rd_row p ho) w hw, hB.1, fun i hi => ?_⟩
  have := bag_rd q hq (hB.2 i hi) w hw
  rwa [len_bools] at this

set_option maxRecDepth 4000 in
set_option maxHeartbeats 2000000 in
theorem spec_l7Turned_ok (R C : Nat) (hC9 : C ≤ 1000) (hR9 : R ≤ 1000) (w : World) (vg : Value) (ug : List Value) (grid : List (List Bool)) (hg : RBB w vg ug grid)
    (hR : grid.length = R) (hRp : 0 < R) (hC : ∀ r, r < R → (grid.getD r []).length = C) :
    Calls Try.prog 51 ([vg] : List Value).toArray w (fun e w' => ∃ i : Value × List Value, e = .returned i.1 ∧ Hp w [] w' ∧ RBB w' i.1 i.2 (tbl (fun i l => (grid.getD l []).getD i false) C R)) := by
  have hugl : ug.length = R := by rw [hg.2.1, hR]
  have hug0 : 0 < ug.length := by omega
  have hgr0 : 0 < grid.length := by omega
  have hg0 : (grid.getD 0 []).length = C := hC 0 hRp
  have hfd : ∃ f : Nat → Nat → Bool, f = fun i l => (grid.getD l []).getD i false := ⟨_, rfl⟩
  obtain ⟨f, hf⟩ := hfd
  rw [← hf]
  refine calls_tc Try.func51 rfl rfl rfl ?_
  change TC _ _ _ _ (Hp w []) [(0, vg)]
  refine TC.seq ?_
  refine TC.region ?_
  refine TL.op (yq (y_assign ev_c)) rfl rfl rfl ?_
  refine TL.nil ?_
  refine TN.seq ?_
  refine TC.seq ?_
  refine TC.region ?_
  refine TL.build0 slT_66 rfl (fun v1 => ?_)
  refine TL.op (yq (y_assign (ev_t rfl))) rfl rfl rfl ?_
  refine TL.nil ?_
  refine TN.seq ?_
  refine TC.seq ?_
  refine TC.seq ?_
  refine TC.region ?_
  refine TL.op (yq (y_assign ev_c)) rfl rfl rfl ?_
  refine TL.nil ?_
  refine TN.seq ?_
  refine TC.block ?_
  refine TC.loop (ι := Nat × Value × List Value × List Nat × List (Value × List Value)) (fun (i, v, _, _, _) => [(0, vg), (3, v), (4, .int .i64 (i : Int))]) (fun (_, v, us, gs, L) => Hp w [bagCk 4 gs L, .row v 64 1 us.length us])
    (fun (i, _, us, _, L) => i ≤ C ∧ BagOk us (tbl f i R) L) (fun (i, _, _, _, _) => C - i) (0, v1, [], [], [])
    ⟨Nat.zero_le _, BagOk.nil _⟩ ⟨rfl, rfl, rfl, trivial⟩ (fun w hw => hw.bag0) ?_
  rintro ⟨i, v, us, gs, L⟩ hJ
  obtain ⟨hi, hB⟩ : i ≤ C ∧ BagOk us (tbl f i R) L := hJ
  change TC _ _ _ _ (Hp w [bagCk 4 gs L, .row v 64 1 us.length us]) [(0, vg), (3, v), (4, .int .i64 (i : Int))]
  have husl : us.length = i := by rw [hB.1, tbl_len]
  refine TC.seq ?_
  refine TC.seq ?_
  refine TC.region ?_
  refine TL.op (yq (y_move (ev_t rfl))) rfl rfl rfl ?_
  refine TL.op (yq (y_len (ev_t rfl) Try.underlying66 (fun w hw => (((rbb_arg hg) w hw).1).ln))) rfl rfl rfl ?_
  refine TL.op (yq (y_gtr (ev_t rfl) ev_c)) rfl rfl rfl ?_
  refine TL.op (yq (y_move (ev_t rfl))) rfl rfl rfl ?_
  refine TL.opw (w_t rfl rfl rfl) (fun hg => yq (y_move (ev_t rfl))) rfl rfl ?_
  refine TL.opw (w_t rfl rfl rfl) (fun hg' => yq (y_move (ev_t rfl))) rfl rfl ?_
  refine TL.opw (w_t rfl rfl rfl) (fun hg' => yq (y_idx (k := 0) (ev_g rfl hg') ev_c rfl slT_66 (fun w hw => ((rbb_arg hg) w hw).1) hug0)) rfl rfl ?_
  refine TL.opw (w_t rfl rfl rfl) (fun hg' => yq (y_ldu (ev_g rfl hg') one_64 (fun w hw => ((rbb_arg hg) w hw).1) hug0)) rfl rfl ?_
  refine TL.opw (w_t rfl rfl rfl) (fun hg' => yq (y_len (ev_g rfl hg') Try.underlying64 (fun w hw => (((rbb_arg hg) w hw).2.2 0 hgr0).ln))) rfl rfl ?_
  refine TL.opw (w_t rfl rfl rfl) (fun hg' => yq (y_lss (ev_g rfl hg') (ev_g rfl hg'))) rfl rfl ?_
  refine TL.op (yq (y_and (ev_t rfl) (fun hq => (ev_g rfl hq)))) rfl rfl rfl ?_
  refine TL.nil ?_
  refine TN.seq ?_
  refine TC.cond (b := (decide ((0 : Int) < (ug.length : Int)) && decide ((i : Int) < ((grid.getD 0 []).length : Int)))) (ev_t rfl) (fun h1 => ?_) (fun h1 => ?_)
  · have hiC : i < C := by have := of_decide_eq_true (and_t h1).2; omega
    refine TC.skip ?_
    refine TN.seq ?_
    refine TC.seq ?_
    refine TC.block ?_
    refine TC.seq ?_
    refine TC.region ?_
    refine TL.build0 slT_64 rfl (fun v2 => ?_)
    refine TL.op (yq (y_assign (ev_t rfl))) rfl rfl rfl ?_
    refine TL.nil ?_
    refine TN.seq ?_
    refine TC.seq ?_
    refine TC.seq ?_
    refine TC.region ?_
    refine TL.op (yq (y_assign ev_c)) rfl rfl rfl ?_
    refine TL.nil ?_
    refine TN.seq ?_
    refine TC.block ?_
    refine TC.loop (ι := Nat × Value) (fun (l, u) => [(0, vg), (3, v), (4, .int .i64 (i : Int)), (5, u), (6, .int .i64 (l : Int))]) (fun (l, u) => Hp w [rowB 4 u ((List.range l).map (f i)), bagCk 4 gs L, .row v 64 1 us.length us])
      (fun (l, _) => l ≤ R) (fun (l, _) => R - l) (0, v2)
      (Nat.zero_le _) ⟨rfl, rfl, rfl, rfl, rfl, trivial⟩ (fun w hw => hw) ?_
    rintro ⟨l, u⟩ hJ2
    have hl : l ≤ R := hJ2
    change TC _ _ _ _ (Hp w [rowB 4 u ((List.range l).map (f i)), bagCk 4 gs L, .row v 64 1 us.length us]) [(0, vg), (3, v), (4, .int .i64 (i : Int)), (5, u), (6, .int .i64 (l : Int))]
    refine TC.seq ?_
    refine TC.seq ?_
    refine TC.region ?_
    refine TL.op (yq (y_move (ev_t rfl))) rfl rfl rfl ?_
    refine TL.op (yq (y_move (ev_t rfl))) rfl rfl rfl ?_
    refine TL.op (yq (y_len (ev_t rfl) Try.underlying66 (fun w hw => (((rbb_arg hg) w hw).1).ln))) rfl rfl rfl ?_
    refine TL.op (yq (y_lss (ev_t rfl) (ev_t rfl))) rfl rfl rfl ?_
    refine TL.nil ?_
    refine TN.seq ?_
    refine TC.cond (b := decide ((l : Int) < (ug.length : Int))) (ev_t rfl) (fun h2 => ?_) (fun h2 => ?_)
    · have hlR : l < R := by have := of_decide_eq_true h2; omega
      have hlu : l < ug.length := by omega
      have hlg : l < grid.length := by omega
      have hil : i < (grid.getD l []).length := by rw [hC l hlR]; exact hiC
      refine TC.skip ?_
      refine TN.seq ?_
      refine TC.seq ?_
      refine TC.block ?_
      refine TC.region ?_
      refine TL.op (yq (y_move (ev_t rfl))) rfl rfl rfl ?_
      refine TL.op (yq (y_move (ev_t rfl))) rfl rfl rfl ?_
      refine TL.op (yq (y_move (ev_t rfl))) rfl rfl rfl ?_
      refine TL.op (yq (y_idx (k := l) (ev_t rfl) (ev_t rfl) rfl slT_66 (fun w hw => ((rbb_arg hg) w hw).1) hlu)) rfl rfl rfl ?_
      refine TL.op (yq (y_ldu (ev_t rfl) one_64 (fun w hw => ((rbb_arg hg) w hw).1) hlu)) rfl rfl rfl ?_
      refine TL.op (yq (y_move (ev_t rfl))) rfl rfl rfl ?_
      refine TL.op (yq (y_idx (k := i) (ev_t rfl) (ev_t rfl) rfl slT_64 (fun w hw => ((rbb_arg hg) w hw).2.2 l hlg) hil)) rfl rfl rfl ?_
      refine TL.op (yq (y_ldbo (ev_t rfl) one_4 (fun w hw => ((rbb_arg hg) w hw).2.2 l hlg) hil)) rfl rfl rfl ?_
      refine TL.buildBo (zs := [.tmp 35]) (qs := [(grid.getD l []).getD i false]) slT_64 rfl ⟨(ev_t rfl), trivial⟩ rfl (by omega) rfl (fun v3 => ?_)
      refine TL.appendBo (zs := (List.range l).map (f i)) (qs := [(grid.getD l []).getD i false]) 1 (ev_t rfl) (ev_t rfl) rfl slT_64 (rd_row 0 rfl) (by simp; omega) rfl (fun v4 => ?_)
      refine TL.op (yq (y_assign (ev_t rfl))) rfl rfl rfl ?_
      refine TL.nil ?_
      refine TN.blockN ?_
      refine TN.seq ?_
      refine TC.region ?_
      refine TL.op (yq (y_move (ev_t rfl))) rfl rfl rfl ?_
      refine TL.op (yq (y_add (ev_t rfl) ev_c (by unfold In64; constructor <;> omega))) rfl rfl rfl ?_
      refine TL.op (yq (y_assign (ev_t rfl))) rfl rfl rfl ?_
      refine TL.nil ?_
      refine TN.hand (l + 1, v4) hlR (by show R - (l + 1) < R - l; omega) ⟨rfl, rfl, rfl, rfl, rfl, trivial⟩ (fun w hw => ?_)
      show Hp _ [rowB 4 v4 ((List.range (l + 1)).map (f i)), bagCk 4 gs L, .row v 64 1 us.length us] w
      have e1 : (List.range (l + 1)).map (f i) = (List.range l).map (f i) ++ [(grid.getD l []).getD i false] := by rw [List.range_succ, List.map_append, hf]; rfl
      rw [e1]
      exact Hp.sublist hw (List.sublist_cons_self _ _)
    · have hlR : l = R := by have := of_decide_eq_false h2; omega
      subst hlR
      refine TC.exit ?_
      repeat first | refine TN.thenE ?_ | refine TN.blockM rfl ?_
      refine TN.blockH ?_
      refine TN.seq ?_
      refine TC.region ?_
      refine TL.op (yq (y_move (ev_t rfl))) rfl rfl rfl ?_
      refine TL.op (yq (y_move (ev_t rfl))) rfl rfl rfl ?_
      refine TL.buildU slT_66 (ev_t rfl) (fun w hw => ((rd_row 0 rfl) w hw).ln) rfl (fun v5 => ?_)
      refine TL.appendV 3 0 (ev_t rfl) (ev_t rfl) rfl rfl slT_66 (fun w hw => ((rd_row 1 rfl) w hw).ln) (by omega) rfl (fun v6 => ?_)
      refine TL.op (yq (y_assign (ev_t rfl))) rfl rfl rfl ?_
      refine TL.nil ?_
      refine TN.blockN ?_
      refine TN.seq ?_
      refine TC.region ?_
      refine TL.op (yq (y_move (ev_t rfl))) rfl rfl rfl ?_
      refine TL.op (yq (y_add (ev_t rfl) ev_c (by unfold In64; constructor <;> omega))) rfl rfl rfl ?_
      refine TL.op (yq (y_assign (ev_t rfl))) rfl rfl rfl ?_
      refine TL.nil ?_
      refine TN.hand (i + 1, v6, us ++ [u], (obk u).toList ++ gs, (u, bools ((List.range l).map (f i))) :: L) ⟨hiC, by rw [tbl_succ]; exact hB.push _ _⟩ (by show C - (i + 1) < C - i; omega) ⟨rfl, rfl, rfl, trivial⟩ (fun w hw => ?_)
      exact Hp.bagPut (Hp.sublist hw (List.sublist_cons_self _ _))
  · have hiC : i = C := by
      rcases and_f h1 with h | h
      · have := of_decide_eq_false h; omega
      · have := of_decide_eq_false h; omega
    subst hiC
    refine TC.exit ?_
    repeat first | refine TN.thenE ?_ | refine TN.blockM rfl ?_
    refine TN.blockH ?_
    refine TN.seq ?_
    refine TC.seq ?_
    refine TC.region ?_
    refine TL.op (yq (y_move (ev_t rfl))) rfl rfl rfl ?_
    refine TL.op (yq (y_assign (ev_t rfl))) rfl rfl rfl ?_
    refine TL.nil ?_
    refine TN.seq ?_
    refine TC.ret ?_
    exact TN.ret1 rfl (ev_t rfl) (fun w' hw => ⟨(v, us), rfl, hw.nl, rbb_bag 1 0 rfl rfl hB hw⟩)
end Go.Proofs.Ytgnikdpgndmldaa
namespace Go.Proofs.Ytgnikdpgndmldaa
set_option linter.unusedVariables false
set_option linter.unusedSimpArgs false
open Go Go.RowKit
set_option linter.unusedVariables false

theorem map_full {f : Nat → Bool} {zs : List Bool} {n : Nat} (hl : zs.length = n) (h : ∀ j, j < n → zs.getD j false = f j) : zs = (List.range n).map f :=
  ext_getD false (by simp [hl]) (fun j hj => by
    rw [List.length_map, List.length_range] at hj
    rw [h j hj, range_getD _ _ hj])

set_option maxRecDepth 4000 in
set_option maxHeartbeats 2000000 in
theorem spec_l7Grid_ok (w : World) (vm : Value) (um : List Value) (m : List (List Int)) (hm : RII w vm um m) (va : Value) (a : List Int) (ha : RI w va a) (vreqs : Value) (reqs : List Int) (hreqs : RI w vreqs reqs)
    (vps : Value) (ps : List Int) (hps : RI w vps ps) (vrs : Value) (rs : List Int) (hrs : RI w vrs rs) (vb : Value) (begun : List Int) (hb : RI w vb begun) (hR : Rs m a reqs ps rs) :
    Calls Try.prog 49 ([(.agg #[vm]), va, vreqs, vps, vrs, vb] : List Value).toArray w (fun e w' => ∃ i : Value × List Value, e = .returned i.1 ∧ Hp w [] w' ∧ RBB w' i.1 i.2 (tbl (gridB m a reqs ps rs begun) (a.length + reqs.length) reqs.length)) := by
  have hlp := hR.lp
  have hlr := hR.lr
  have h60 := hR.sv.r60
  have hn3 := hR.sv.cf.n3
  have hblen := arg_len hb
  obtain ⟨f, hf⟩ : ∃ f : Nat → Nat → Bool, f = gridB m a reqs ps rs begun := ⟨_, rfl⟩
  rw [← hf]
  refine calls_tc Try.func49 rfl rfl rfl ?_
  change TC _ _ _ _ (Hp w []) [(0, .agg #[vm]), (1, va), (2, vreqs), (3, vps), (4, vrs), (5, vb)]
  refine TC.seq ?_
  refine TC.region ?_
  refine TL.box (ev_t rfl) rfl (fun g6 => ?_)
  refine TL.op (yq (y_assign ev_c)) rfl rfl rfl ?_
  refine TL.nil ?_
  refine TN.seq ?_
  refine TC.seq ?_
  refine TC.region ?_
  refine TL.build0 slT_66 rfl (fun v1 => ?_)
  refine TL.op (yq (y_assign (ev_t rfl))) rfl rfl rfl ?_
  refine TL.nil ?_
  refine TN.seq ?_
  refine TC.seq ?_
  refine TC.seq ?_
  refine TC.region ?_
  refine TL.op (yq (y_assign ev_c)) rfl rfl rfl ?_
  refine TL.nil ?_
  refine TN.seq ?_
  refine TC.block ?_
  refine TC.loop (ι := Nat × Value × List Value × List Nat × List (Value × List Value)) (fun (l, v, _, _, _) => [(0, .agg #[vm]), (1, va), (2, vreqs), (3, vps), (4, vrs), (5, vb), (6, .pointer (some ⟨g6, 0, none⟩)), (13, v), (14, .int .i64 (l : Int))])
    (fun (_, v, us, gs, L) => Hp w [bagCk 4 gs L, .row v 64 1 us.length us, .blk g6 29 [vm]])
    (fun (l, _, us, _, L) => l ≤ a.length + reqs.length ∧ BagOk us (tbl f l reqs.length) L) (fun (l, _, _, _, _) => a.length + reqs.length - l) (0, v1, [], [], [])
    ⟨Nat.zero_le _, BagOk.nil _⟩ ⟨rfl, rfl, rfl, rfl, rfl, rfl, rfl, rfl, rfl, trivial⟩ (fun w hw => hw.bag0) ?_
  rintro ⟨l, v, us, gs, L⟩ hJ
  obtain ⟨hl, hB⟩ : l ≤ a.length + reqs.length ∧ BagOk us (tbl f l reqs.length) L := hJ
  change TC _ _ _ _ (Hp w [bagCk 4 gs L, .row v 64 1 us.length us, .blk g6 29 [vm]]) [(0, .agg #[vm]), (1, va), (2, vreqs), (3, vps), (4, vrs), (5, vb), (6, .pointer (some ⟨g6, 0, none⟩)), (13, v), (14, .int .i64 (l : Int))]
  have husl : us.length = l := by rw [hB.1, tbl_len]
  refine TC.seq ?_
  refine TC.seq ?_
  refine TC.region ?_
  refine TL.op (yq (y_move (ev_t rfl))) rfl rfl rfl ?_
  refine TL.op (yq (y_move (ev_t rfl))) rfl rfl rfl ?_
  refine TL.op (yq (y_len (ev_t rfl) Try.underlying25 (fun w hw => ((ri_arg hrs) w hw).ln))) rfl rfl rfl ?_
  refine TL.op (yq (y_lss (ev_t rfl) (ev_t rfl))) rfl rfl rfl ?_
  refine TL.nil ?_
  refine TN.seq ?_
  refine TC.cond (b := decide ((l : Int) < (rs.length : Int))) (ev_t rfl) (fun h1 => ?_) (fun h1 => ?_)
  · have hlL : l < a.length + reqs.length := by have := of_decide_eq_true h1; omega
    refine TC.skip ?_
    refine TN.seq ?_
    refine TC.seq ?_
    refine TC.block ?_
    refine TC.seq ?_
    refine TC.region ?_
    refine TL.op (yq (y_move (ev_t rfl))) rfl rfl rfl ?_
    refine TL.op (yq (y_len (ev_t rfl) Try.underlying25 (fun w hw => ((ri_arg hreqs) w hw).ln))) rfl rfl rfl ?_
    refine TL.makeSlice (n := reqs.length) (ev_t rfl) (ev_t rfl) rfl slT_64 rfl (by omega) (by unfold maxLen; omega) rfl (fun v2 => ?_)
    refine TL.cls (fun w hw => hw.zerosB) ?_
    refine TL.op (yq (y_assign (ev_t rfl))) rfl rfl rfl ?_
    refine TL.nil ?_
    refine TN.seq ?_
    refine TC.seq ?_
    refine TC.seq ?_
    refine TC.region ?_
    refine TL.op (yq (y_assign ev_c)) rfl rfl rfl ?_
    refine TL.nil ?_
    refine TN.seq ?_
    refine TC.block ?_
    refine TC.loop (ι := Nat × List Bool) (fun (i, _) => [(0, .agg #[vm]), (1, va), (2, vreqs), (3, vps), (4, vrs), (5, vb), (6, .pointer (some ⟨g6, 0, none⟩)), (13, v), (14, .int .i64 (l : Int)), (15, v2), (16, .int .i64 (i : Int))])
      (fun (_, zs) => Hp w [rowB 4 v2 zs, bagCk 4 gs L, .row v 64 1 us.length us, .blk g6 29 [vm]])
      (fun (i, zs) => i ≤ reqs.length ∧ zs.length = reqs.length ∧ ∀ j, j < i → zs.getD j false = f l j) (fun (i, _) => reqs.length - i) (0, List.replicate reqs.length false)
      ⟨Nat.zero_le _, by simp, fun j hj => by omega⟩ ⟨rfl, rfl, rfl, rfl, rfl, rfl, rfl, rfl, rfl, rfl, rfl, trivial⟩ (fun w hw => hw) ?_
    rintro ⟨i, zs⟩ hJ2
    obtain ⟨hi, hzl, hz⟩ : i ≤ reqs.length ∧ zs.length = reqs.length ∧ ∀ j, j < i → zs.getD j false = f l j := hJ2
    change TC _ _ _ _ (Hp w [rowB 4 v2 zs, bagCk 4 gs L, .row v 64 1 us.length us, .blk g6 29 [vm]]) [(0, .agg #[vm]), (1, va), (2, vreqs), (3, vps), (4, vrs), (5, vb), (6, .pointer (some ⟨g6, 0, none⟩)), (13, v), (14, .int .i64 (l : Int)), (15, v2), (16, .int .i64 (i : Int))]
    refine TC.seq ?_
    refine TC.seq ?_
    refine TC.region ?_
    refine TL.op (yq (y_move (ev_t rfl))) rfl rfl rfl ?_
    refine TL.op (yq (y_move (ev_t rfl))) rfl rfl rfl ?_
    refine TL.op (yq (y_len (ev_t rfl) Try.underlying25 (fun w hw => ((ri_arg hreqs) w hw).ln))) rfl rfl rfl ?_
    refine TL.op (yq (y_lss (ev_t rfl) (ev_t rfl))) rfl rfl rfl ?_
    refine TL.nil ?_
    refine TN.seq ?_
    refine TC.cond (b := decide ((i : Int) < (reqs.length : Int))) (ev_t rfl) (fun h2 => ?_) (fun h2 => ?_)
    · have hin : i < reqs.length := by have := of_decide_eq_true h2; omega
      have hiz : i < zs.length := by omega
      refine TC.skip ?_
      refine TN.seq ?_
      refine TC.seq ?_
      refine TC.block ?_
      refine TC.seq ?_
      refine TC.region ?_
      refine TL.op (yq (y_move (ev_t rfl))) rfl rfl rfl ?_
      refine TL.op (yq (y_move (ev_t rfl))) rfl rfl rfl ?_
      refine TL.op (yq (y_len (ev_t rfl) Try.underlying25 (fun w hw => ((ri_arg hb) w hw).ln))) rfl rfl rfl ?_
      refine TL.op (yq (y_lss (ev_t rfl) (ev_t rfl))) rfl rfl rfl ?_
      refine TL.nil ?_
      refine TN.seq ?_
      refine TC.cond (b := decide ((i : Int) < (begun.length : Int))) (ev_t rfl) (fun h3 => ?_) (fun h3 => ?_)
      · have hib : i < begun.length := by have := of_decide_eq_true h3; omega
        refine TC.region ?_
        refine TL.op (yq (y_move (ev_t rfl))) rfl rfl rfl ?_
        refine TL.op (yq (y_move (ev_t rfl))) rfl rfl rfl ?_
        refine TL.op (yq (y_move (ev_t rfl))) rfl rfl rfl ?_
        refine TL.op (yq (y_move (ev_t rfl))) rfl rfl rfl ?_
        refine TL.op (yq (y_idxi (k := i) (ev_t rfl) (ev_t rfl) rfl slT_25 (ri_arg hb) hib)) rfl rfl rfl ?_
        refine TL.op (yq (y_ldi (ev_t rfl) one_3 (ri_arg hb) hib)) rfl rfl rfl ?_
        refine TL.op (yq (y_move (ev_t rfl))) rfl rfl rfl ?_
        refine TL.op (yq (y_eql (ev_t rfl) (ev_t rfl))) rfl rfl rfl ?_
        refine TL.op (yq (y_idx (k := i) (ev_t rfl) (ev_t rfl) rfl slT_64 (rd_row 0 rfl) hiz)) rfl rfl rfl ?_
        refine TL.storeBo 0 (ev_t rfl) (ev_t rfl) one_4 rfl hiz ?_
        refine TL.nil ?_
        refine TN.blockN ?_
        refine TN.seq ?_
        refine TC.region ?_
        refine TL.op (yq (y_move (ev_t rfl))) rfl rfl rfl ?_
        refine TL.op (yq (y_add (ev_t rfl) ev_c (by unfold In64; constructor <;> omega))) rfl rfl rfl ?_
        refine TL.op (yq (y_assign (ev_t rfl))) rfl rfl rfl ?_
        refine TL.nil ?_
        refine TN.hand (i + 1, zs.set i (decide (begun.getD i 0 = (l : Int)))) ⟨hin, by rw [List.length_set]; exact hzl, fun j hj => ?_⟩ (by show reqs.length - (i + 1) < reqs.length - i; omega) ⟨rfl, rfl, rfl, rfl, rfl, rfl, rfl, rfl, rfl, rfl, rfl, trivial⟩ (fun w hw => hw)
        rw [Kn.getD_set _ _ _ _ _ hiz]
        by_cases e : j = i
        · rw [if_pos e, hf, e]; unfold gridB; rw [h3, cond_true]
        · rw [if_neg e]; exact hz j (by omega)
      · skip
        refine TC.region ?_
        refine TL.op (yq (y_move (ev_t rfl))) rfl rfl rfl ?_
        refine TL.op (yq (y_move (ev_t rfl))) rfl rfl rfl ?_
        refine TL.op (yq (y_move (ev_t rfl))) rfl rfl rfl ?_
        refine TL.op (yq (y_move (ev_t rfl))) rfl rfl rfl ?_
        refine TL.op (y_call (vs := [vb, (.int .i64 (l : Int))]) (v := (.bool (F_spec_l1Has begun (l : Int)))) en_32 ⟨(ev_t rfl), (ev_t rfl), trivial⟩ (fun w hw => spec_l1Has_ok w vb begun ((ri_arg hb) w hw) (l : Int))) rfl rfl rfl ?_
        refine TL.op (yq (y_not (ev_t rfl))) rfl rfl rfl ?_
        refine TL.op (yq (y_move (ev_t rfl))) rfl rfl rfl ?_
        refine TL.opw (w_t rfl rfl rfl) (fun hg => yq (y_ldagg (cs := [vm]) 3 (ev_t rfl) agg_29 rfl)) rfl rfl ?_
        refine TL.opw (w_t rfl rfl rfl) (fun hg => yq (y_move (ev_t rfl))) rfl rfl ?_
        refine TL.opw (w_t rfl rfl rfl) (fun hg => yq (y_move (ev_t rfl))) rfl rfl ?_
        refine TL.opw (w_t rfl rfl rfl) (fun hg => yq (y_move (ev_t rfl))) rfl rfl ?_
        refine TL.opw (w_t rfl rfl rfl) (fun hg => yq (y_move (ev_t rfl))) rfl rfl ?_
        refine TL.opw (w_t rfl rfl rfl) (fun hg => yq (y_move (ev_t rfl))) rfl rfl ?_
        refine TL.opw (w_t rfl rfl rfl) (fun hg => yq (y_move (ev_t rfl))) rfl rfl ?_
        refine TL.opw (w_t rfl rfl rfl) (fun hg => y_call (vs := [(.agg #[vm]), va, vreqs, vps, vrs, (.int .i64 (l : Int)), (.int .i64 (i : Int))]) (v := (.bool (F_spec_l7Tight m a reqs ps rs (l : Int) (i : Int)))) en_33 ⟨(ev_g rfl hg), (ev_g rfl hg), (ev_g rfl hg), (ev_g rfl hg), (ev_g rfl hg), (ev_g rfl hg), (ev_g rfl hg), trivial⟩
          (fun w hw => spec_l7Tight_ok w vm um m ((rii_arg hm) w hw) va a ((ri_arg ha) w hw) vreqs reqs ((ri_arg hreqs) w hw) vps ps ((ri_arg hps) w hw) vrs rs ((ri_arg hrs) w hw) (l : Int) (i : Int) hR.sv (by omega) (by omega) (by omega) (by omega) hlp hlr hR.pb hR.rb)) rfl rfl ?_
        refine TL.op (yq (y_and (ev_t rfl) (fun hq => (ev_g rfl hq)))) rfl rfl rfl ?_
        refine TL.op (yq (y_idx (k := i) (ev_t rfl) (ev_t rfl) rfl slT_64 (rd_row 0 rfl) hiz)) rfl rfl rfl ?_
        refine TL.storeBo 0 (ev_t rfl) (ev_t rfl) one_4 rfl hiz ?_
        refine TL.nil ?_
        refine TN.blockN ?_
        refine TN.seq ?_
        refine TC.region ?_
        refine TL.op (yq (y_move (ev_t rfl))) rfl rfl rfl ?_
        refine TL.op (yq (y_add (ev_t rfl) ev_c (by unfold In64; constructor <;> omega))) rfl rfl rfl ?_
        refine TL.op (yq (y_assign (ev_t rfl))) rfl rfl rfl ?_
        refine TL.nil ?_
        refine TN.hand (i + 1, zs.set i ((!(F_spec_l1Has begun (l : Int))) && F_spec_l7Tight m a reqs ps rs (l : Int) (i : Int))) ⟨hin, by rw [List.length_set]; exact hzl, fun j hj => ?_⟩ (by show reqs.length - (i + 1) < reqs.length - i; omega) ⟨rfl, rfl, rfl, rfl, rfl, rfl, rfl, rfl, rfl, rfl, rfl, trivial⟩ (fun w hw => hw)
        rw [Kn.getD_set _ _ _ _ _ hiz]
        by_cases e : j = i
        · rw [if_pos e, hf, e]; unfold gridB; rw [h3, cond_false]
        · rw [if_neg e]; exact hz j (by omega)
    · have hin : i = reqs.length := by have := of_decide_eq_false h2; omega
      have hzs : zs = (List.range reqs.length).map (f l) := map_full hzl (fun j hj => hz j (by omega))
      subst hzs
      refine TC.exit ?_
      repeat first | refine TN.thenE ?_ | refine TN.blockM rfl ?_
      refine TN.blockH ?_
      refine TN.seq ?_
      refine TC.region ?_
      refine TL.op (yq (y_move (ev_t rfl))) rfl rfl rfl ?_
      refine TL.op (yq (y_move (ev_t rfl))) rfl rfl rfl ?_
      refine TL.buildU slT_66 (ev_t rfl) (fun w hw => ((rd_row 0 rfl) w hw).ln) rfl (fun v5 => ?_)
      refine TL.appendV 3 0 (ev_t rfl) (ev_t rfl) rfl rfl slT_66 (fun w hw => ((rd_row 1 rfl) w hw).ln) (by omega) rfl (fun v6 => ?_)
      refine TL.op (yq (y_assign (ev_t rfl))) rfl rfl rfl ?_
      refine TL.nil ?_
      refine TN.blockN ?_
      refine TN.seq ?_
      refine TC.region ?_
      refine TL.op (yq (y_move (ev_t rfl))) rfl rfl rfl ?_
      refine TL.op (yq (y_add (ev_t rfl) ev_c (by unfold In64; constructor <;> omega))) rfl rfl rfl ?_
      refine TL.op (yq (y_assign (ev_t rfl))) rfl rfl rfl ?_
      refine TL.nil ?_
      refine TN.hand (l + 1, v6, us ++ [v2], (obk v2).toList ++ gs, (v2, bools ((List.range reqs.length).map (f l))) :: L) ⟨hlL, by rw [tbl_succ]; exact hB.push _ _⟩ (by show a.length + reqs.length - (l + 1) < a.length + reqs.length - l; omega) ⟨rfl, rfl, rfl, rfl, rfl, rfl, rfl, rfl, rfl, trivial⟩ (fun w hw => ?_)
      exact Hp.bagPut (Hp.sublist hw (List.sublist_cons_self _ _))
  · have hlL : l = a.length + reqs.length := by have := of_decide_eq_false h1; omega
    subst hlL
    refine TC.exit ?_
    repeat first | refine TN.thenE ?_ | refine TN.blockM rfl ?_
    refine TN.blockH ?_
    refine TN.seq ?_
    refine TC.seq ?_
    refine TC.region ?_
    refine TL.op (yq (y_move (ev_t rfl))) rfl rfl rfl ?_
    refine TL.op (yq (y_assign (ev_t rfl))) rfl rfl rfl ?_
    refine TL.nil ?_
    refine TN.seq ?_
    refine TC.ret ?_
    exact TN.ret1 rfl (ev_t rfl) (fun w' hw => ⟨(v, us), rfl, hw.nl, rbb_bag 1 0 rfl rfl hB hw⟩)
end Go.Proofs.Ytgnikdpgndmldaa
namespace Go.Proofs.Ytgnikdpgndmldaa
set_option linter.unusedVariables false
set_option linter.unusedSimpArgs false
open Go Go.RowKit
set_option linter.unusedVariables false

noncomputable def goesB (m : List (List Int)) (a reqs ps rs begun : List Int) : Bool := decC (Goes m a reqs ps rs begun)
abbrev paidF (rs : List Int) (l : Nat) : Bool := decide (0 < rs.getD l 0)
theorem goes_join {m : List (List Int)} {a reqs ps rs begun : List Int} {grid : List (List Bool)} (hg : grid = tbl (gridB m a reqs ps rs begun) (a.length + reqs.length) reqs.length) :
    (covB (EG (tbl (fun i l => (grid.getD l []).getD i false) reqs.length (a.length + reqs.length))) reqs.length (a.length + reqs.length) (needs (List.replicate reqs.length true)) &&
      covB (EG grid) (a.length + reqs.length) reqs.length (needs ((List.range (a.length + reqs.length)).map (paidF rs)))) = goesB m a reqs ps rs begun := by
  rw [Bool.eq_iff_iff, Bool.and_eq_true, covB_iff, covB_iff]
  unfold goesB
  rw [decC_iff]
  unfold Goes
  refine and_congr (cov_congr (fun i j hi hj => ?_) (fun i hi => ?_)) (cov_congr (fun i j hi hj => ?_) (fun i hi => ?_))
  · rw [tbl_eg _ _ _ hi hj, hg]
    exact tbl_eg (gridB m a reqs ps rs begun) _ _ hj hi
  · unfold needs; rw [getD_rep _ _ _ _ hi]; simp
  · rw [hg]; exact tbl_eg _ _ _ hi hj
  · unfold needs; rw [range_getD _ _ hi]; exact decide_eq_true_iff

set_option maxRecDepth 4000 in
set_option maxHeartbeats 2000000 in
theorem spec_l7Goes_ok (w : World) (vm : Value) (um : List Value) (m : List (List Int)) (hm : RII w vm um m) (va : Value) (a : List Int) (ha : RI w va a) (vreqs : Value) (reqs : List Int) (hreqs : RI w vreqs reqs)
    (vps : Value) (ps : List Int) (hps : RI w vps ps) (vrs : Value) (rs : List Int) (hrs : RI w vrs rs) (vb : Value) (begun : List Int) (hb : RI w vb begun) (hR : Rs m a reqs ps rs) :
    Calls Try.prog 34 ([(.agg #[vm]), va, vreqs, vps, vrs, vb] : List Value).toArray w (Ret (.bool (goesB m a reqs ps rs begun)) (Hp w [])) := by
  have hlp := hR.lp
  have hlr := hR.lr
  have h60 := hR.sv.r60
  have hn3 := hR.sv.cf.n3
  have hn1 := hR.sv.cf.n1
  refine calls_tc Try.func34 rfl rfl rfl ?_
  change TC _ _ _ _ (Hp w []) [(0, .agg #[vm]), (1, va), (2, vreqs), (3, vps), (4, vrs), (5, vb)]
  refine TC.seq ?_
  refine TC.region ?_
  refine TL.box (ev_t rfl) rfl (fun g6 => ?_)
  refine TL.op (yq (y_assign ev_c)) rfl rfl rfl ?_
  refine TL.nil ?_
  refine TN.seq ?_
  refine TC.seq ?_
  refine TC.region ?_
  refine TL.op (yq (y_ldagg (cs := [vm]) 0 (ev_t rfl) agg_29 rfl)) rfl rfl rfl ?_
  refine TL.op (yq (y_move (ev_t rfl))) rfl rfl rfl ?_
  refine TL.op (yq (y_move (ev_t rfl))) rfl rfl rfl ?_
  refine TL.op (yq (y_move (ev_t rfl))) rfl rfl rfl ?_
  refine TL.op (yq (y_move (ev_t rfl))) rfl rfl rfl ?_
  refine TL.op (yq (y_move (ev_t rfl))) rfl rfl rfl ?_
  refine TL.callx (ι := Value × List Value) (vs := [(.agg #[vm]), va, vreqs, vps, vrs, vb]) (fun u => u.1) (fun u w' => RBB w' u.1 u.2 (tbl (gridB m a reqs ps rs begun) (a.length + reqs.length) reqs.length)) en_49 ⟨(ev_t rfl), (ev_t rfl), (ev_t rfl), (ev_t rfl), (ev_t rfl), (ev_t rfl), trivial⟩ rfl
    (fun w hw => spec_l7Grid_ok w vm um m ((rii_arg hm) w hw) va a ((ri_arg ha) w hw) vreqs reqs ((ri_arg hreqs) w hw) vps ps ((ri_arg hps) w hw) vrs rs ((ri_arg hrs) w hw) vb begun ((ri_arg hb) w hw) hR) ?_
  rintro ⟨vg, ug⟩ w1 hw1 hg
  obtain ⟨grid, hgd⟩ : ∃ grid, grid = tbl (gridB m a reqs ps rs begun) (a.length + reqs.length) reqs.length := ⟨_, rfl⟩
  have hgl : grid.length = a.length + reqs.length := by rw [hgd, tbl_len]
  have hgc : ∀ r, r < a.length + reqs.length → (grid.getD r []).length = reqs.length := fun r hr => by rw [hgd, tbl_rlen _ _ _ hr]
  replace hg : RBB w1 vg ug grid := by rw [hgd]; exact hg
  have hw1' : Hp w [] w1 := hw1.nl
  have hrs1 : RI w1 vrs rs := hrs.below hw1'.1
  have hreqs1 : RI w1 vreqs reqs := hreqs.below hw1'.1
  refine TL.op (yq (y_assign (ev_t rfl))) rfl rfl rfl ?_
  refine TL.nil ?_
  refine TN.seq ?_
  refine TC.seq ?_
  refine TC.region ?_
  refine TL.build0 slT_64 rfl (fun v1 => ?_)
  refine TL.op (yq (y_assign (ev_t rfl))) rfl rfl rfl ?_
  refine TL.nil ?_
  refine TN.seq ?_
  refine TC.seq ?_
  refine TC.seq ?_
  refine TC.region ?_
  refine TL.op (yq (y_assign ev_c)) rfl rfl rfl ?_
  refine TL.nil ?_
  refine TN.seq ?_
  refine TC.block ?_
  refine TC.loop (ι := Nat × Value) (fun (i, v) => [(2, vreqs), (4, vrs), (13, vg), (14, v), (15, .int .i64 (i : Int))]) (fun (i, v) => Hp w1 [rowB 4 v ((List.range i).map (paidF rs))])
    (fun (i, _) => i ≤ a.length + reqs.length) (fun (i, _) => a.length + reqs.length - i) (0, v1)
    (Nat.zero_le _) ⟨rfl, rfl, rfl, rfl, rfl, trivial⟩ (fun w hw => Hp.sublist hw (by simp)) ?_
  rintro ⟨i, v⟩ hJ
  have hi : i ≤ a.length + reqs.length := hJ
  change TC _ _ _ _ (Hp w1 [rowB 4 v ((List.range i).map (paidF rs))]) [(2, vreqs), (4, vrs), (13, vg), (14, v), (15, .int .i64 (i : Int))]
  refine TC.seq ?_
  refine TC.seq ?_
  refine TC.region ?_
  refine TL.op (yq (y_move (ev_t rfl))) rfl rfl rfl ?_
  refine TL.op (yq (y_move (ev_t rfl))) rfl rfl rfl ?_
  refine TL.op (yq (y_len (ev_t rfl) Try.underlying25 (fun w hw => ((ri_arg hrs1) w hw).ln))) rfl rfl rfl ?_
  refine TL.op (yq (y_lss (ev_t rfl) (ev_t rfl))) rfl rfl rfl ?_
  refine TL.nil ?_
  refine TN.seq ?_
  refine TC.cond (b := decide ((i : Int) < (rs.length : Int))) (ev_t rfl) (fun h1 => ?_) (fun h1 => ?_)
  · have hiL : i < rs.length := by have := of_decide_eq_true h1; omega
    refine TC.skip ?_
    refine TN.seq ?_
    refine TC.seq ?_
    refine TC.block ?_
    refine TC.region ?_
    refine TL.op (yq (y_move (ev_t rfl))) rfl rfl rfl ?_
    refine TL.op (yq (y_move (ev_t rfl))) rfl rfl rfl ?_
    refine TL.op (yq (y_move (ev_t rfl))) rfl rfl rfl ?_
    refine TL.op (yq (y_idxi (k := i) (ev_t rfl) (ev_t rfl) rfl slT_25 (ri_arg hrs1) hiL)) rfl rfl rfl ?_
    refine TL.op (yq (y_ldi (ev_t rfl) one_3 (ri_arg hrs1) hiL)) rfl rfl rfl ?_
    refine TL.op (yq (y_gtr (ev_t rfl) ev_c)) rfl rfl rfl ?_
    refine TL.buildBo (zs := [.tmp 35]) (qs := [paidF rs i]) slT_64 rfl ⟨(ev_t rfl), trivial⟩ rfl (by omega) rfl (fun v3 => ?_)
    refine TL.appendBo (zs := (List.range i).map (paidF rs)) (qs := [paidF rs i]) 1 (ev_t rfl) (ev_t rfl) rfl slT_64 (rd_row 0 rfl) (by simp; omega) rfl (fun v4 => ?_)
    refine TL.op (yq (y_assign (ev_t rfl))) rfl rfl rfl ?_
    refine TL.nil ?_
    refine TN.blockN ?_
    refine TN.seq ?_
    refine TC.region ?_
    refine TL.op (yq (y_move (ev_t rfl))) rfl rfl rfl ?_
    refine TL.op (yq (y_add (ev_t rfl) ev_c (by unfold In64; constructor <;> omega))) rfl rfl rfl ?_
    refine TL.op (yq (y_assign (ev_t rfl))) rfl rfl rfl ?_
    refine TL.nil ?_
    refine TN.hand (i + 1, v4) (by show i + 1 ≤ _; omega) (by show a.length + reqs.length - (i + 1) < a.length + reqs.length - i; omega) ⟨rfl, rfl, rfl, rfl, rfl, trivial⟩ (fun w hw => ?_)
    show Hp _ [rowB 4 v4 ((List.range (i + 1)).map (paidF rs))] w
    have e1 : (List.range (i + 1)).map (paidF rs) = (List.range i).map (paidF rs) ++ [paidF rs i] := by rw [List.range_succ, List.map_append]; rfl
    rw [e1]
    exact Hp.sublist hw (List.sublist_cons_self _ _)
  have hiL : i = a.length + reqs.length := by have := of_decide_eq_false h1; omega
  subst hiL
  refine TC.exit ?_
  repeat first | refine TN.thenE ?_ | refine TN.blockM rfl ?_
  refine TN.blockH ?_
  refine TN.seq ?_
  refine TC.base fun w2 hw2 => ?_
  have hw2' : Hp w [] w2 := hw1'.after0 hw2.nl
  have hg2 : RBB w2 vg ug grid := hg.below hw2.1
  have hreqs2 : RI w2 vreqs reqs := hreqs.below hw2'.1
  have hpd : Rd w2 v 1 ((List.range (a.length + reqs.length)).map (paidF rs)).length (bools ((List.range (a.length + reqs.length)).map (paidF rs))) := (rd_row 0 rfl) w2 hw2
  refine TC.seq ?_
  refine TC.region ?_
  refine TL.op (yq (y_move (ev_t rfl))) rfl rfl rfl ?_
  refine TL.callx (ι := Value × List Value) (vs := [vg]) (fun u => u.1) (fun u w' => RBB w' u.1 u.2 (tbl (fun i l => (grid.getD l []).getD i false) reqs.length (a.length + reqs.length))) en_51 ⟨(ev_t rfl), trivial⟩ rfl
    (fun w hw => spec_l7Turned_ok (a.length + reqs.length) reqs.length (by omega) (by omega) w vg ug grid ((rbb_arg hg2) w hw) hgl (by omega) hgc) ?_
  rintro ⟨vt, ut⟩ w3 hw3 ht
  have hw3' : Hp w [] w3 := hw2'.after0 hw3
  have hg3 : RBB w3 vg ug grid := hg2.below hw3.1
  have hreqs3 : RI w3 vreqs reqs := hreqs.below hw3'.1
  have hpd3 := Rd.below hpd hw3.1
  refine TL.op (yq (y_move (ev_t rfl))) rfl rfl rfl ?_
  refine TL.op (yq (y_len (ev_t rfl) Try.underlying25 (fun w hw => ((ri_arg hreqs3) w hw).ln))) rfl rfl rfl ?_
  refine TL.callr (ι := Value) (vs := [(.int .i64 (reqs.length : Int))]) (fun u => u) (fun u => [rowB 4 u (List.replicate reqs.length true)]) en_52 ⟨(ev_t rfl), trivial⟩ rfl (fun w hw => spec_l7All_ok w reqs.length (by omega)) (fun va' => ?_)
  refine TL.op (y_call (vs := [vt, va']) (v := (.bool (covB (EG (tbl (fun i l => (grid.getD l []).getD i false) reqs.length (a.length + reqs.length))) reqs.length (a.length + reqs.length) (needs (List.replicate reqs.length true))))) en_50 ⟨(ev_t rfl), (ev_t rfl), trivial⟩
    (fun w hw => spec_l7Covers_ok reqs.length (a.length + reqs.length) (by omega) (by omega) w vt ut _ ((rbb_arg ht) w hw) va' (List.replicate reqs.length true) ((rd_row 0 rfl) w hw) (tbl_len _ _ _) (fun r hr => tbl_rlen _ _ _ hr) (by simp))) rfl rfl rfl ?_
  refine TL.op (yq (y_move (ev_t rfl))) rfl rfl rfl ?_
  refine TL.opw (w_t rfl rfl rfl) (fun hg => yq (y_move (ev_t rfl))) rfl rfl ?_
  refine TL.opw (w_t rfl rfl rfl) (fun hg => yq (y_move (ev_t rfl))) rfl rfl ?_
  refine TL.opw (w_t rfl rfl rfl) (fun hq => y_call (vs := [vg, v]) (v := (.bool (covB (EG grid) (a.length + reqs.length) reqs.length (needs ((List.range (a.length + reqs.length)).map (paidF rs)))))) en_50 ⟨(ev_g rfl hq), (ev_g rfl hq), trivial⟩
    (fun w hw => spec_l7Covers_ok (a.length + reqs.length) reqs.length (by omega) (by omega) w vg ug grid ((rbb_arg hg3) w hw) v _ ((rd_arg hpd3) w hw) hgl hgc (by simp))) rfl rfl ?_
  refine TL.op (yq (y_and (ev_t rfl) (fun hq => (ev_g rfl hq)))) rfl rfl rfl ?_
  refine TL.op (yq (y_assign (ev_t rfl))) rfl rfl rfl ?_
  refine TL.nil ?_
  refine TN.seq ?_
  refine TC.ret ?_
  rw [goes_join hgd]
  exact TN.ret1 rfl (ev_t rfl) (fun w' hw => ⟨rfl, hw3'.after0 hw.nl⟩)
end Go.Proofs.Ytgnikdpgndmldaa
namespace Go.Proofs.Ytgnikdpgndmldaa
set_option linter.unusedVariables false
set_option linter.unusedSimpArgs false
open Go Go.RowKit
set_option linter.unusedVariables false

section
variable {P : Program} {ops : Array Oper} {Q : Exit → Act → World → Prop} {N : Nat} {C S : World → Prop} {l : Sl} {fuel : Nat} {listed : Array Bool}
/-- Two ways from here on, in a region that draws its order. -/
theorem TH.split (t : Nat) {b : Bool} (hl : look l t = some (.bool b)) (ht : b = true → TH P ops Q N S C fuel listed ((t, .bool true) :: l)) (hf : b = false → TH P ops Q N S C fuel listed ((t, .bool false) :: l)) : TH P ops Q N S C fuel listed l := fun a w hs hc hS => by
  cases b with
  | true => exact ht rfl a w (hs.again hl) hc hS
  | false => exact hf rfl a w (hs.again hl) hc hS
end
theorem goesB_test {m : List (List Int)} {a reqs ps rs p : List Int} (h : Rs m a reqs ps rs) (he : Ext m a reqs p) (hpl : p.length < reqs.length) {k : Nat} :
    ((((!(F_spec_l1Has p (k : Int))) && F_spec_l7Tight m a reqs ps rs (k : Int) (p.length : Int)) && goesB m a reqs ps rs (p ++ [(k : Int)])) = true ↔ Ext m a reqs (p ++ [(k : Int)])) := by
  rw [← spec_test h he hpl, Bool.and_eq_true, Bool.and_eq_true, and_assoc]
  unfold goesB
  rw [decC_iff]

set_option maxRecDepth 8000 in
set_option maxHeartbeats 4000000 in
theorem spec_ChainsOf_ok (w : World) (vm : Value) (um : List Value) (m : List (List Int)) (hm : RII w vm um m) (va : Value) (a : List Int) (ha : RI w va a) (vreqs : Value) (reqs : List Int) (hreqs : RI w vreqs reqs)  :
    Calls Try.prog 18 ([(.agg #[vm]), va, vreqs] : List Value).toArray w (fun e w' => ∃ i : Value, e = .returned (.tuple #[i, (.bool ((F_spec_ChainsOf m a reqs).2))]) ∧ Hp w [rowI 3 i ((F_spec_ChainsOf m a reqs).1)] w') := by
  obtain ⟨rz, hF⟩ : ∃ rz, (F_spec_ChainsOf m a reqs) = rz := ⟨_, rfl⟩
  rw [hF]
  unfold F_spec_ChainsOf at hF
  have hlen_reqs := arg_len hreqs
  refine calls_tc Try.func18 rfl rfl rfl ?_
  change TC _ _ _ _ (Hp w []) [(0, .agg #[vm]), (1, va), (2, vreqs)]
  refine TC.seq ?_
  refine TC.region ?_
  refine TL.box (ev_t rfl) rfl (fun g3 => ?_)
  refine TL.op (yq (y_assign ev_c)) rfl rfl rfl ?_
  refine TL.op (yq (y_assign ev_c)) rfl rfl rfl ?_
  refine TL.nil ?_
  refine TN.seq ?_
  refine TC.seq ?_
  refine TC.region ?_
  refine TL.buildI (zs := []) (qs := []) slT_25 rfl trivial rfl (by decide) rfl (fun v8 => ?_)
  refine TL.op (yq (y_assign (ev_t rfl))) rfl rfl rfl ?_
  refine TL.nil ?_
  refine TN.seq ?_
  refine TC.seq ?_
  refine TC.seq ?_
  refine TC.region ?_
  refine TL.op (yq (y_ldagg (cs := [vm]) 1 (ev_t rfl) agg_29 rfl)) rfl rfl rfl ?_
  refine TL.op (y_call (vs := [(.agg #[vm])]) (v := (.bool (F_spec_l6Good m))) en_21 ⟨(ev_t rfl), trivial⟩ (fun w hw => spec_l6Good_ok w vm um m ((rii_arg hm) w hw))) rfl rfl rfl ?_
  refine TL.op (yq (y_not (ev_t rfl))) rfl rfl rfl ?_
  refine TL.op (yq (y_move (ev_t rfl))) rfl rfl rfl ?_
  refine TL.opw (w_f rfl rfl rfl) (fun hg => yq (y_ldagg (cs := [vm]) 1 (ev_t rfl) agg_29 rfl)) rfl rfl ?_
  refine TL.opw (w_f rfl rfl rfl) (fun hg => yq (y_move (ev_t rfl))) rfl rfl ?_
  refine TL.opw (w_f rfl rfl rfl) (fun hg => yq (y_move (ev_t rfl))) rfl rfl ?_
  refine TL.opw (w_f rfl rfl rfl) (fun hg => y_call (vs := [(.agg #[vm]), va, vreqs]) (v := (.bool (F_spec_l6Start m a reqs))) en_22 ⟨(ev_g rfl hg), (ev_g rfl hg), (ev_g rfl hg), trivial⟩ (fun w hw => spec_l6Start_ok w vm um m ((rii_arg hm) w hw) va a ((ri_arg ha) w hw) vreqs reqs ((ri_arg hreqs) w hw))) rfl rfl ?_
  refine TL.opw (w_f rfl rfl rfl) (fun hg => yq (y_not (ev_g rfl hg))) rfl rfl ?_
  refine TL.op (yq (y_or (ev_t rfl) (fun hq => (ev_g rfl hq)))) rfl rfl rfl ?_
  refine TL.op (yq (y_move (ev_t rfl))) rfl rfl rfl ?_
  refine TL.opw (w_f rfl rfl rfl) (fun hg => yq (y_move (ev_t rfl))) rfl rfl ?_
  refine TL.opw (w_f rfl rfl rfl) (fun hg => yq (y_len (ev_g rfl hg) Try.underlying25 (fun w hw => ((ri_arg hreqs) w hw).ln))) rfl rfl ?_
  refine TL.opw (w_f rfl rfl rfl) (fun hg => yq (y_gtr (ev_g rfl hg) ev_c)) rfl rfl ?_
  refine TL.op (yq (y_or (ev_t rfl) (fun hq => (ev_g rfl hq)))) rfl rfl rfl ?_
  refine TL.nil ?_
  refine TN.seq ?_
  refine TC.cond (b := (((!(F_spec_l6Good m)) || (!(F_spec_l6Start m a reqs))) || decide ((24 : Int) < (reqs.length : Int)))) (ev_t rfl) (fun h3 => ?_) (fun h3 => ?_)
  · skip
    refine TC.seq ?_
    refine TC.region ?_
    refine TL.op (yq (y_move (ev_t rfl))) rfl rfl rfl ?_
    refine TL.op (yq (y_assign (ev_t rfl))) rfl rfl rfl ?_
    refine TL.op (yq (y_assign ev_c)) rfl rfl rfl ?_
    refine TL.nil ?_
    refine TN.seq ?_
    refine TC.ret ?_
    repeat first | refine TN.thenR ?_ | refine TN.blockR ?_
    have hF' : rz = ([], false) := by
      rw [← hF]
      rcases or_t h3 with h | h
      · rw [served_or] at h
        rw [not_t h]; rfl
      · have h4 := of_decide_eq_true h
        rw [decide_eq_false (by omega : ¬ (reqs.length : Int) ≤ 24), Bool.and_false]; rfl
    subst hF'
    exact TN.ret2 rfl (ev_t rfl) (ev_t rfl) (fun w' hw => ⟨v8, rfl, Hp.sublist hw (.cons_cons _ (.cons _ .slnil))⟩)
  obtain ⟨h3a, h3b⟩ := or_f h3
  rw [served_or] at h3a
  have hsv : F_impl_isServed m a reqs = true := not_f h3a
  have hS : Sv m a reqs := isServed_t hsv
  have h24 : reqs.length ≤ 24 := by have := of_decide_eq_false h3b; omega
  have hn3 := hS.cf.n3
  have hn1 := hS.cf.n1
  have hfw := flow_ok hS
  have hf1 := hfw.1
  have hf2 := hfw.2.2
  have hRs := rs_rise hS
  obtain ⟨ps, hps⟩ : ∃ ps, ps = (F_spec_l7Rise m a reqs (F_spec_l7Flow m a reqs)).1 := ⟨_, rfl⟩
  obtain ⟨rs, hrs⟩ : ∃ rs, rs = (F_spec_l7Rise m a reqs (F_spec_l7Flow m a reqs)).2 := ⟨_, rfl⟩
  rw [← hps, ← hrs] at hRs
  have hlp := hRs.lp
  have hlr := hRs.lr
  rw [hsv, decide_eq_true (by omega : (reqs.length : Int) ≤ 24), Bool.and_self, bif_t] at hF
  refine TC.skip ?_
  refine TN.seq ?_
  refine TC.seq ?_
  refine TC.regionH 13 (Hp w [rowI 3 v8 [], .blk g3 29 [vm]]) rfl (by kernel_rfl) dr_hp (fun w hw => hw) ?_
  refine TH.take 0 rfl (by kernel_rfl) (y_ldagg (cs := [vm]) 1 (ev_t rfl) agg_29 rfl) rfl rfl rfl ?_
  refine TH.take 1 rfl (by kernel_rfl) (y_move (ev_t rfl)) rfl rfl rfl ?_
  refine TH.take 2 rfl (by kernel_rfl) (y_move (ev_t rfl)) rfl rfl rfl ?_
  refine TH.take 3 rfl (by kernel_rfl) (y_ldagg (cs := [vm]) 1 (ev_t rfl) agg_29 rfl) rfl rfl rfl ?_
  refine TH.take 4 rfl (by kernel_rfl) (y_move (ev_t rfl)) rfl rfl rfl ?_
  refine TH.take 5 rfl (by kernel_rfl) (y_move (ev_t rfl)) rfl rfl rfl ?_
  refine TH.loud 6 rfl (by kernel_rfl) ?_
  refine TL.callr (ι := Value) (vs := [(.agg #[vm]), va, vreqs]) (fun i => i) (fun i => [rowI 3 i (F_spec_l7Flow m a reqs)]) en_24 ⟨(ev_t rfl), (ev_t rfl), (ev_t rfl), trivial⟩ rfl (fun w hw => spec_l7Flow_ok w vm um m ((rii_arg hm) w hw) va a ((ri_arg ha) w hw) vreqs reqs ((ri_arg hreqs) w hw) hS) (fun vf => ?_)
  refine TL.nil ?_
  refine TH.back (fun w hw => Hp.sublist hw (.cons _ (.cons_cons _ (.cons_cons _ .slnil)))) ?_
  refine TH.loud 7 rfl (by kernel_rfl) ?_
  refine TL.callr (ι := Value × Value) (vs := [(.agg #[vm]), va, vreqs, vf]) (fun i => (.tuple #[i.1, i.2])) (fun i => [rowI 3 i.1 ps, rowI 3 i.2 rs]) en_30 ⟨(ev_t rfl), (ev_t rfl), (ev_t rfl), (ev_t rfl), trivial⟩ rfl
    (fun w hw => by rw [hps, hrs]; exact spec_l7Rise_ok w vm um m ((rii_arg hm) w hw) va a ((ri_arg ha) w hw) vreqs reqs ((ri_arg hreqs) w hw) vf (F_spec_l7Flow m a reqs) ((ri_row 0 rfl) w hw) (by first | assumption | omega | grind) (by first | assumption | omega | grind)) (fun vpr => ?_)
  refine TL.nil ?_
  refine TH.back (fun w hw => Hp.sublist hw (.cons _ (.cons _ (.cons _ (.cons_cons _ (.cons_cons _ .slnil)))))) ?_
  refine TH.take 8 rfl (by kernel_rfl) (y_move (ev_t rfl)) rfl rfl rfl ?_
  refine TH.take 9 rfl (by kernel_rfl) (y_extract (ev_t rfl) rfl) rfl rfl rfl ?_
  refine TH.take 10 rfl (by kernel_rfl) (y_extract (ev_t rfl) rfl) rfl rfl rfl ?_
  refine TH.take 11 rfl (by kernel_rfl) (y_assign (ev_t rfl)) rfl rfl rfl ?_
  refine TH.take 12 rfl (by kernel_rfl) (y_assign (ev_t rfl)) rfl rfl rfl ?_
  refine TH.done (by kernel_rfl) ?_
  refine TN.seq ?_
  obtain ⟨vps, vrs⟩ := vpr
  refine TC.seq ?_
  refine TC.seq ?_
  refine TC.region ?_
  refine TL.op (yq (y_assign ev_c)) rfl rfl rfl ?_
  refine TL.nil ?_
  refine TN.seq ?_
  refine TC.block ?_
  refine TC.loop (ι := Nat × Value × List Int) (fun (i, vo, _) => [(1, va), (2, vreqs), (3, .pointer (some ⟨g3, 0, none⟩)), (8, vo), (9, vps), (10, vrs), (11, .int .i64 (i : Int))])
    (fun (_, vo, p) => Hp w [rowI 3 vo p, rowI 3 vps ps, rowI 3 vrs rs, .blk g3 29 [vm]])
    (fun (i, _, p) => i ≤ reqs.length ∧ p.length = i ∧ Lex m a reqs p) (fun (i, _, _) => reqs.length - i) (0, v8, [])
    ⟨Nat.zero_le _, rfl, lex_nil hS⟩ ⟨rfl, rfl, rfl, rfl, rfl, rfl, rfl, trivial⟩ (fun w hw => Hp.picks [3, 0, 1, 4] (by decide) rfl hw) ?_
  rintro ⟨i, vo, p⟩ hJ
  obtain ⟨hi, hpl, hL⟩ : i ≤ reqs.length ∧ p.length = i ∧ Lex m a reqs p := hJ
  change TC _ _ _ _ (Hp w [rowI 3 vo p, rowI 3 vps ps, rowI 3 vrs rs, .blk g3 29 [vm]]) [(1, va), (2, vreqs), (3, .pointer (some ⟨g3, 0, none⟩)), (8, vo), (9, vps), (10, vrs), (11, .int .i64 (i : Int))]
  refine TC.seq ?_
  refine TC.seq ?_
  refine TC.region ?_
  refine TL.op (yq (y_move (ev_t rfl))) rfl rfl rfl ?_
  refine TL.op (yq (y_move (ev_t rfl))) rfl rfl rfl ?_
  refine TL.op (yq (y_len (ev_t rfl) Try.underlying25 (fun w hw => ((ri_arg hreqs) w hw).ln))) rfl rfl rfl ?_
  refine TL.op (yq (y_lss (ev_t rfl) (ev_t rfl))) rfl rfl rfl ?_
  refine TL.nil ?_
  refine TN.seq ?_
  refine TC.cond (b := decide ((i : Int) < (reqs.length : Int))) (ev_t rfl) (fun h4 => ?_) (fun h4 => ?_)
  · have hin : i < reqs.length := by have := of_decide_eq_true h4; omega
    refine TC.skip ?_
    refine TN.seq ?_
    refine TC.seq ?_
    refine TC.block ?_
    refine TC.seq ?_
    refine TC.region ?_
    refine TL.op (yq (y_assign ev_c)) rfl rfl rfl ?_
    refine TL.nil ?_
    refine TN.seq ?_
    refine TC.block ?_
    refine TC.loop (ι := Nat) (fun l => [(1, va), (2, vreqs), (3, .pointer (some ⟨g3, 0, none⟩)), (8, vo), (9, vps), (10, vrs), (11, .int .i64 (i : Int)), (12, .int .i64 (l : Int))])
      (fun _ => Hp w [rowI 3 vo p, rowI 3 vps ps, rowI 3 vrs rs, .blk g3 29 [vm]])
      (fun l => l ≤ a.length + i ∧ ∀ k : Nat, k < l → ¬ Ext m a reqs (p ++ [(k : Int)])) (fun l => a.length + i - l) 0
      ⟨Nat.zero_le _, fun k hk => by omega⟩ ⟨rfl, rfl, rfl, rfl, rfl, rfl, rfl, rfl, trivial⟩ (fun w hw => hw) ?_
    intro l hJ2
    obtain ⟨hl, hno⟩ : l ≤ a.length + i ∧ ∀ k : Nat, k < l → ¬ Ext m a reqs (p ++ [(k : Int)]) := hJ2
    change TC _ _ _ _ (Hp w [rowI 3 vo p, rowI 3 vps ps, rowI 3 vrs rs, .blk g3 29 [vm]]) [(1, va), (2, vreqs), (3, .pointer (some ⟨g3, 0, none⟩)), (8, vo), (9, vps), (10, vrs), (11, .int .i64 (i : Int)), (12, .int .i64 (l : Int))]
    refine TC.seq ?_
    refine TC.seq ?_
    refine TC.region ?_
    refine TL.op (yq (y_move (ev_t rfl))) rfl rfl rfl ?_
    refine TL.op (yq (y_move (ev_t rfl))) rfl rfl rfl ?_
    refine TL.op (yq (y_len (ev_t rfl) Try.underlying25 (fun w hw => ((ri_arg ha) w hw).ln))) rfl rfl rfl ?_
    refine TL.op (yq (y_move (ev_t rfl))) rfl rfl rfl ?_
    refine TL.op (yq (y_add (ev_t rfl) (ev_t rfl) (by unfold In64; constructor <;> omega))) rfl rfl rfl ?_
    refine TL.op (yq (y_lss (ev_t rfl) (ev_t rfl))) rfl rfl rfl ?_
    refine TL.nil ?_
    refine TN.seq ?_
    refine TC.cond (b := decide ((l : Int) < (a.length : Int) + (i : Int))) (ev_t rfl) (fun h5 => ?_) (fun h5 => ?_)
    · have hll : l < a.length + i := by have := of_decide_eq_true h5; omega
      have hcall : ∀ w1, Hp w [rowI 3 vo p, rowI 3 vps ps, rowI 3 vrs rs, .blk g3 29 [vm]] w1 → Calls Try.prog 33 ([(.agg #[vm]), va, vreqs, vps, vrs, (.int .i64 (l : Int)), (.int .i64 (i : Int))] : List Value).toArray w1 (Ret (.bool (F_spec_l7Tight m a reqs ps rs (l : Int) (i : Int))) (Hp w1 [])) := fun w1 hw =>
        spec_l7Tight_ok w1 vm um m ((rii_arg hm) w1 hw) va a ((ri_arg ha) w1 hw) vreqs reqs ((ri_arg hreqs) w1 hw) vps ps ((ri_row 1 rfl) w1 hw) vrs rs ((ri_row 2 rfl) w1 hw) (l : Int) (i : Int) hS (by omega) (by omega) (by omega) (by omega) hlp hlr hRs.pb hRs.rb
      refine TC.skip ?_
      refine TN.seq ?_
      refine TC.seq ?_
      refine TC.block ?_
      refine TC.seq ?_
      refine TC.mid (fun a' w' => Slots 87 [(1, va), (2, vreqs), (3, .pointer (some ⟨g3, 0, none⟩)), (8, vo), (9, vps), (10, vrs), (11, .int .i64 (i : Int)), (12, .int .i64 (l : Int)), (81, .bool (((!(F_spec_l1Has p (l : Int))) && F_spec_l7Tight m a reqs ps rs (l : Int) (i : Int)) && goesB m a reqs ps rs (p ++ [(l : Int)])))] a' ∧ Hp w [rowI 3 vo p, rowI 3 vps ps, rowI 3 vrs rs, .blk g3 29 [vm]] w') ?_ ?_
      · refine TC.regionH 27 (Hp w [rowI 3 vo p, rowI 3 vps ps, rowI 3 vrs rs, .blk g3 29 [vm]]) rfl (by kernel_rfl) dr_hp (fun w hw => hw) ?_
        refine TH.take 0 rfl (by kernel_rfl) (y_move (ev_t rfl)) rfl rfl rfl ?_
        refine TH.take 1 rfl (by kernel_rfl) (y_move (ev_t rfl)) rfl rfl rfl ?_
        refine TH.loud 2 rfl (by kernel_rfl) ?_
        refine TL.op (y_call (vs := [vo, (.int .i64 (l : Int))]) (v := (.bool (F_spec_l1Has p (l : Int)))) en_32 ⟨(ev_t rfl), (ev_t rfl), trivial⟩ (fun w hw => spec_l1Has_ok w vo p ((ri_row 0 rfl) w hw) (l : Int))) rfl rfl rfl ?_
        refine TL.nil ?_
        refine TH.back (fun w hw => hw) ?_
        refine TH.take 3 rfl (by kernel_rfl) (y_not (ev_t rfl)) rfl rfl rfl ?_
        refine TH.take 4 rfl (by kernel_rfl) (y_move (ev_t rfl)) rfl rfl rfl ?_
        refine TH.takew 5 rfl (by kernel_rfl) (w_t rfl rfl rfl) (fun hg => y_ldagg (cs := [vm]) 3 (ev_t rfl) agg_29 rfl) rfl rfl ?_
        refine TH.takew 6 rfl (by kernel_rfl) (w_t rfl rfl rfl) (fun hg => y_move (ev_t rfl)) rfl rfl ?_
        refine TH.takew 7 rfl (by kernel_rfl) (w_t rfl rfl rfl) (fun hg => y_move (ev_t rfl)) rfl rfl ?_
        refine TH.takew 8 rfl (by kernel_rfl) (w_t rfl rfl rfl) (fun hg => y_move (ev_t rfl)) rfl rfl ?_
        refine TH.takew 9 rfl (by kernel_rfl) (w_t rfl rfl rfl) (fun hg => y_move (ev_t rfl)) rfl rfl ?_
        refine TH.takew 10 rfl (by kernel_rfl) (w_t rfl rfl rfl) (fun hg => y_move (ev_t rfl)) rfl rfl ?_
        refine TH.takew 11 rfl (by kernel_rfl) (w_t rfl rfl rfl) (fun hg => y_move (ev_t rfl)) rfl rfl ?_
        refine TH.loud 12 rfl (by kernel_rfl) ?_
        refine TL.opw (w_t rfl rfl rfl) (fun hg => y_call (vs := [(.agg #[vm]), va, vreqs, vps, vrs, (.int .i64 (l : Int)), (.int .i64 (i : Int))]) (v := (.bool (F_spec_l7Tight m a reqs ps rs (l : Int) (i : Int)))) en_33 ⟨(ev_g rfl hg), (ev_g rfl hg), (ev_g rfl hg), (ev_g rfl hg), (ev_g rfl hg), (ev_g rfl hg), (ev_g rfl hg), trivial⟩ hcall) rfl rfl ?_
        refine TL.nil ?_
        refine TH.back (fun w hw => hw) ?_
        refine TH.take 13 rfl (by kernel_rfl) (y_and (ev_t rfl) (fun hq => (ev_g rfl hq))) rfl rfl rfl ?_
        refine TH.take 14 rfl (by kernel_rfl) (y_move (ev_t rfl)) rfl rfl rfl ?_
        refine TH.split 69 rfl (fun hb => ?_) (fun hb => ?_)
        · rw [hb, Bool.true_and]
          refine TH.takew 15 rfl (by kernel_rfl) (w_t rfl rfl rfl) (fun hg => y_ldagg (cs := [vm]) 3 (ev_t rfl) agg_29 rfl) rfl rfl ?_
          refine TH.takew 16 rfl (by kernel_rfl) (w_t rfl rfl rfl) (fun hg => y_move (ev_t rfl)) rfl rfl ?_
          refine TH.takew 17 rfl (by kernel_rfl) (w_t rfl rfl rfl) (fun hg => y_move (ev_t rfl)) rfl rfl ?_
          refine TH.takew 18 rfl (by kernel_rfl) (w_t rfl rfl rfl) (fun hg => y_move (ev_t rfl)) rfl rfl ?_
          refine TH.takew 19 rfl (by kernel_rfl) (w_t rfl rfl rfl) (fun hg => y_move (ev_t rfl)) rfl rfl ?_
          refine TH.takew 20 rfl (by kernel_rfl) (w_t rfl rfl rfl) (fun hg => y_move (ev_t rfl)) rfl rfl ?_
          refine TH.takew 22 rfl (by kernel_rfl) (w_t rfl rfl rfl) (fun hg => y_move (ev_t rfl)) rfl rfl ?_
          refine TH.loud2 21 23 rfl rfl (by kernel_rfl) ?_ ?_
          · refine TL.ung (w_t rfl rfl rfl) ?_
            refine TL.callr (ι := Value) (vs := [vo]) (fun u => u) (fun u => [rowI 3 u p]) en_35 ⟨(ev_g rfl rfl), trivial⟩ rfl (fun w hw => spec_l1Own_ok w vo p ((ri_row 0 rfl) w hw) (by omega)) (fun vc => ?_)
            refine TL.nil ?_
            refine TH.back (fun w hw => Hp.sublist hw (.cons _ (List.Sublist.refl _))) ?_
            refine TH.loud 23 rfl (by kernel_rfl) ?_
            refine TL.ung (w_t rfl rfl rfl) ?_
            refine TL.buildI (zs := [.tmp 77]) (qs := [(l : Int)]) slT_25 rfl ⟨(ev_g rfl rfl), trivial⟩ rfl (by decide) rfl (fun v2 => ?_)
            refine TL.nil ?_
            refine TH.back (fun w hw => Hp.sublist hw (.cons _ (.cons _ (List.Sublist.refl _)))) ?_
            refine TH.loud 24 rfl (by kernel_rfl) ?_
            refine TL.ung (w_t rfl rfl rfl) ?_
            refine TL.appendI (zs := p) (qs := [(l : Int)]) 1 (ev_t rfl) (ev_t rfl) rfl slT_25 (ri_row 0 rfl) (by simp; omega) rfl (fun v3 => ?_)
            refine TL.nil ?_
            refine TH.back (fun w hw => Hp.sublist hw (.cons _ (.cons _ (List.Sublist.refl _)))) ?_
            refine TH.loud 25 rfl (by kernel_rfl) ?_
            refine TL.ung (w_t rfl rfl rfl) ?_
            refine TL.op (y_call (vs := [(.agg #[vm]), va, vreqs, vps, vrs, v3]) (v := (.bool (goesB m a reqs ps rs (p ++ [(l : Int)])))) en_34 ⟨(ev_g rfl rfl), (ev_g rfl rfl), (ev_g rfl rfl), (ev_g rfl rfl), (ev_g rfl rfl), (ev_t rfl), trivial⟩
              (fun w hw => spec_l7Goes_ok w vm um m ((rii_arg hm) w hw) va a ((ri_arg ha) w hw) vreqs reqs ((ri_arg hreqs) w hw) vps ps ((ri_row 3 rfl) w hw) vrs rs ((ri_row 4 rfl) w hw) v3 (p ++ [(l : Int)]) ((ri_row 1 rfl) w hw) hRs)) rfl rfl rfl ?_
            refine TL.nil ?_
            refine TH.back (fun w hw => Hp.sublist hw (.cons _ (.cons _ (List.Sublist.refl _)))) ?_
            refine TH.take 26 rfl (by kernel_rfl) (y_pickT (ev_t rfl) (ev_t rfl)) rfl rfl rfl ?_
            refine TH.done (by kernel_rfl) ?_
            exact fun a' w' hs hw => ⟨hs.sub ⟨rfl, rfl, rfl, rfl, rfl, rfl, rfl, rfl, rfl, trivial⟩, Hp.sublist hw (.cons _ (.cons _ (List.Sublist.refl _)))⟩
          · refine TL.ung (w_t rfl rfl rfl) ?_
            refine TL.buildI (zs := [.tmp 77]) (qs := [(l : Int)]) slT_25 rfl ⟨(ev_g rfl rfl), trivial⟩ rfl (by decide) rfl (fun v2 => ?_)
            refine TL.nil ?_
            refine TH.back (fun w hw => Hp.sublist hw (.cons _ (List.Sublist.refl _))) ?_
            refine TH.loud 21 rfl (by kernel_rfl) ?_
            refine TL.ung (w_t rfl rfl rfl) ?_
            refine TL.callr (ι := Value) (vs := [vo]) (fun u => u) (fun u => [rowI 3 u p]) en_35 ⟨(ev_g rfl rfl), trivial⟩ rfl (fun w hw => spec_l1Own_ok w vo p ((ri_row 1 rfl) w hw) (by omega)) (fun vc => ?_)
            refine TL.nil ?_
            refine TH.back (fun w hw => Hp.sublist hw (.cons _ (.cons _ (List.Sublist.refl _)))) ?_
            refine TH.loud 24 rfl (by kernel_rfl) ?_
            refine TL.ung (w_t rfl rfl rfl) ?_
            refine TL.appendI (zs := p) (qs := [(l : Int)]) 0 (ev_t rfl) (ev_t rfl) rfl slT_25 (ri_row 1 rfl) (by simp; omega) rfl (fun v3 => ?_)
            refine TL.nil ?_
            refine TH.back (fun w hw => Hp.sublist hw (.cons _ (.cons _ (List.Sublist.refl _)))) ?_
            refine TH.loud 25 rfl (by kernel_rfl) ?_
            refine TL.ung (w_t rfl rfl rfl) ?_
            refine TL.op (y_call (vs := [(.agg #[vm]), va, vreqs, vps, vrs, v3]) (v := (.bool (goesB m a reqs ps rs (p ++ [(l : Int)])))) en_34 ⟨(ev_g rfl rfl), (ev_g rfl rfl), (ev_g rfl rfl), (ev_g rfl rfl), (ev_g rfl rfl), (ev_t rfl), trivial⟩
              (fun w hw => spec_l7Goes_ok w vm um m ((rii_arg hm) w hw) va a ((ri_arg ha) w hw) vreqs reqs ((ri_arg hreqs) w hw) vps ps ((ri_row 3 rfl) w hw) vrs rs ((ri_row 4 rfl) w hw) v3 (p ++ [(l : Int)]) ((ri_row 0 rfl) w hw) hRs)) rfl rfl rfl ?_
            refine TL.nil ?_
            refine TH.back (fun w hw => Hp.sublist hw (.cons _ (.cons _ (List.Sublist.refl _)))) ?_
            refine TH.take 26 rfl (by kernel_rfl) (y_pickT (ev_t rfl) (ev_t rfl)) rfl rfl rfl ?_
            refine TH.done (by kernel_rfl) ?_
            exact fun a' w' hs hw => ⟨hs.sub ⟨rfl, rfl, rfl, rfl, rfl, rfl, rfl, rfl, rfl, trivial⟩, Hp.sublist hw (.cons _ (.cons _ (List.Sublist.refl _)))⟩
        · rw [hb, Bool.false_and]
          refine TH.takew 15 (v := undef) rfl (by kernel_rfl) (w_t rfl rfl rfl) (fun hg => by cases hg) rfl rfl ?_
          refine TH.takew 16 (v := undef) rfl (by kernel_rfl) (w_t rfl rfl rfl) (fun hg => by cases hg) rfl rfl ?_
          refine TH.takew 17 (v := undef) rfl (by kernel_rfl) (w_t rfl rfl rfl) (fun hg => by cases hg) rfl rfl ?_
          refine TH.takew 18 (v := undef) rfl (by kernel_rfl) (w_t rfl rfl rfl) (fun hg => by cases hg) rfl rfl ?_
          refine TH.takew 19 (v := undef) rfl (by kernel_rfl) (w_t rfl rfl rfl) (fun hg => by cases hg) rfl rfl ?_
          refine TH.takew 20 (v := undef) rfl (by kernel_rfl) (w_t rfl rfl rfl) (fun hg => by cases hg) rfl rfl ?_
          refine TH.takew 21 (v := undef) rfl (by kernel_rfl) (w_t rfl rfl rfl) (fun hg => by cases hg) rfl rfl ?_
          refine TH.takew 22 (v := undef) rfl (by kernel_rfl) (w_t rfl rfl rfl) (fun hg => by cases hg) rfl rfl ?_
          refine TH.takew 23 (v := undef) rfl (by kernel_rfl) (w_t rfl rfl rfl) (fun hg => by cases hg) rfl rfl ?_
          refine TH.takew 24 (v := undef) rfl (by kernel_rfl) (w_t rfl rfl rfl) (fun hg => by cases hg) rfl rfl ?_
          refine TH.takew 25 (v := undef) rfl (by kernel_rfl) (w_t rfl rfl rfl) (fun hg => by cases hg) rfl rfl ?_
          refine TH.take 26 rfl (by kernel_rfl) (y_pickF (ev_t rfl) ev_c) rfl rfl rfl ?_
          refine TH.done (by kernel_rfl) ?_
          exact fun a' w' hs hw => ⟨hs.sub ⟨rfl, rfl, rfl, rfl, rfl, rfl, rfl, rfl, rfl, trivial⟩, hw⟩
      intro a' w' ⟨hs, hw⟩
      refine (TN.seq (C := Hp w [rowI 3 vo p, rowI 3 vps ps, rowI 3 vrs rs, .blk g3 29 [vm]]) (l := [(1, va), (2, vreqs), (3, .pointer (some ⟨g3, 0, none⟩)), (8, vo), (9, vps), (10, vrs), (11, .int .i64 (i : Int)), (12, .int .i64 (l : Int)), (81, .bool (((!(F_spec_l1Has p (l : Int))) && F_spec_l7Tight m a reqs ps rs (l : Int) (i : Int)) && goesB m a reqs ps rs (p ++ [(l : Int)])))]) ?_) a' w' hs hw
      refine TC.cond (b := (((!(F_spec_l1Has p (l : Int))) && F_spec_l7Tight m a reqs ps rs (l : Int) (i : Int)) && goesB m a reqs ps rs (p ++ [(l : Int)]))) (ev_t rfl) (fun h6 => ?_) (fun h6 => ?_)
      · have hex : Ext m a reqs (p ++ [(l : Int)]) := by
          rw [← hpl] at h6
          exact (goesB_test hRs hL.ext (by omega)).1 h6
        refine TC.seq ?_
        refine TC.region ?_
        refine TL.op (yq (y_move (ev_t rfl))) rfl rfl rfl ?_
        refine TL.op (yq (y_move (ev_t rfl))) rfl rfl rfl ?_
        refine TL.buildI (zs := [.tmp 83]) (qs := [(l : Int)]) slT_25 rfl ⟨(ev_t rfl), trivial⟩ rfl (by decide) rfl (fun v2 => ?_)
        refine TL.appendI (zs := p) (qs := [(l : Int)]) 1 (ev_t rfl) (ev_t rfl) rfl slT_25 (ri_row 0 rfl) (by simp; omega) rfl (fun v3 => ?_)
        refine TL.op (yq (y_assign (ev_t rfl))) rfl rfl rfl ?_
        refine TL.nil ?_
        refine TN.seq ?_
        refine TC.exit ?_
        repeat first | refine TN.thenE ?_ | refine TN.blockM rfl ?_
        refine TN.blockH ?_
        refine TN.blockN ?_
        refine TN.seq ?_
        refine TC.region ?_
        refine TL.op (yq (y_move (ev_t rfl))) rfl rfl rfl ?_
        refine TL.op (yq (y_add (ev_t rfl) ev_c (by unfold In64; constructor <;> omega))) rfl rfl rfl ?_
        refine TL.op (yq (y_assign (ev_t rfl))) rfl rfl rfl ?_
        refine TL.nil ?_
        exact TN.hand (i + 1, v3, p ++ [(l : Int)]) ⟨hin, by simp [hpl], hL.push hno hex⟩ (by show reqs.length - (i + 1) < reqs.length - i; omega) ⟨rfl, rfl, rfl, rfl, rfl, rfl, rfl, trivial⟩ (fun w hw => Hp.sublist hw (.cons _ (List.Sublist.refl _)))
      · skip
        refine TC.skip ?_
        refine TN.blockN ?_
        refine TN.seq ?_
        refine TC.region ?_
        refine TL.op (yq (y_move (ev_t rfl))) rfl rfl rfl ?_
        refine TL.op (yq (y_add (ev_t rfl) ev_c (by unfold In64; constructor <;> omega))) rfl rfl rfl ?_
        refine TL.op (yq (y_assign (ev_t rfl))) rfl rfl rfl ?_
        refine TL.nil ?_
        refine TN.hand (l + 1) ⟨hll, fun k hk => ?_⟩ (by show a.length + i - (l + 1) < a.length + i - l; omega) ⟨rfl, rfl, rfl, rfl, rfl, rfl, rfl, rfl, trivial⟩ (fun w hw => hw)
        by_cases e : k = l
        · intro hex
          have h7 := (goesB_test hRs hL.ext (by omega)).2 hex
          rw [hpl, e, h6] at h7
          cases h7
        · exact hno k (by omega)
    · exfalso
      obtain ⟨k, hk, hek⟩ := hL.more (by omega)
      have := of_decide_eq_false h5
      exact hno k (by omega) hek
  · have hin : i = reqs.length := by have := of_decide_eq_false h4; omega
    subst hin
    refine TC.exit ?_
    repeat first | refine TN.thenE ?_ | refine TN.blockM rfl ?_
    refine TN.blockH ?_
    refine TN.seq ?_
    refine TC.seq ?_
    refine TC.region ?_
    refine TL.op (yq (y_move (ev_t rfl))) rfl rfl rfl ?_
    refine TL.op (yq (y_assign (ev_t rfl))) rfl rfl rfl ?_
    refine TL.op (yq (y_assign ev_c)) rfl rfl rfl ?_
    refine TL.nil ?_
    refine TN.seq ?_
    refine TC.ret ?_
    have hch := chains_eq hL hpl
    rw [hch] at hF
    subst hF
    exact TN.ret2 rfl (ev_t rfl) (ev_t rfl) (fun w' hw => ⟨vo, rfl, Hp.sublist hw (.cons_cons _ (.cons _ (.cons _ (.cons _ .slnil))))⟩)
end Go.Proofs.Ytgnikdpgndmldaa
namespace Go.Proofs.Ytgnikdpgndmldaa
set_option linter.unusedVariables false
set_option linter.unusedSimpArgs false
open Go Go.RowKit
set_option linter.unusedVariables false

/-- The rows of a table of ints lie in a bag. -/
def BagI (us : List Value) (xss : List (List Int)) (L : List (Value × List Value)) : Prop := us.length = xss.length ∧ ∀ i, i < xss.length → (us.getD i undef, ints (xss.getD i [])) ∈ L
theorem BagI.start {us : List Value} {xss : List (List Int)} (h : us.length = xss.length) : BagI us xss (rowsOf us xss) := ⟨h, fun i hi => List.mem_map.2 ⟨i, List.mem_range.2 (by omega), rfl⟩⟩
theorem BagI.put {us : List Value} {xss : List (List Int)} {L : List (Value × List Value)} (h : BagI us xss L) {i : Nat} (hi : i < xss.length) (u : Value) (xs : List Int) : BagI (us.set i u) (xss.set i xs) ((u, ints xs) :: L) := by
  have h1 := h.1
  refine ⟨by rw [List.length_set, List.length_set]; exact h1, fun j hj => ?_⟩
  rw [List.length_set] at hj
  rw [Kn.getD_set _ _ _ _ _ (by omega), Kn.getD_set _ _ _ _ _ hi]
  by_cases e : j = i
  · rw [if_pos e, if_pos e]; simp
  · rw [if_neg e, if_neg e]; exact List.mem_cons_of_mem _ (h.2 j hj)
theorem ri_bag {w0 : World} {os : List Ck} {e : TypeId} (i : Nat) {gs : List Nat} {L : List (Value × List Value)} {u : Value} {xs : List Int} (ho : os[i]? = some (bagCk e gs L)) (hm : (u, ints xs) ∈ L) : ∀ w, Hp w0 os w → RI w u xs := fun w hw => by
  have := bag_rd i ho hm w hw
  have e : (ints xs).length = xs.length := by simp [ints]
  rwa [e] at this
theorem rii_bag {w0 : World} {os : List Ck} (p q : Nat) {e e1 : TypeId} {v : Value} {us : List Value} {gs : List Nat} {L : List (Value × List Value)} {xss : List (List Int)} (ho : os[p]? = some (.row v e1 1 us.length us)) (hq : os[q]? = some (bagCk e gs L)) (hB : BagI us xss L) :
    ∀ w, Hp w0 os w → RII w v us xss := fun w hw => by
  have h1 := (rd_row p ho) w hw
  refine ⟨?_, hB.1, fun i hi => ri_bag q hq (hB.2 i hi) w hw⟩
  have h2 := hB.1
  rwa [h2] at h1
section
variable {P : Program} {ops : Array Oper} {Q : Exit → Act → World → Prop} {N : Nat} {C : World → Prop} {rest : List Oper} {l : Sl} {v : Value} {c : Code} {p : Prop}
variable {ty : TypeId} {ps : String} {af : Array Edge} {x y : Operand} {t e : TypeId} {m : Nat} {w0 : World} {os : List Ck}
theorem TL.know (hp : ∀ w, C w → p) (h : p → TL P ops Q N C rest l) : TL P ops Q N C rest l := fun a w hs hw => h (hp w hw) a w hs hw
/-- A slice is stored into an owned slice of such. -/
theorem TL.storeV (i : Nat) {k : Nat} {u : Value} {us : List Value} (hx : Ev l x (pt v k 1)) (hy : Ev l y u) (hT : One P t) (ho : os[i]? = some (.row v e 1 us.length us)) (hlt : k < us.length) (hu : ∀ w, Hp w0 os w → Ln u m)
    (h : TL P ops Q N (Hp w0 (os.set i (.row v e 1 (us.set k u).length (us.set k u)))) rest l) : TL P ops Q N (Hp w0 os) (⟨none, .store t x y, ty, ps, af, none⟩ :: rest) l := fun a w hs hw =>
  TL.store i hx hy hT ho hlt (ln_one (hu w hw)) (by simpa only [List.length_set] using h) a w hs hw
end
theorem Tb.rerow {m : List (List Int)} {a reqs p : List Int} {cs : List (List Int)} {z : Nat} (h : Tb m a reqs p z cs) {row : List Int} (hr : row.length = a.length + reqs.length) (hz : z < reqs.length) : Tb m a reqs p z (cs.set z row) := by
  have hl := h.len
  refine ⟨by rw [List.length_set]; exact hl, fun x hx => ?_, fun x l hx hl2 hne => ?_⟩
  · rw [Kn.getD_set _ _ _ _ _ (by omega)]
    split
    · exact hr
    · exact h.row x hx
  · rw [Kn.getD_set _ _ _ _ _ (by omega), if_neg hne]
    exact h.el x l hx hl2 hne

set_option maxRecDepth 8000 in
set_option maxHeartbeats 4000000 in
theorem impl_ChainsOf_ok (w : World) (vm : Value) (um : List Value) (m : List (List Int)) (hm : RII w vm um m) (va : Value) (a : List Int) (ha : RI w va a) (vreqs : Value) (reqs : List Int) (hreqs : RI w vreqs reqs)  :
    Calls Try.prog 19 ([(.agg #[vm]), va, vreqs] : List Value).toArray w (fun e w' => ∃ i : Value, e = .returned (.tuple #[i, (.bool ((F_spec_ChainsOf m a reqs).2))]) ∧ Hp w [rowI 3 i ((F_spec_ChainsOf m a reqs).1)] w') := by
  obtain ⟨rz, hF⟩ : ∃ rz, (F_spec_ChainsOf m a reqs) = rz := ⟨_, rfl⟩
  rw [hF]
  unfold F_spec_ChainsOf at hF
  have hlen_reqs := arg_len hreqs
  refine calls_tc Try.func19 rfl rfl rfl ?_
  change TC _ _ _ _ (Hp w []) [(0, .agg #[vm]), (1, va), (2, vreqs)]
  refine TC.seq ?_
  refine TC.region ?_
  refine TL.box (ev_t rfl) rfl (fun g3 => ?_)
  refine TL.op (yq (y_assign ev_c)) rfl rfl rfl ?_
  refine TL.op (yq (y_assign ev_c)) rfl rfl rfl ?_
  refine TL.nil ?_
  refine TN.seq ?_
  refine TC.seq ?_
  refine TC.seq ?_
  refine TC.region ?_
  refine TL.op (yq (y_ldagg (cs := [vm]) 0 (ev_t rfl) agg_29 rfl)) rfl rfl rfl ?_
  refine TL.op (yq (y_move (ev_t rfl))) rfl rfl rfl ?_
  refine TL.op (yq (y_move (ev_t rfl))) rfl rfl rfl ?_
  refine TL.op (y_call (vs := [(.agg #[vm]), va, vreqs]) (v := (.bool (F_impl_isServed m a reqs))) en_26 ⟨(ev_t rfl), (ev_t rfl), (ev_t rfl), trivial⟩ (fun w hw => impl_isServed_ok w vm um m ((rii_arg hm) w hw) va a ((ri_arg ha) w hw) vreqs reqs ((ri_arg hreqs) w hw))) rfl rfl rfl ?_
  refine TL.op (yq (y_not (ev_t rfl))) rfl rfl rfl ?_
  refine TL.op (yq (y_move (ev_t rfl))) rfl rfl rfl ?_
  refine TL.opw (w_f rfl rfl rfl) (fun hg => yq (y_move (ev_t rfl))) rfl rfl ?_
  refine TL.opw (w_f rfl rfl rfl) (fun hg => yq (y_len (ev_g rfl hg) Try.underlying25 (fun w hw => ((ri_arg hreqs) w hw).ln))) rfl rfl ?_
  refine TL.opw (w_f rfl rfl rfl) (fun hg => yq (y_gtr (ev_g rfl hg) ev_c)) rfl rfl ?_
  refine TL.op (yq (y_or (ev_t rfl) (fun hq => (ev_g rfl hq)))) rfl rfl rfl ?_
  refine TL.nil ?_
  refine TN.seq ?_
  refine TC.cond (b := ((!(F_impl_isServed m a reqs)) || decide ((24 : Int) < (reqs.length : Int)))) (ev_t rfl) (fun h3 => ?_) (fun h3 => ?_)
  · skip
    refine TC.seq ?_
    refine TC.region ?_
    refine TL.op (yq (y_assign ev_c)) rfl rfl rfl ?_
    refine TL.op (yq (y_assign ev_c)) rfl rfl rfl ?_
    refine TL.nil ?_
    refine TN.seq ?_
    refine TC.ret ?_
    repeat first | refine TN.thenR ?_ | refine TN.blockR ?_
    have hF' : rz = ([], false) := by
      rw [← hF]
      rcases or_t h3 with h | h
      · rw [not_t h]; rfl
      · have h4 := of_decide_eq_true h
        rw [decide_eq_false (by omega : ¬ (reqs.length : Int) ≤ 24), Bool.and_false]; rfl
    subst hF'
    exact TN.ret2 rfl (ev_t rfl) (ev_t rfl) (fun w' hw => ⟨.slice none 0 0, rfl, hw.nl.nil 3 1⟩)
  obtain ⟨h3a, h3b⟩ := or_f h3
  have hsv : F_impl_isServed m a reqs = true := not_f h3a
  have hS : Sv m a reqs := isServed_t hsv
  have h24 : reqs.length ≤ 24 := by have := of_decide_eq_false h3b; omega
  have hn3 := hS.cf.n3
  have hn1 := hS.cf.n1
  have hcs := cs_flow hS
  have hTb0 := tb_start hS reqs.length
  obtain ⟨cs0, hcs0⟩ : ∃ cs, cs = (F_impl_flowOf m a reqs).2 := ⟨_, rfl⟩
  rw [← hcs0] at hcs hTb0
  have hc0l : cs0.length = reqs.length := hTb0.len
  rw [hsv, decide_eq_true (by omega : (reqs.length : Int) ≤ 24), Bool.and_self, bif_t] at hF
  refine TC.skip ?_
  refine TN.seq ?_
  refine TC.seq ?_
  refine TC.region ?_
  refine TL.op (yq (y_ldagg (cs := [vm]) 0 (ev_t rfl) agg_29 rfl)) rfl rfl rfl ?_
  refine TL.op (yq (y_move (ev_t rfl))) rfl rfl rfl ?_
  refine TL.op (yq (y_move (ev_t rfl))) rfl rfl rfl ?_
  refine TL.callr (ι := Nat × Value × List Value) (vs := [(.agg #[vm]), va, vreqs]) (fun i => (.pointer (some ⟨i.1, 0, none⟩))) (fun i => [.blk i.1 48 [.int .i64 ((F_impl_flowOf m a reqs).1), i.2.1], tabI 25 3 i.2.1 i.2.2 cs0]) en_28 ⟨(ev_t rfl), (ev_t rfl), (ev_t rfl), trivial⟩ rfl
    (fun w hw => by rw [hcs0]; exact impl_flowOf_ok w vm um m ((rii_arg hm) w hw) va a ((ri_arg ha) w hw) vreqs reqs ((ri_arg hreqs) w hw) hS) ?_
  rintro ⟨gF, vt, ut⟩
  obtain ⟨sF, hsF⟩ : ∃ s, s = (F_impl_flowOf m a reqs).1 := ⟨_, rfl⟩
  rw [← hsF]
  refine TL.op (yq (y_assign (ev_t rfl))) rfl rfl rfl ?_
  refine TL.nil ?_
  refine TN.seq ?_
  obtain ⟨best, hbest⟩ : ∃ s, s = (F_impl_assigned cs0).2 := ⟨_, rfl⟩
  refine TC.seq ?_
  refine TC.region ?_
  refine TL.op (yq (y_move (ev_t rfl))) rfl rfl rfl ?_
  refine TL.op (yq (y_nilp (ev_t rfl))) rfl rfl rfl ?_
  refine TL.op (yq (y_fa (fa_48_1 gF) (ev_t rfl))) rfl rfl rfl ?_
  refine TL.op (yq (y_ldb 0 (ev_t rfl) one_22 rfl rfl)) rfl rfl rfl ?_
  refine TL.callr (ι := Value) (vs := [vt]) (fun i => (.tuple #[i, (.int .i64 best)])) (fun i => [rowI 3 i ((F_impl_assigned cs0).1)]) en_27 ⟨(ev_t rfl), trivial⟩ rfl (fun w hw => by rw [hbest]; exact impl_assigned_ok w vt ut cs0 ((rii_tab 1 rfl) w hw) hcs) (fun r7 => ?_)
  refine TL.op (yq (y_move (ev_t rfl))) rfl rfl rfl ?_
  refine TL.op (yq (y_extract (ev_t rfl) rfl)) rfl rfl rfl ?_
  refine TL.op (yq (y_extract (ev_t rfl) rfl)) rfl rfl rfl ?_
  refine TL.op (yq (y_assign (ev_t rfl))) rfl rfl rfl ?_
  refine TL.op (yq (y_assign (ev_t rfl))) rfl rfl rfl ?_
  refine TL.know (p := ut.length = cs0.length) (fun w hw => (hw.get 2 rfl).2.1) (fun hutl => ?_)
  refine TL.nil ?_
  refine TN.seq ?_
  refine TC.seq ?_
  refine TC.region ?_
  refine TL.buildI (zs := []) (qs := []) slT_25 rfl trivial rfl (by decide) rfl (fun v11 => ?_)
  refine TL.op (yq (y_assign (ev_t rfl))) rfl rfl rfl ?_
  refine TL.nil ?_
  refine TN.seq ?_
  refine TC.cls (C' := Hp w [rowI 3 v11 [], .row vt 25 1 ut.length ut, bagCk 3 (ut.filterMap obk) (rowsOf ut cs0), .blk gF 48 [.int .i64 sF, vt]])
    (fun w hw => Hp.picks [2, 0, 1, 3] (by decide) rfl (Hp.tabBag (Hp.picks (os' := [tabI 25 3 vt ut cs0, rowI 3 v11 [], .blk gF 48 [.int .i64 sF, vt]]) [3, 0, 2] (by decide) rfl hw))) ?_
  refine TC.seq ?_
  refine TC.seq ?_
  refine TC.region ?_
  refine TL.op (yq (y_move (ev_t rfl))) rfl rfl rfl ?_
  refine TL.op (yq (y_nilp (ev_t rfl))) rfl rfl rfl ?_
  refine TL.op (yq (y_fa (fa_48_1 gF) (ev_t rfl))) rfl rfl rfl ?_
  refine TL.op (yq (y_ldb 3 (ev_t rfl) one_22 rfl rfl)) rfl rfl rfl ?_
  refine TL.op (yq (y_len (n := reqs.length) (ev_t rfl) Try.underlying22 (fun w hw => by have := ((rd_row 1 rfl) w hw).ln; rwa [hutl, hc0l] at this))) rfl rfl rfl ?_
  refine TL.op (yq (y_move ev_c)) rfl rfl rfl ?_
  refine TL.nil ?_
  refine TN.seq ?_
  refine TC.block ?_
  refine TC.loop (ι := Nat × Value × List Int × List Value × List (List Int) × List Nat × List (Value × List Value)) (fun (i, vo, _, _, _, _, _) => [(8, .pointer (some ⟨gF, 0, none⟩)), (10, .int .i64 best), (11, vo), (45, vt), (46, .int .i64 (reqs.length : Int)), (47, .int .i64 (i : Int))])
    (fun (_, vo, p, us, _, gs, L) => Hp w [rowI 3 vo p, .row vt 25 1 us.length us, bagCk 3 gs L, .blk gF 48 [.int .i64 sF, vt]])
    (fun (i, _, p, us, cs, _, L) => i ≤ reqs.length ∧ p.length = i ∧ Lex m a reqs p ∧ BagI us cs L ∧ Tb m a reqs p reqs.length cs) (fun (i, _, _, _, _, _, _) => reqs.length - i) (0, v11, [], ut, cs0, ut.filterMap obk, rowsOf ut cs0)
    ⟨Nat.zero_le _, rfl, lex_nil hS, BagI.start hutl, hTb0⟩ ⟨rfl, rfl, rfl, rfl, rfl, rfl, trivial⟩ (fun w hw => hw) ?_
  rintro ⟨i, vo, p, us, cs, gs, L⟩ hJ
  obtain ⟨hi, hpl, hL, hB, hTb⟩ : i ≤ reqs.length ∧ p.length = i ∧ Lex m a reqs p ∧ BagI us cs L ∧ Tb m a reqs p reqs.length cs := hJ
  change TC _ _ _ _ (Hp w [rowI 3 vo p, .row vt 25 1 us.length us, bagCk 3 gs L, .blk gF 48 [.int .i64 sF, vt]]) [(8, .pointer (some ⟨gF, 0, none⟩)), (10, .int .i64 best), (11, vo), (45, vt), (46, .int .i64 (reqs.length : Int)), (47, .int .i64 (i : Int))]
  have husl : us.length = reqs.length := by rw [hB.1]; exact hTb.len
  refine TC.seq ?_
  refine TC.region ?_
  refine TL.op (yq (y_lss (ev_t rfl) (ev_t rfl))) rfl rfl rfl ?_
  refine TL.nil ?_
  refine TN.seq ?_
  refine TC.seq ?_
  refine TC.cond (b := decide ((i : Int) < (reqs.length : Int))) (ev_t rfl) (fun h4 => ?_) (fun h4 => ?_)
  · have hin : i < reqs.length := by have := of_decide_eq_true h4; omega
    have hiu : i < us.length := by omega
    have hics : i < cs.length := by have := hTb.len; omega
    obtain ⟨rv, hrv⟩ : ∃ rv, rv = us.getD i undef := ⟨_, rfl⟩
    obtain ⟨xs0, hxs0⟩ : ∃ xs0, xs0 = cs.getD i [] := ⟨_, rfl⟩
    have hmem0 : (rv, ints xs0) ∈ L := by rw [hrv, hxs0]; exact hB.2 i hics
    have hx0l : xs0.length = a.length + reqs.length := by rw [hxs0]; exact hTb.row i hin
    have hx0 : ∀ k, k < a.length + reqs.length → xs0.getD k 0 = if k < a.length + i then gap m a reqs k i else 1073741824 := fun k hk => by
      rw [hxs0, hTb.el i k hin hk (by omega)]
      have h0 : ¬ i < p.length := by omega
      by_cases e : k < a.length + i
      · rw [if_pos e, if_pos ⟨e, fun h => absurd h h0⟩]
      · rw [if_neg e, if_neg (fun h => e h.1)]
    refine TC.skip ?_
    refine TN.seq ?_
    refine TC.seq ?_
    refine TC.block ?_
    refine TC.seq ?_
    refine TC.region ?_
    refine TL.op (yq (y_move (ev_t rfl))) rfl rfl rfl ?_
    refine TL.op (yq (y_idx (k := i) (ev_t rfl) (ev_t rfl) rfl slT_22 (rd_row 1 rfl) hiu)) rfl rfl rfl ?_
    refine TL.op (yq (y_ldu (ev_t rfl) one_25 (rd_row 1 rfl) hiu)) rfl rfl rfl ?_
    rw [← hrv]
    refine TL.op (yq (y_assign (ev_t rfl))) rfl rfl rfl ?_
    refine TL.op (yq (y_assign (ev_t rfl))) rfl rfl rfl ?_
    refine TL.nil ?_
    refine TN.seq ?_
    refine TC.seq ?_
    refine TC.region ?_
    refine TL.op (yq (y_move (ev_t rfl))) rfl rfl rfl ?_
    refine TL.op (yq (y_len (n := a.length + reqs.length) (ev_t rfl) Try.underlying25 (fun w hw => by have := ((ri_bag 2 rfl hmem0) w hw).ln; rwa [hx0l] at this))) rfl rfl rfl ?_
    refine TL.op (yq (y_move ev_c)) rfl rfl rfl ?_
    refine TL.nil ?_
    refine TN.seq ?_
    refine TC.block ?_
    refine TC.loop (ι := List Value × List (List Int) × List Nat × List (Value × List Value) × Nat) (fun (_, _, _, _, k) => [(8, .pointer (some ⟨gF, 0, none⟩)), (10, .int .i64 best), (11, vo), (12, .int .i64 (i : Int)), (13, rv), (45, vt), (46, .int .i64 (reqs.length : Int)), (47, .int .i64 (i : Int)), (52, rv), (53, .int .i64 ((a.length + reqs.length : Nat) : Int)), (54, .int .i64 (k : Int))])
      (fun (us, _, gs, L, _) => Hp w [rowI 3 vo p, .row vt 25 1 us.length us, bagCk 3 gs L, .blk gF 48 [.int .i64 sF, vt]])
      (fun (us, cs, _, L, k) => k ≤ a.length + reqs.length ∧ BagI us cs L ∧ (rv, ints xs0) ∈ L ∧ Tb m a reqs p i cs ∧ ∀ k' : Nat, k' < k → ¬ Ext m a reqs (p ++ [(k' : Int)])) (fun (_, _, _, _, k) => a.length + reqs.length - k) (us, cs, gs, L, 0)
      ⟨Nat.zero_le _, hB, hmem0, hTb.at_, fun k hk => by omega⟩ ⟨rfl, rfl, rfl, rfl, rfl, rfl, rfl, rfl, rfl, rfl, rfl, trivial⟩ (fun w hw => hw) ?_
    rintro ⟨us, cs, gs, L, k⟩ hJ2
    obtain ⟨hk, hB, hmem, hTb, hno⟩ : k ≤ a.length + reqs.length ∧ BagI us cs L ∧ (rv, ints xs0) ∈ L ∧ Tb m a reqs p i cs ∧ ∀ k' : Nat, k' < k → ¬ Ext m a reqs (p ++ [(k' : Int)]) := hJ2
    change TC _ _ _ _ (Hp w [rowI 3 vo p, .row vt 25 1 us.length us, bagCk 3 gs L, .blk gF 48 [.int .i64 sF, vt]]) [(8, .pointer (some ⟨gF, 0, none⟩)), (10, .int .i64 best), (11, vo), (12, .int .i64 (i : Int)), (13, rv), (45, vt), (46, .int .i64 (reqs.length : Int)), (47, .int .i64 (i : Int)), (52, rv), (53, .int .i64 ((a.length + reqs.length : Nat) : Int)), (54, .int .i64 (k : Int))]
    have husl : us.length = reqs.length := by rw [hB.1]; exact hTb.len
    have hiu : i < us.length := by omega
    have hics : i < cs.length := by have := hTb.len; omega
    refine TC.seq ?_
    refine TC.region ?_
    refine TL.op (yq (y_lss (ev_t rfl) (ev_t rfl))) rfl rfl rfl ?_
    refine TL.nil ?_
    refine TN.seq ?_
    refine TC.seq ?_
    refine TC.cond (b := decide ((k : Int) < ((a.length + reqs.length : Nat) : Int))) (ev_t rfl) (fun h5 => ?_) (fun h5 => ?_)
    · have hkW : k < a.length + reqs.length := by have := of_decide_eq_true h5; omega
      have hk0 : k < xs0.length := by omega
      have hsnoc : ¬ Ext m a reqs (p ++ [(k : Int)]) → ∀ k' : Nat, k' < k + 1 → ¬ Ext m a reqs (p ++ [(k' : Int)]) := fun h k' hk' => by
        by_cases e : k' = k
        · rw [e]; exact h
        · exact hno k' (by omega)
      refine TC.skip ?_
      refine TN.seq ?_
      refine TC.seq ?_
      refine TC.block ?_
      refine TC.seq ?_
      refine TC.region ?_
      refine TL.op (yq (y_move (ev_t rfl))) rfl rfl rfl ?_
      refine TL.op (yq (y_idxi (k := k) (ev_t rfl) (ev_t rfl) rfl slT_25 (ri_bag 2 rfl hmem) hk0)) rfl rfl rfl ?_
      refine TL.op (yq (y_ldi (ev_t rfl) one_3 (ri_bag 2 rfl hmem) hk0)) rfl rfl rfl ?_
      refine TL.op (yq (y_assign (ev_t rfl))) rfl rfl rfl ?_
      refine TL.op (yq (y_assign (ev_t rfl))) rfl rfl rfl ?_
      refine TL.nil ?_
      refine TN.seq ?_
      refine TC.seq ?_
      refine TC.seq ?_
      refine TC.region ?_
      refine TL.op (yq (y_move (ev_t rfl))) rfl rfl rfl ?_
      refine TL.op (yq (y_eql (ev_t rfl) ev_c)) rfl rfl rfl ?_
      refine TL.op (yq (y_move (ev_t rfl))) rfl rfl rfl ?_
      refine TL.opw (w_f rfl rfl rfl) (fun hg => yq (y_move (ev_t rfl))) rfl rfl ?_
      refine TL.opw (w_f rfl rfl rfl) (fun hg => yq (y_move (ev_t rfl))) rfl rfl ?_
      refine TL.opw (w_f rfl rfl rfl) (fun hg => y_call (vs := [vo, (.int .i64 (k : Int))]) (v := (.bool (F_slices_Contains_Sint_int p (k : Int)))) en_36 ⟨(ev_g rfl hg), (ev_g rfl hg), trivial⟩ (fun w hw => slices_Contains_Sint_int_ok w vo p ((ri_row 0 rfl) w hw) (k : Int))) rfl rfl ?_
      refine TL.op (yq (y_or (ev_t rfl) (fun hq => (ev_g rfl hq)))) rfl rfl rfl ?_
      refine TL.nil ?_
      refine TN.seq ?_
      refine TC.cond (b := (decide (xs0.getD k 0 = 1073741824) || F_slices_Contains_Sint_int p (k : Int))) (ev_t rfl) (fun h6 => ?_) (fun h6 => ?_)
      · have hne : ¬ Ext m a reqs (p ++ [(k : Int)]) := fun hex => by
          obtain ⟨_, e2, e3, _⟩ := hex.last
          rcases or_t h6 with h | h
          · have h7 := of_decide_eq_true h
            rw [hx0 k hkW, if_pos (by omega)] at h7
            have h8 := (gap_all hS k i).2
            omega
          · exact e3 ((contains_mem p k).1 h)
        refine TC.exit ?_
        repeat first | refine TN.thenE ?_ | refine TN.blockM rfl ?_
        refine TN.blockH ?_
        refine TN.seq ?_
        refine TC.region ?_
        refine TL.op (yq (y_add (ev_t rfl) ev_c (by unfold In64; constructor <;> omega))) rfl rfl rfl ?_
        refine TL.op (yq (y_move (ev_t rfl))) rfl rfl rfl ?_
        refine TL.nil ?_
        exact TN.hand (us, cs, gs, L, k + 1) ⟨hkW, hB, hmem, hTb, hsnoc hne⟩ (by show a.length + reqs.length - (k + 1) < a.length + reqs.length - k; omega) ⟨rfl, rfl, rfl, rfl, rfl, rfl, rfl, rfl, rfl, rfl, rfl, trivial⟩ (fun w hw => hw)
      obtain ⟨h6a, h6b⟩ := or_f h6
      have hfar := of_decide_eq_false h6a
      have hkai : k < a.length + i := Classical.byContradiction fun h => hfar (by rw [hx0 k hkW, if_neg h])
      have hcost : xs0.getD k 0 = gap m a reqs k i := by rw [hx0 k hkW, if_pos hkai]
      have hput : Tb m a reqs (p ++ [(k : Int)]) reqs.length (cs.set i ((List.replicate (a.length + reqs.length) 1073741824).set k (xs0.getD k 0))) := by
        rw [hcost]
        rw [← hpl] at hkai hin hTb ⊢
        exact hTb.put hkai hin
      obtain ⟨only, honly⟩ : ∃ only, only = (List.replicate (a.length + reqs.length) (1073741824 : Int)).set k (xs0.getD k 0) := ⟨_, rfl⟩
      rw [← honly] at hput
      have hol : only.length = a.length + reqs.length := by rw [honly]; simp
      have hcs2 : Cs (cs.set i only) := (hput.ft hS).cs
      refine TC.skip ?_
      refine TN.seq ?_
      refine TC.seq ?_
      refine TC.region ?_
      refine TL.buildI (zs := [.const (.int .i64 1073741824)]) (qs := [1073741824]) slT_25 rfl ⟨ev_c, trivial⟩ rfl (by decide) rfl (fun v66 => ?_)
      refine TL.op (yq (y_move (ev_t rfl))) rfl rfl rfl ?_
      refine TL.op (yq (y_len (n := a.length + reqs.length) (ev_t rfl) Try.underlying25 (fun w hw => by have := ((ri_bag 3 rfl hmem) w hw).ln; rwa [hx0l] at this))) rfl rfl rfl ?_
      refine TL.callr (ι := Value) (vs := [v66, (.int .i64 ((a.length + reqs.length : Nat) : Int))]) (fun u => u) (fun u => [rowI 3 u (List.replicate (a.length + reqs.length) 1073741824)]) en_37 ⟨(ev_t rfl), (ev_t rfl), trivial⟩ rfl (fun w hw => by
        have := slices_Repeat_Sint_int_ok w v66 [1073741824] ((ri_row 0 rfl) w hw) ((a.length + reqs.length : Nat) : Int) rfl (by omega) (by omega)
        rw [repeat_eq _ _ (by omega) (by omega), Int.toNat_natCast] at this
        exact this) (fun u16 => ?_)
      refine TL.op (yq (y_assign (ev_t rfl))) rfl rfl rfl ?_
      refine TL.nil ?_
      refine TN.seq ?_
      have hk1 : k < (List.replicate (a.length + reqs.length) (1073741824 : Int)).length := by rw [List.length_replicate]; exact hkW
      refine TC.seq ?_
      refine TC.region ?_
      refine TL.op (yq (y_move (ev_t rfl))) rfl rfl rfl ?_
      refine TL.op (yq (y_move (ev_t rfl))) rfl rfl rfl ?_
      refine TL.op (yq (y_move (ev_t rfl))) rfl rfl rfl ?_
      refine TL.op (yq (y_idxi (k := k) (ev_t rfl) (ev_t rfl) rfl slT_25 (ri_row 0 rfl) hk1)) rfl rfl rfl ?_
      refine TL.storeI 0 (ev_t rfl) (ev_t rfl) one_3 rfl hk1 ?_
      rw [← honly]
      refine TL.nil ?_
      refine TN.seq ?_
      refine TC.seq ?_
      refine TC.region ?_
      refine TL.op (yq (y_move (ev_t rfl))) rfl rfl rfl ?_
      refine TL.op (yq (y_nilp (ev_t rfl))) rfl rfl rfl ?_
      refine TL.op (yq (y_fa (fa_48_1 gF) (ev_t rfl))) rfl rfl rfl ?_
      refine TL.op (yq (y_ldb 5 (ev_t rfl) one_22 rfl rfl)) rfl rfl rfl ?_
      refine TL.op (yq (y_move (ev_t rfl))) rfl rfl rfl ?_
      refine TL.op (yq (y_move (ev_t rfl))) rfl rfl rfl ?_
      refine TL.op (yq (y_idx (k := i) (ev_t rfl) (ev_t rfl) rfl slT_22 (rd_row 3 rfl) hiu)) rfl rfl rfl ?_
      refine TL.storeV 3 (ev_t rfl) (ev_t rfl) one_25 rfl hiu (fun w hw => ((ri_row 0 rfl) w hw).ln) ?_
      refine TL.nil ?_
      refine TN.seq ?_
      have hB2 := hB.put hics u16 only
      refine TC.cls (C' := Hp w [rowI 3 vo p, .row vt 25 1 (us.set i u16).length (us.set i u16), bagCk 3 ((obk u16).toList ++ gs) ((u16, ints only) :: L), .blk gF 48 [.int .i64 sF, vt]])
        (fun w hw => Hp.picks [1, 2, 0, 3] (by decide) rfl (Hp.bagPut (Hp.picks (os' := [rowI 3 u16 only, bagCk 3 gs L, rowI 3 vo p, .row vt 25 1 (us.set i u16).length (us.set i u16), .blk gF 48 [.int .i64 sF, vt]]) [0, 4, 2, 3, 5] (by decide) rfl hw))) ?_
      refine TC.seq ?_
      refine TC.region ?_
      refine TL.op (yq (y_move (ev_t rfl))) rfl rfl rfl ?_
      refine TL.op (yq (y_nilp (ev_t rfl))) rfl rfl rfl ?_
      refine TL.op (yq (y_fa (fa_48_1 gF) (ev_t rfl))) rfl rfl rfl ?_
      refine TL.op (yq (y_ldb 3 (ev_t rfl) one_22 rfl rfl)) rfl rfl rfl ?_
      refine TL.callr (ι := Value) (vs := [vt]) (fun u => (.tuple #[u, (.int .i64 (F_impl_assigned (cs.set i only)).2)])) (fun u => [rowI 3 u ((F_impl_assigned (cs.set i only)).1)]) en_27 ⟨(ev_t rfl), trivial⟩ rfl (fun w hw => impl_assigned_ok w vt (us.set i u16) (cs.set i only) ((rii_bag 1 2 rfl rfl hB2) w hw) hcs2) (fun r86 => ?_)
      refine TL.op (yq (y_move (ev_t rfl))) rfl rfl rfl ?_
      refine TL.op (yq (y_extract (ev_t rfl) rfl)) rfl rfl rfl ?_
      refine TL.op (yq (y_extract (ev_t rfl) rfl)) rfl rfl rfl ?_
      refine TL.op (yq (y_assign (ev_t rfl))) rfl rfl rfl ?_
      refine TL.op (yq (y_assign (ev_t rfl))) rfl rfl rfl ?_
      refine TL.nil ?_
      refine TN.seq ?_
      refine TC.seq ?_
      refine TC.region ?_
      refine TL.op (yq (y_move (ev_t rfl))) rfl rfl rfl ?_
      refine TL.op (yq (y_move (ev_t rfl))) rfl rfl rfl ?_
      refine TL.op (yq (y_eql (ev_t rfl) (ev_t rfl))) rfl rfl rfl ?_
      refine TL.nil ?_
      refine TN.seq ?_
      have htest := impl_test hS hput (by simp; omega)
      rw [← hcs0, ← hbest] at htest
      refine TC.cond (b := decide ((F_impl_assigned (cs.set i only)).2 = best)) (ev_t rfl) (fun h7 => ?_) (fun h7 => ?_)
      · have hex := htest.1 (of_decide_eq_true h7)
        refine TC.seq ?_
        refine TC.region ?_
        refine TL.op (yq (y_move (ev_t rfl))) rfl rfl rfl ?_
        refine TL.op (yq (y_move (ev_t rfl))) rfl rfl rfl ?_
        refine TL.buildI (zs := [.tmp 93]) (qs := [(k : Int)]) slT_25 rfl ⟨(ev_t rfl), trivial⟩ rfl (by decide) rfl (fun v94 => ?_)
        refine TL.appendI (zs := p) (qs := [(k : Int)]) 2 (ev_t rfl) (ev_t rfl) rfl slT_25 (ri_row 0 rfl) (by simp; omega) rfl (fun v95 => ?_)
        refine TL.op (yq (y_assign (ev_t rfl))) rfl rfl rfl ?_
        refine TL.nil ?_
        refine TN.seq ?_
        refine TC.exit ?_
        repeat first | refine TN.thenE ?_ | refine TN.blockM rfl ?_
        refine TN.blockH ?_
        refine TN.blockN ?_
        refine TN.seq ?_
        refine TC.region ?_
        refine TL.op (yq (y_add (ev_t rfl) ev_c (by unfold In64; constructor <;> omega))) rfl rfl rfl ?_
        refine TL.op (yq (y_move (ev_t rfl))) rfl rfl rfl ?_
        refine TL.nil ?_
        exact TN.hand (i + 1, v95, p ++ [(k : Int)], us.set i u16, cs.set i only, (obk u16).toList ++ gs, (u16, ints only) :: L) ⟨hin, by simp [hpl], hL.push hno hex, hB2, hput⟩ (by show reqs.length - (i + 1) < reqs.length - i; omega) ⟨rfl, rfl, rfl, rfl, rfl, rfl, trivial⟩ (fun w hw => Hp.sublist hw (.cons _ (.cons _ (List.Sublist.refl _))))
      · have hne : ¬ Ext m a reqs (p ++ [(k : Int)]) := fun hex => of_decide_eq_false h7 (htest.2 hex)
        refine TC.skip ?_
        refine TN.blockN ?_
        refine TN.seq ?_
        refine TC.region ?_
        refine TL.op (yq (y_add (ev_t rfl) ev_c (by unfold In64; constructor <;> omega))) rfl rfl rfl ?_
        refine TL.op (yq (y_move (ev_t rfl))) rfl rfl rfl ?_
        refine TL.nil ?_
        exact TN.hand (us.set i u16, cs.set i only, (obk u16).toList ++ gs, (u16, ints only) :: L, k + 1) ⟨hkW, hB2, List.mem_cons_of_mem _ hmem, hTb.rerow hol hin, hsnoc hne⟩ (by show a.length + reqs.length - (k + 1) < a.length + reqs.length - k; omega) ⟨rfl, rfl, rfl, rfl, rfl, rfl, rfl, rfl, rfl, rfl, rfl, trivial⟩ (fun w hw => Hp.sublist hw (.cons _ (List.Sublist.refl _)))
    · exfalso
      obtain ⟨k', hk', hek⟩ := hL.more (by omega)
      have := of_decide_eq_false h5
      exact hno k' (by omega) hek
  · have hin : i = reqs.length := by have := of_decide_eq_false h4; omega
    subst hin
    refine TC.exit ?_
    repeat first | refine TN.thenE ?_ | refine TN.blockM rfl ?_
    refine TN.blockH ?_
    refine TN.seq ?_
    refine TC.seq ?_
    refine TC.region ?_
    refine TL.op (yq (y_move (ev_t rfl))) rfl rfl rfl ?_
    refine TL.op (yq (y_assign (ev_t rfl))) rfl rfl rfl ?_
    refine TL.op (yq (y_assign ev_c)) rfl rfl rfl ?_
    refine TL.nil ?_
    refine TN.seq ?_
    refine TC.ret ?_
    have hch := chains_eq hL hpl
    rw [hch] at hF
    subst hF
    exact TN.ret2 rfl (ev_t rfl) (ev_t rfl) (fun w' hw => ⟨vo, rfl, Hp.sublist hw (.cons_cons _ (.cons _ (.cons _ (.cons _ .slnil))))⟩)
end Go.Proofs.Ytgnikdpgndmldaa
namespace Go.Proofs.Ytgnikdpgndmldaa
set_option linter.unusedVariables false
set_option linter.unusedSimpArgs false
open Go Go.RowKit
set_option linter.unusedVariables false

set_option maxRecDepth 4000 in
set_option maxHeartbeats 1000000 in
theorem laws_FnExactChainsOf_ok (w : World) (vm : Value) (um : List Value) (m : List (List Int)) (hm : RII w vm um m) (va : Value) (a : List Int) (ha : RI w va a) (vreqs : Value) (reqs : List Int) (hreqs : RI w vreqs reqs)  :
    Calls Try.prog 5 ([(.agg #[vm]), va, vreqs] : List Value).toArray w (Ret (.bool (F_laws_FnExactChainsOf m a reqs)) (Hp w [])) := by
  obtain ⟨rz, hF⟩ : ∃ rz, (F_laws_FnExactChainsOf m a reqs) = rz := ⟨_, rfl⟩
  rw [hF]
  unfold F_laws_FnExactChainsOf at hF
  have hta := toIntS_eq a
  have htb := toIntS_eq reqs
  have hcl := chainsOf_len (F_laws_toMetric m) (F_laws_toIntS a) (F_laws_toIntS reqs)
  have hmk := markIntS_len (F_spec_ChainsOf (F_laws_toMetric m) (F_laws_toIntS a) (F_laws_toIntS reqs)).1 1
  have hk1 := markMetric_fst (F_laws_toMetric m) 1
  have hk2 := markIntS_fst (F_laws_toIntS a) (F_laws_markMetric (F_laws_toMetric m) 1).1
  have hk3 := markIntS_fst (F_laws_toIntS reqs) (F_laws_markIntS (F_laws_toIntS a) (F_laws_markMetric (F_laws_toMetric m) 1).1).1
  have hlen_m := argT_len hm
  have hlen_a := arg_len ha
  have hlen_reqs := arg_len hreqs
  refine calls_tc Try.func5 rfl rfl rfl ?_
  change TC _ _ _ _ (Hp w []) [(0, (.agg #[vm])), (1, va), (2, vreqs)]
  refine TC.seq ?_
  refine TC.region ?_
  refine TL.box (ev_t rfl) rfl (fun g0_0 => ?_)
  refine TL.op (yq (y_assign ev_c)) rfl rfl rfl ?_
  refine TL.nil ?_
  refine TN.seq ?_
  refine TC.seq ?_
  refine TC.seq ?_
  refine TC.region ?_
  refine TL.op (yq (y_move (ev_t rfl))) rfl rfl rfl ?_
  refine TL.op (yq (y_len (ev_t rfl) Try.underlying25 (fun w hw => ((ri_arg ha) w hw).ln))) rfl rfl rfl ?_
  refine TL.op (yq (y_gtr (ev_t rfl) ev_c)) rfl rfl rfl ?_
  refine TL.nil ?_
  refine TN.seq ?_
  refine TC.cond (b := decide (1048576 < (a.length : Int))) (ev_t rfl) (fun h27 => ?_) (fun h27 => ?_)
  · rw [bif_pos h27] at hF
    have q28 := (of_decide_eq_true h27)
    refine TC.seq ?_
    refine TC.region ?_
    refine TL.op (yq (y_assign ev_c)) rfl rfl rfl ?_
    refine TL.nil ?_
    refine TN.seq ?_
    refine TC.ret ?_
    refine TN.thenR ?_
    subst hF
    exact TN.ret1 rfl (ev_t rfl) (fun w' hw => ⟨rfl, Hp.sublist hw (List.nil_sublist _)⟩)
  · rw [bif_neg h27] at hF
    have q28 := (of_decide_eq_false h27)
    refine TC.skip ?_
    refine TN.seq ?_
    refine TC.seq ?_
    refine TC.seq ?_
    refine TC.region ?_
    refine TL.op (yq (y_move (ev_t rfl))) rfl rfl rfl ?_
    refine TL.op (yq (y_len (ev_t rfl) Try.underlying25 (fun w hw => ((ri_arg hreqs) w hw).ln))) rfl rfl rfl ?_
    refine TL.op (yq (y_gtr (ev_t rfl) ev_c)) rfl rfl rfl ?_
    refine TL.nil ?_
    refine TN.seq ?_
    refine TC.cond (b := decide (1048576 < (reqs.length : Int))) (ev_t rfl) (fun h29 => ?_) (fun h29 => ?_)
    · rw [bif_pos h29] at hF
      have q30 := (of_decide_eq_true h29)
      refine TC.seq ?_
      refine TC.region ?_
      refine TL.op (yq (y_assign ev_c)) rfl rfl rfl ?_
      refine TL.nil ?_
      refine TN.seq ?_
      refine TC.ret ?_
      refine TN.thenR ?_
      subst hF
      exact TN.ret1 rfl (ev_t rfl) (fun w' hw => ⟨rfl, Hp.sublist hw (List.nil_sublist _)⟩)
    · rw [bif_neg h29] at hF
      have q30 := (of_decide_eq_false h29)
      refine TC.skip ?_
      refine TN.seq ?_
      refine TC.seq ?_
      refine TC.region ?_
      refine TL.op (yq (y_assign ev_c)) rfl rfl rfl ?_
      refine TL.nil ?_
      refine TN.seq ?_
      refine TC.seq ?_
      refine TC.region ?_
      refine TL.op (yq (y_ldagg (cs := [vm]) 0 (ev_t rfl) agg_24 rfl)) rfl rfl rfl ?_
      refine TL.op (yq (y_move (ev_t rfl))) rfl rfl rfl ?_
      refine TL.op (y_call (vs := [(.agg #[vm]), (.int .i64 1048576)]) (v := (.int .i64 (F_laws_szMetric m 1048576))) en_6 ⟨(ev_t rfl), (ev_t rfl), trivial⟩ (fun w hw => laws_szMetric_ok w vm um m ((rii_arg hm) w hw) 1048576 (by first | assumption | omega | grind) (by first | assumption | omega | grind))) rfl rfl rfl ?_
      refine TL.op (yq (y_assign (ev_t rfl))) rfl rfl rfl ?_
      refine TL.nil ?_
      refine TN.seq ?_
      refine TC.seq ?_
      refine TC.seq ?_
      refine TC.region ?_
      refine TL.op (yq (y_move (ev_t rfl))) rfl rfl rfl ?_
      refine TL.op (yq (y_lss (ev_t rfl) ev_c)) rfl rfl rfl ?_
      refine TL.nil ?_
      refine TN.seq ?_
      refine TC.cond (b := decide ((F_laws_szMetric m 1048576) < 0)) (ev_t rfl) (fun h31 => ?_) (fun h31 => ?_)
      · rw [bif_pos h31] at hF
        have q32 := (of_decide_eq_true h31)
        refine TC.seq ?_
        refine TC.region ?_
        refine TL.op (yq (y_assign ev_c)) rfl rfl rfl ?_
        refine TL.nil ?_
        refine TN.seq ?_
        refine TC.ret ?_
        refine TN.thenR ?_
        subst hF
        exact TN.ret1 rfl (ev_t rfl) (fun w' hw => ⟨rfl, Hp.sublist hw (List.nil_sublist _)⟩)
      · rw [bif_neg h31] at hF
        have q32 := (of_decide_eq_false h31)
        have hsz := szMetric_t (m := m) (left := 1048576) (by omega)
        have hsz1 : ∀ i, (m.getD i []).length ≤ 1048576 := fun i => by have := hsz.2 i; omega
        have hsz2 : m.length + total m ≤ 1048576 := by have := hsz.1; omega
        have htm := toMetric_eq m
        refine TC.skip ?_
        refine TN.seq ?_
        refine TC.seq ?_
        refine TC.region ?_
        refine TL.op (yq (y_ldagg (cs := [vm]) 0 (ev_t rfl) agg_24 rfl)) rfl rfl rfl ?_
        refine TL.callr (ι := Value × List Value) (vs := [(.agg #[vm])]) (fun i => (.agg #[i.1])) (fun i => [tabI 25 3 i.1 i.2 (F_laws_toMetric m)]) en_8 ⟨(ev_t rfl), trivial⟩ rfl (fun w hw => laws_toMetric_ok w vm um m ((rii_arg hm) w hw) (by first | assumption | omega | grind) (by first | assumption | omega | grind)) (fun r9_1 => ?_)
        refine TL.op (yq (y_move (ev_t rfl))) rfl rfl rfl ?_
        refine TL.callr (ι := Value) (vs := [va]) (fun i => i) (fun i => [rowI 3 i (F_laws_toIntS a)]) en_9 ⟨(ev_t rfl), trivial⟩ rfl (fun w hw => laws_toIntS_ok w va a ((ri_arg ha) w hw) (by first | assumption | omega | grind)) (fun r9_3 => ?_)
        refine TL.op (yq (y_move (ev_t rfl))) rfl rfl rfl ?_
        refine TL.callr (ι := Value) (vs := [vreqs]) (fun i => i) (fun i => [rowI 3 i (F_laws_toIntS reqs)]) en_9 ⟨(ev_t rfl), trivial⟩ rfl (fun w hw => laws_toIntS_ok w vreqs reqs ((ri_arg hreqs) w hw) (by first | assumption | omega | grind)) (fun r9_5 => ?_)
        refine TL.callr (ι := Value) (vs := [(.agg #[r9_1.1]), r9_3, r9_5]) (fun i => (.tuple #[i, (.bool ((F_spec_ChainsOf (F_laws_toMetric m) (F_laws_toIntS a) (F_laws_toIntS reqs)).2))])) (fun i => [rowI 3 i ((F_spec_ChainsOf (F_laws_toMetric m) (F_laws_toIntS a) (F_laws_toIntS reqs)).1)]) en_18 ⟨(ev_t rfl), (ev_t rfl), (ev_t rfl), trivial⟩ rfl (fun w hw => spec_ChainsOf_ok w r9_1.1 r9_1.2 (F_laws_toMetric m) ((rii_tab 2 rfl) w hw) r9_3 (F_laws_toIntS a) ((ri_row 1 rfl) w hw) r9_5 (F_laws_toIntS reqs) ((ri_row 0 rfl) w hw)) (fun r9_6 => ?_)
        refine TL.op (yq (y_move (ev_t rfl))) rfl rfl rfl ?_
        refine TL.op (yq (y_extract (ev_t rfl) rfl)) rfl rfl rfl ?_
        refine TL.op (yq (y_extract (ev_t rfl) rfl)) rfl rfl rfl ?_
        refine TL.op (yq (y_assign (ev_t rfl))) rfl rfl rfl ?_
        refine TL.op (yq (y_assign (ev_t rfl))) rfl rfl rfl ?_
        refine TL.nil ?_
        refine TN.seq ?_
        refine TC.seq ?_
        refine TC.region ?_
        refine TL.op (yq (y_ldagg (cs := [vm]) 4 (ev_t rfl) agg_24 rfl)) rfl rfl rfl ?_
        refine TL.callr (ι := Value × List Value) (vs := [(.agg #[vm])]) (fun i => (.agg #[i.1])) (fun i => [tabI 25 3 i.1 i.2 (F_laws_toMetric m)]) en_8 ⟨(ev_t rfl), trivial⟩ rfl (fun w hw => laws_toMetric_ok w vm um m ((rii_arg hm) w hw) (by first | assumption | omega | grind) (by first | assumption | omega | grind)) (fun r10_1 => ?_)
        refine TL.alloc (u := (.agg #[(.slice none 0 0)])) (by kernel_rfl) rfl (fun g10_2 => ?_)
        refine TL.storeAgg (cs := [(.slice none 0 0)]) (us := [r10_1.1]) 0 (ev_t rfl) (ev_t rfl) agg_29 rfl rfl (fun w hw => (ocs_cons (ln_one ((fun w hw => ((rii_tab 1 rfl) w hw).1) w hw).ln) ocs_nil)) ?_
        refine TL.nil ?_
        refine TN.seq ?_
        refine TC.seq ?_
        refine TC.region ?_
        refine TL.op (yq (y_move (ev_t rfl))) rfl rfl rfl ?_
        refine TL.callr (ι := Value) (vs := [va]) (fun i => i) (fun i => [rowI 3 i (F_laws_toIntS a)]) en_9 ⟨(ev_t rfl), trivial⟩ rfl (fun w hw => laws_toIntS_ok w va a ((ri_arg ha) w hw) (by first | assumption | omega | grind)) (fun r11_1 => ?_)
        refine TL.op (yq (y_assign (ev_t rfl))) rfl rfl rfl ?_
        refine TL.nil ?_
        refine TN.seq ?_
        refine TC.seq ?_
        refine TC.region ?_
        refine TL.op (yq (y_move (ev_t rfl))) rfl rfl rfl ?_
        refine TL.callr (ι := Value) (vs := [vreqs]) (fun i => i) (fun i => [rowI 3 i (F_laws_toIntS reqs)]) en_9 ⟨(ev_t rfl), trivial⟩ rfl (fun w hw => laws_toIntS_ok w vreqs reqs ((ri_arg hreqs) w hw) (by first | assumption | omega | grind)) (fun r12_1 => ?_)
        refine TL.op (yq (y_assign (ev_t rfl))) rfl rfl rfl ?_
        refine TL.nil ?_
        refine TN.seq ?_
        refine TC.seq ?_
        refine TC.region ?_
        refine TL.op (yq (y_ldagg (cs := [r10_1.1]) 2 (ev_t rfl) agg_29 rfl)) rfl rfl rfl ?_
        refine TL.op (yq (y_move (ev_t rfl))) rfl rfl rfl ?_
        refine TL.op (yq (y_move (ev_t rfl))) rfl rfl rfl ?_
        refine TL.callr (ι := Value) (vs := [(.agg #[r10_1.1]), r11_1, r12_1]) (fun i => (.tuple #[i, (.bool ((F_spec_ChainsOf (F_laws_toMetric m) (F_laws_toIntS a) (F_laws_toIntS reqs)).2))])) (fun i => [rowI 3 i ((F_spec_ChainsOf (F_laws_toMetric m) (F_laws_toIntS a) (F_laws_toIntS reqs)).1)]) en_19 ⟨(ev_t rfl), (ev_t rfl), (ev_t rfl), trivial⟩ rfl (fun w hw => impl_ChainsOf_ok w r10_1.1 r10_1.2 (F_laws_toMetric m) ((rii_tab 3 rfl) w hw) r11_1 (F_laws_toIntS a) ((ri_row 1 rfl) w hw) r12_1 (F_laws_toIntS reqs) ((ri_row 0 rfl) w hw)) (fun r13_3 => ?_)
        refine TL.op (yq (y_move (ev_t rfl))) rfl rfl rfl ?_
        refine TL.op (yq (y_extract (ev_t rfl) rfl)) rfl rfl rfl ?_
        refine TL.op (yq (y_extract (ev_t rfl) rfl)) rfl rfl rfl ?_
        refine TL.op (yq (y_assign (ev_t rfl))) rfl rfl rfl ?_
        refine TL.op (yq (y_assign (ev_t rfl))) rfl rfl rfl ?_
        refine TL.nil ?_
        refine TN.seq ?_
        refine TC.seq ?_
        refine TC.seq ?_
        refine TC.region ?_
        refine TL.op (yq (y_move (ev_t rfl))) rfl rfl rfl ?_
        refine TL.op (yq (y_move (ev_t rfl))) rfl rfl rfl ?_
        refine TL.op (y_call (vs := [r13_3, r9_6]) (v := (.bool (F_laws_eqIntS ((F_spec_ChainsOf (F_laws_toMetric m) (F_laws_toIntS a) (F_laws_toIntS reqs)).1) ((F_spec_ChainsOf (F_laws_toMetric m) (F_laws_toIntS a) (F_laws_toIntS reqs)).1)))) en_12 ⟨(ev_t rfl), (ev_t rfl), trivial⟩ (fun w hw => laws_eqIntS_ok w r13_3 ((F_spec_ChainsOf (F_laws_toMetric m) (F_laws_toIntS a) (F_laws_toIntS reqs)).1) ((ri_row 0 rfl) w hw) r9_6 ((F_spec_ChainsOf (F_laws_toMetric m) (F_laws_toIntS a) (F_laws_toIntS reqs)).1) ((ri_row 5 rfl) w hw))) rfl rfl rfl ?_
        refine TL.op (yq (y_not (ev_t rfl))) rfl rfl rfl ?_
        refine TL.op (yq (y_move (ev_t rfl))) rfl rfl rfl ?_
        refine TL.opw (w_f rfl rfl rfl) (fun hg => yq (y_move (ev_t rfl))) rfl rfl ?_
        refine TL.opw (w_f rfl rfl rfl) (fun hg => yq (y_move (ev_t rfl))) rfl rfl ?_
        refine TL.opw (w_f rfl rfl rfl) (fun hg => yq (y_bneq (ev_g rfl hg) (ev_g rfl hg) Try.underlying4)) rfl rfl ?_
        refine TL.op (yq (y_or (ev_t rfl) (fun hq => (ev_g rfl hq)))) rfl rfl rfl ?_
        refine TL.nil ?_
        refine TN.seq ?_
        refine TC.cond (b := ((!(F_laws_eqIntS ((F_spec_ChainsOf (F_laws_toMetric m) (F_laws_toIntS a) (F_laws_toIntS reqs)).1) ((F_spec_ChainsOf (F_laws_toMetric m) (F_laws_toIntS a) (F_laws_toIntS reqs)).1))) || (((F_spec_ChainsOf (F_laws_toMetric m) (F_laws_toIntS a) (F_laws_toIntS reqs)).2) != ((F_spec_ChainsOf (F_laws_toMetric m) (F_laws_toIntS a) (F_laws_toIntS reqs)).2)))) (ev_t rfl) (fun h33 => ?_) (fun h33 => ?_)
        · rw [bif_pos h33] at hF
          have q34 := ((or_t h33).imp (fun h => (not_t h)) (fun h => h))
          refine TC.seq ?_
          refine TC.region ?_
          refine TL.op (yq (y_assign ev_c)) rfl rfl rfl ?_
          refine TL.nil ?_
          refine TN.seq ?_
          refine TC.ret ?_
          refine TN.thenR ?_
          subst hF
          exact TN.ret1 rfl (ev_t rfl) (fun w' hw => ⟨rfl, Hp.sublist hw (List.nil_sublist _)⟩)
        · rw [bif_neg h33] at hF
          have q34 := (and_imp (or_f h33) (fun h => (not_f h)) (fun h => h))
          refine TC.skip ?_
          refine TN.seq ?_
          refine TC.seq ?_
          refine TC.seq ?_
          refine TC.regionH 5 (Hp w [rowI 3 r13_3 ((F_spec_ChainsOf (F_laws_toMetric m) (F_laws_toIntS a) (F_laws_toIntS reqs)).1), rowI 3 r12_1 (F_laws_toIntS reqs), rowI 3 r11_1 (F_laws_toIntS a), .blk g10_2 29 [r10_1.1], tabI 25 3 r10_1.1 r10_1.2 (F_laws_toMetric m), rowI 3 r9_6 ((F_spec_ChainsOf (F_laws_toMetric m) (F_laws_toIntS a) (F_laws_toIntS reqs)).1), rowI 3 r9_5 (F_laws_toIntS reqs), rowI 3 r9_3 (F_laws_toIntS a), tabI 25 3 r9_1.1 r9_1.2 (F_laws_toMetric m), .blk g0_0 24 [vm]]) rfl (by kernel_rfl) dr_hp (fun w hw => hw) ?_
          refine TH.take 0 rfl (by kernel_rfl) (y_ldagg (cs := [r10_1.1]) 3 (ev_t rfl) agg_29 rfl) rfl rfl rfl ?_
          refine TH.take 1 rfl (by kernel_rfl) (y_ldagg (cs := [vm]) 9 (ev_t rfl) agg_24 rfl) rfl rfl rfl ?_
          refine TH.loud 2 rfl (by kernel_rfl) ?_
          refine TL.callr (ι := Value × List Value) (vs := [(.agg #[vm])]) (fun i => (.agg #[i.1])) (fun i => [tabI 25 3 i.1 i.2 (F_laws_toMetric m)]) en_8 ⟨(ev_t rfl), trivial⟩ rfl (fun w hw => laws_toMetric_ok w vm um m ((rii_arg hm) w hw) (by first | assumption | omega | grind) (by first | assumption | omega | grind)) (fun r16_2 => ?_)
          refine TL.nil ?_
          refine TH.back (fun w hw => Hp.sublist hw (.cons _ (.cons_cons _ (.cons_cons _ (.cons_cons _ (.cons_cons _ (.cons_cons _ (.cons_cons _ (.cons_cons _ (.cons_cons _ (.cons_cons _ (.cons_cons _ .slnil)))))))))))) ?_
          refine TH.loud 3 rfl (by kernel_rfl) ?_
          refine TL.op (y_call (vs := [(.agg #[r10_1.1]), (.agg #[r16_2.1])]) (v := (.bool (F_laws_eqMetric (F_laws_toMetric m) (F_laws_toMetric m)))) en_11 ⟨(ev_t rfl), (ev_t rfl), trivial⟩ (fun w hw => laws_eqMetric_ok w r10_1.1 r10_1.2 (F_laws_toMetric m) ((rii_tab 5 rfl) w hw) r16_2.1 r16_2.2 (F_laws_toMetric m) ((rii_tab 0 rfl) w hw))) rfl rfl rfl ?_
          refine TL.nil ?_
          refine TH.back (fun w hw => Hp.sublist hw (.cons _ (.cons_cons _ (.cons_cons _ (.cons_cons _ (.cons_cons _ (.cons_cons _ (.cons_cons _ (.cons_cons _ (.cons_cons _ (.cons_cons _ (.cons_cons _ .slnil)))))))))))) ?_
          refine TH.take 4 rfl (by kernel_rfl) (y_not (ev_t rfl)) rfl rfl rfl ?_
          refine TH.done (by kernel_rfl) ?_
          refine TN.seq ?_
          refine TC.cond (b := !(F_laws_eqMetric (F_laws_toMetric m) (F_laws_toMetric m))) (ev_t rfl) (fun h35 => ?_) (fun h35 => ?_)
          · rw [bif_pos h35] at hF
            have q36 := (not_t h35)
            refine TC.seq ?_
            refine TC.region ?_
            refine TL.op (yq (y_assign ev_c)) rfl rfl rfl ?_
            refine TL.nil ?_
            refine TN.seq ?_
            refine TC.ret ?_
            refine TN.thenR ?_
            subst hF
            exact TN.ret1 rfl (ev_t rfl) (fun w' hw => ⟨rfl, Hp.sublist hw (List.nil_sublist _)⟩)
          · rw [bif_neg h35] at hF
            have q36 := (not_f h35)
            refine TC.skip ?_
            refine TN.seq ?_
            refine TC.seq ?_
            refine TC.seq ?_
            refine TC.region ?_
            refine TL.op (yq (y_move (ev_t rfl))) rfl rfl rfl ?_
            refine TL.op (yq (y_move (ev_t rfl))) rfl rfl rfl ?_
            refine TL.callr (ι := Value) (vs := [va]) (fun i => i) (fun i => [rowI 3 i (F_laws_toIntS a)]) en_9 ⟨(ev_t rfl), trivial⟩ rfl (fun w hw => laws_toIntS_ok w va a ((ri_arg ha) w hw) (by first | assumption | omega | grind)) (fun r18_2 => ?_)
            refine TL.op (y_call (vs := [r11_1, r18_2]) (v := (.bool (F_laws_eqIntS (F_laws_toIntS a) (F_laws_toIntS a)))) en_12 ⟨(ev_t rfl), (ev_t rfl), trivial⟩ (fun w hw => laws_eqIntS_ok w r11_1 (F_laws_toIntS a) ((ri_row 4 rfl) w hw) r18_2 (F_laws_toIntS a) ((ri_row 0 rfl) w hw))) rfl rfl rfl ?_
            refine TL.op (yq (y_not (ev_t rfl))) rfl rfl rfl ?_
            refine TL.nil ?_
            refine TN.seq ?_
            refine TC.cond (b := !(F_laws_eqIntS (F_laws_toIntS a) (F_laws_toIntS a))) (ev_t rfl) (fun h37 => ?_) (fun h37 => ?_)
            · rw [bif_pos h37] at hF
              have q38 := (not_t h37)
              refine TC.seq ?_
              refine TC.region ?_
              refine TL.op (yq (y_assign ev_c)) rfl rfl rfl ?_
              refine TL.nil ?_
              refine TN.seq ?_
              refine TC.ret ?_
              refine TN.thenR ?_
              subst hF
              exact TN.ret1 rfl (ev_t rfl) (fun w' hw => ⟨rfl, Hp.sublist hw (List.nil_sublist _)⟩)
            · rw [bif_neg h37] at hF
              have q38 := (not_f h37)
              refine TC.skip ?_
              refine TN.seq ?_
              refine TC.seq ?_
              refine TC.seq ?_
              refine TC.region ?_
              refine TL.op (yq (y_move (ev_t rfl))) rfl rfl rfl ?_
              refine TL.op (yq (y_move (ev_t rfl))) rfl rfl rfl ?_
              refine TL.callr (ι := Value) (vs := [vreqs]) (fun i => i) (fun i => [rowI 3 i (F_laws_toIntS reqs)]) en_9 ⟨(ev_t rfl), trivial⟩ rfl (fun w hw => laws_toIntS_ok w vreqs reqs ((ri_arg hreqs) w hw) (by first | assumption | omega | grind)) (fun r20_2 => ?_)
              refine TL.op (y_call (vs := [r12_1, r20_2]) (v := (.bool (F_laws_eqIntS (F_laws_toIntS reqs) (F_laws_toIntS reqs)))) en_12 ⟨(ev_t rfl), (ev_t rfl), trivial⟩ (fun w hw => laws_eqIntS_ok w r12_1 (F_laws_toIntS reqs) ((ri_row 4 rfl) w hw) r20_2 (F_laws_toIntS reqs) ((ri_row 0 rfl) w hw))) rfl rfl rfl ?_
              refine TL.op (yq (y_not (ev_t rfl))) rfl rfl rfl ?_
              refine TL.nil ?_
              refine TN.seq ?_
              refine TC.cond (b := !(F_laws_eqIntS (F_laws_toIntS reqs) (F_laws_toIntS reqs))) (ev_t rfl) (fun h39 => ?_) (fun h39 => ?_)
              · rw [bif_pos h39] at hF
                have q40 := (not_t h39)
                refine TC.seq ?_
                refine TC.region ?_
                refine TL.op (yq (y_assign ev_c)) rfl rfl rfl ?_
                refine TL.nil ?_
                refine TN.seq ?_
                refine TC.ret ?_
                refine TN.thenR ?_
                subst hF
                exact TN.ret1 rfl (ev_t rfl) (fun w' hw => ⟨rfl, Hp.sublist hw (List.nil_sublist _)⟩)
              · rw [bif_neg h39] at hF
                have q40 := (not_f h39)
                refine TC.skip ?_
                refine TN.seq ?_
                refine TC.seq ?_
                refine TC.region ?_
                refine TL.op (yq (y_assign ev_c)) rfl rfl rfl ?_
                refine TL.nil ?_
                refine TN.seq ?_
                refine TC.seq ?_
                refine TC.region ?_
                refine TL.op (yq (y_ldagg (cs := [r10_1.1]) 6 (ev_t rfl) agg_29 rfl)) rfl rfl rfl ?_
                refine TL.op (yq (y_move (ev_t rfl))) rfl rfl rfl ?_
                refine TL.callm (ι := Unit) 7 (vs := [(.agg #[r10_1.1]), (.int .i64 1)]) (fun _ => (.int .i64 ((F_laws_markMetric (F_laws_toMetric m) 1).1))) (fun _ => tabI 25 3 r10_1.1 r10_1.2 ((F_laws_markMetric (F_laws_toMetric m) 1).2)) en_15 ⟨(ev_t rfl), (ev_t rfl), trivial⟩ rfl rfl (fun w1 fr1 hw => laws_markMetric_ok w w1 _ r10_1.1 r10_1.2 (F_laws_toMetric m) hw 1 (by first | assumption | omega | grind) (by first | assumption | omega | grind)) (fun _ => ?_)
                refine TL.op (yq (y_assign (ev_t rfl))) rfl rfl rfl ?_
                refine TL.nil ?_
                refine TN.seq ?_
                refine TC.seq ?_
                refine TC.region ?_
                refine TL.op (yq (y_move (ev_t rfl))) rfl rfl rfl ?_
                refine TL.op (yq (y_move (ev_t rfl))) rfl rfl rfl ?_
                refine TL.callm (ι := Unit) 5 (vs := [r11_1, (.int .i64 ((F_laws_markMetric (F_laws_toMetric m) 1).1))]) (fun _ => (.int .i64 ((F_laws_markIntS (F_laws_toIntS a) ((F_laws_markMetric (F_laws_toMetric m) 1).1)).1))) (fun _ => rowI 3 r11_1 ((F_laws_markIntS (F_laws_toIntS a) ((F_laws_markMetric (F_laws_toMetric m) 1).1)).2)) en_16 ⟨(ev_t rfl), (ev_t rfl), trivial⟩ rfl rfl (fun w1 fr1 hw => laws_markIntS_ok w w1 _ r11_1 (F_laws_toIntS a) hw ((F_laws_markMetric (F_laws_toMetric m) 1).1) (by first | assumption | omega | grind) (by first | assumption | omega | grind)) (fun _ => ?_)
                refine TL.op (yq (y_assign (ev_t rfl))) rfl rfl rfl ?_
                refine TL.nil ?_
                refine TN.seq ?_
                refine TC.seq ?_
                refine TC.region ?_
                refine TL.op (yq (y_move (ev_t rfl))) rfl rfl rfl ?_
                refine TL.op (yq (y_move (ev_t rfl))) rfl rfl rfl ?_
                refine TL.callm (ι := Unit) 4 (vs := [r12_1, (.int .i64 ((F_laws_markIntS (F_laws_toIntS a) ((F_laws_markMetric (F_laws_toMetric m) 1).1)).1))]) (fun _ => (.int .i64 ((F_laws_markIntS (F_laws_toIntS reqs) ((F_laws_markIntS (F_laws_toIntS a) ((F_laws_markMetric (F_laws_toMetric m) 1).1)).1)).1))) (fun _ => rowI 3 r12_1 ((F_laws_markIntS (F_laws_toIntS reqs) ((F_laws_markIntS (F_laws_toIntS a) ((F_laws_markMetric (F_laws_toMetric m) 1).1)).1)).2)) en_16 ⟨(ev_t rfl), (ev_t rfl), trivial⟩ rfl rfl (fun w1 fr1 hw => laws_markIntS_ok w w1 _ r12_1 (F_laws_toIntS reqs) hw ((F_laws_markIntS (F_laws_toIntS a) ((F_laws_markMetric (F_laws_toMetric m) 1).1)).1) (by first | assumption | omega | grind) (by first | assumption | omega | grind)) (fun _ => ?_)
                refine TL.op (yq (y_assign (ev_t rfl))) rfl rfl rfl ?_
                refine TL.nil ?_
                refine TN.seq ?_
                refine TC.seq ?_
                refine TC.seq ?_
                refine TC.region ?_
                refine TL.op (yq (y_move (ev_t rfl))) rfl rfl rfl ?_
                refine TL.op (yq (y_lss (ev_t rfl) ev_c)) rfl rfl rfl ?_
                refine TL.op (yq (y_move (ev_t rfl))) rfl rfl rfl ?_
                refine TL.opw (w_f rfl rfl rfl) (fun hg => yq (y_move (ev_t rfl))) rfl rfl ?_
                refine TL.opw (w_f rfl rfl rfl) (fun hg => yq (y_move (ev_t rfl))) rfl rfl ?_
                refine TL.opw (w_f rfl rfl rfl) (fun hg => y_call (vs := [r13_3, r9_6]) (v := (.bool (F_laws_eqIntS ((F_spec_ChainsOf (F_laws_toMetric m) (F_laws_toIntS a) (F_laws_toIntS reqs)).1) ((F_spec_ChainsOf (F_laws_toMetric m) (F_laws_toIntS a) (F_laws_toIntS reqs)).1)))) en_12 ⟨(ev_g rfl hg), (ev_g rfl hg), trivial⟩ (fun w hw => laws_eqIntS_ok w r13_3 ((F_spec_ChainsOf (F_laws_toMetric m) (F_laws_toIntS a) (F_laws_toIntS reqs)).1) ((ri_row 3 rfl) w hw) r9_6 ((F_spec_ChainsOf (F_laws_toMetric m) (F_laws_toIntS a) (F_laws_toIntS reqs)).1) ((ri_row 8 rfl) w hw))) rfl rfl ?_
                refine TL.opw (w_f rfl rfl rfl) (fun hg => yq (y_not (ev_g rfl hg))) rfl rfl ?_
                refine TL.op (yq (y_or (ev_t rfl) (fun hq => (ev_g rfl hq)))) rfl rfl rfl ?_
                refine TL.op (yq (y_move (ev_t rfl))) rfl rfl rfl ?_
                refine TL.opw (w_f rfl rfl rfl) (fun hg => yq (y_move (ev_t rfl))) rfl rfl ?_
                refine TL.opw (w_f rfl rfl rfl) (fun hg => yq (y_move (ev_t rfl))) rfl rfl ?_
                refine TL.opw (w_f rfl rfl rfl) (fun hg => yq (y_bneq (ev_g rfl hg) (ev_g rfl hg) Try.underlying4)) rfl rfl ?_
                refine TL.op (yq (y_or (ev_t rfl) (fun hq => (ev_g rfl hq)))) rfl rfl rfl ?_
                refine TL.nil ?_
                refine TN.seq ?_
                refine TC.cond (b := (((decide ((F_laws_markIntS (F_laws_toIntS reqs) ((F_laws_markIntS (F_laws_toIntS a) ((F_laws_markMetric (F_laws_toMetric m) 1).1)).1)).1 < 0)) || (!(F_laws_eqIntS ((F_spec_ChainsOf (F_laws_toMetric m) (F_laws_toIntS a) (F_laws_toIntS reqs)).1) ((F_spec_ChainsOf (F_laws_toMetric m) (F_laws_toIntS a) (F_laws_toIntS reqs)).1)))) || (((F_spec_ChainsOf (F_laws_toMetric m) (F_laws_toIntS a) (F_laws_toIntS reqs)).2) != ((F_spec_ChainsOf (F_laws_toMetric m) (F_laws_toIntS a) (F_laws_toIntS reqs)).2)))) (ev_t rfl) (fun h41 => ?_) (fun h41 => ?_)
                · rw [bif_pos h41] at hF
                  have q42 := ((or_t h41).imp (fun h => ((or_t h).imp (fun h => (of_decide_eq_true h)) (fun h => (not_t h)))) (fun h => h))
                  refine TC.seq ?_
                  refine TC.region ?_
                  refine TL.op (yq (y_assign ev_c)) rfl rfl rfl ?_
                  refine TL.nil ?_
                  refine TN.seq ?_
                  refine TC.ret ?_
                  refine TN.thenR ?_
                  subst hF
                  exact TN.ret1 rfl (ev_t rfl) (fun w' hw => ⟨rfl, Hp.sublist hw (List.nil_sublist _)⟩)
                · rw [bif_neg h41] at hF
                  have q42 := (and_imp (or_f h41) (fun h => (and_imp (or_f h) (fun h => (of_decide_eq_false h)) (fun h => (not_f h)))) (fun h => h))
                  refine TC.skip ?_
                  refine TN.seq ?_
                  refine TC.seq ?_
                  refine TC.region ?_
                  refine TL.op (yq (y_assign ev_c)) rfl rfl rfl ?_
                  refine TL.nil ?_
                  refine TN.seq ?_
                  refine TC.seq ?_
                  refine TC.region ?_
                  refine TL.op (yq (y_move (ev_t rfl))) rfl rfl rfl ?_
                  refine TL.op (yq (y_move (ev_t rfl))) rfl rfl rfl ?_
                  refine TL.callm (ι := Unit) 3 (vs := [r13_3, (.int .i64 1)]) (fun _ => (.int .i64 ((F_laws_markIntS ((F_spec_ChainsOf (F_laws_toMetric m) (F_laws_toIntS a) (F_laws_toIntS reqs)).1) 1).1))) (fun _ => rowI 3 r13_3 ((F_laws_markIntS ((F_spec_ChainsOf (F_laws_toMetric m) (F_laws_toIntS a) (F_laws_toIntS reqs)).1) 1).2)) en_16 ⟨(ev_t rfl), (ev_t rfl), trivial⟩ rfl rfl (fun w1 fr1 hw => laws_markIntS_ok w w1 _ r13_3 ((F_spec_ChainsOf (F_laws_toMetric m) (F_laws_toIntS a) (F_laws_toIntS reqs)).1) hw 1 (by first | assumption | omega | grind) (by first | assumption | omega | grind)) (fun _ => ?_)
                  refine TL.op (yq (y_assign (ev_t rfl))) rfl rfl rfl ?_
                  refine TL.nil ?_
                  refine TN.seq ?_
                  refine TC.seq ?_
                  refine TC.region ?_
                  refine TL.op (yq (y_assign ev_c)) rfl rfl rfl ?_
                  refine TL.nil ?_
                  refine TN.seq ?_
                  refine TC.seq ?_
                  refine TC.region ?_
                  refine TL.op (yq (y_move (ev_t rfl))) rfl rfl rfl ?_
                  refine TL.op (yq (y_move (ev_t rfl))) rfl rfl rfl ?_
                  refine TL.op (y_call (vs := [r13_3, (.int .i64 1)]) (v := (.int .i64 (F_laws_heldIntS ((F_laws_markIntS ((F_spec_ChainsOf (F_laws_toMetric m) (F_laws_toIntS a) (F_laws_toIntS reqs)).1) 1).2) 1))) en_17 ⟨(ev_t rfl), (ev_t rfl), trivial⟩ (fun w hw => laws_heldIntS_ok w r13_3 ((F_laws_markIntS ((F_spec_ChainsOf (F_laws_toMetric m) (F_laws_toIntS a) (F_laws_toIntS reqs)).1) 1).2) ((ri_row 3 rfl) w hw) 1 (by first | assumption | omega | grind) (by first | assumption | omega | grind))) rfl rfl rfl ?_
                  refine TL.op (yq (y_assign (ev_t rfl))) rfl rfl rfl ?_
                  refine TL.nil ?_
                  refine TN.seq ?_
                  refine TC.seq ?_
                  refine TC.seq ?_
                  refine TC.region ?_
                  refine TL.op (yq (y_move (ev_t rfl))) rfl rfl rfl ?_
                  refine TL.op (yq (y_lss (ev_t rfl) ev_c)) rfl rfl rfl ?_
                  refine TL.nil ?_
                  refine TN.seq ?_
                  refine TC.cond (b := decide ((F_laws_heldIntS ((F_laws_markIntS ((F_spec_ChainsOf (F_laws_toMetric m) (F_laws_toIntS a) (F_laws_toIntS reqs)).1) 1).2) 1) < 0)) (ev_t rfl) (fun h43 => ?_) (fun h43 => ?_)
                  · rw [bif_pos h43] at hF
                    have q44 := (of_decide_eq_true h43)
                    refine TC.seq ?_
                    refine TC.region ?_
                    refine TL.op (yq (y_assign ev_c)) rfl rfl rfl ?_
                    refine TL.nil ?_
                    refine TN.seq ?_
                    refine TC.ret ?_
                    refine TN.thenR ?_
                    subst hF
                    exact TN.ret1 rfl (ev_t rfl) (fun w' hw => ⟨rfl, Hp.sublist hw (List.nil_sublist _)⟩)
                  · rw [bif_neg h43] at hF
                    have q44 := (of_decide_eq_false h43)
                    refine TC.skip ?_
                    refine TN.seq ?_
                    refine TC.seq ?_
                    refine TC.seq ?_
                    refine TC.region ?_
                    refine TL.op (yq (y_move (ev_t rfl))) rfl rfl rfl ?_
                    refine TL.op (yq (y_move (ev_t rfl))) rfl rfl rfl ?_
                    refine TL.op (yq (y_neq (ev_t rfl) (ev_t rfl))) rfl rfl rfl ?_
                    refine TL.nil ?_
                    refine TN.seq ?_
                    refine TC.cond (b := !decide ((F_laws_heldIntS ((F_laws_markIntS ((F_spec_ChainsOf (F_laws_toMetric m) (F_laws_toIntS a) (F_laws_toIntS reqs)).1) 1).2) 1) = (F_laws_markIntS ((F_spec_ChainsOf (F_laws_toMetric m) (F_laws_toIntS a) (F_laws_toIntS reqs)).1) 1).1)) (ev_t rfl) (fun h45 => ?_) (fun h45 => ?_)
                    · rw [bif_pos h45] at hF
                      have q46 := (of_decide_eq_false (not_t h45))
                      refine TC.seq ?_
                      refine TC.region ?_
                      refine TL.op (yq (y_assign ev_c)) rfl rfl rfl ?_
                      refine TL.nil ?_
                      refine TN.seq ?_
                      refine TC.ret ?_
                      refine TN.thenR ?_
                      subst hF
                      exact TN.ret1 rfl (ev_t rfl) (fun w' hw => ⟨rfl, Hp.sublist hw (List.nil_sublist _)⟩)
                    · rw [bif_neg h45] at hF
                      have q46 := (of_decide_eq_true (not_f h45))
                      refine TC.skip ?_
                      refine TN.seq ?_
                      refine TC.seq ?_
                      refine TC.region ?_
                      refine TL.op (yq (y_ldagg (cs := [vm]) 12 (ev_t rfl) agg_24 rfl)) rfl rfl rfl ?_
                      refine TL.callr (ι := Value × List Value) (vs := [(.agg #[vm])]) (fun i => (.agg #[i.1])) (fun i => [tabI 25 3 i.1 i.2 (F_laws_toMetric m)]) en_8 ⟨(ev_t rfl), trivial⟩ rfl (fun w hw => laws_toMetric_ok w vm um m ((rii_arg hm) w hw) (by first | assumption | omega | grind) (by first | assumption | omega | grind)) (fun r36_1 => ?_)
                      refine TL.op (yq (y_move (ev_t rfl))) rfl rfl rfl ?_
                      refine TL.callr (ι := Value) (vs := [va]) (fun i => i) (fun i => [rowI 3 i (F_laws_toIntS a)]) en_9 ⟨(ev_t rfl), trivial⟩ rfl (fun w hw => laws_toIntS_ok w va a ((ri_arg ha) w hw) (by first | assumption | omega | grind)) (fun r36_3 => ?_)
                      refine TL.op (yq (y_move (ev_t rfl))) rfl rfl rfl ?_
                      refine TL.callr (ι := Value) (vs := [vreqs]) (fun i => i) (fun i => [rowI 3 i (F_laws_toIntS reqs)]) en_9 ⟨(ev_t rfl), trivial⟩ rfl (fun w hw => laws_toIntS_ok w vreqs reqs ((ri_arg hreqs) w hw) (by first | assumption | omega | grind)) (fun r36_5 => ?_)
                      refine TL.callr (ι := Value) (vs := [(.agg #[r36_1.1]), r36_3, r36_5]) (fun i => (.tuple #[i, (.bool ((F_spec_ChainsOf (F_laws_toMetric m) (F_laws_toIntS a) (F_laws_toIntS reqs)).2))])) (fun i => [rowI 3 i ((F_spec_ChainsOf (F_laws_toMetric m) (F_laws_toIntS a) (F_laws_toIntS reqs)).1)]) en_19 ⟨(ev_t rfl), (ev_t rfl), (ev_t rfl), trivial⟩ rfl (fun w hw => impl_ChainsOf_ok w r36_1.1 r36_1.2 (F_laws_toMetric m) ((rii_tab 2 rfl) w hw) r36_3 (F_laws_toIntS a) ((ri_row 1 rfl) w hw) r36_5 (F_laws_toIntS reqs) ((ri_row 0 rfl) w hw)) (fun r36_6 => ?_)
                      refine TL.op (yq (y_move (ev_t rfl))) rfl rfl rfl ?_
                      refine TL.op (yq (y_extract (ev_t rfl) rfl)) rfl rfl rfl ?_
                      refine TL.op (yq (y_extract (ev_t rfl) rfl)) rfl rfl rfl ?_
                      refine TL.op (yq (y_assign (ev_t rfl))) rfl rfl rfl ?_
                      refine TL.op (yq (y_assign (ev_t rfl))) rfl rfl rfl ?_
                      refine TL.nil ?_
                      refine TN.seq ?_
                      refine TC.seq ?_
                      refine TC.seq ?_
                      refine TC.region ?_
                      refine TL.op (yq (y_move (ev_t rfl))) rfl rfl rfl ?_
                      refine TL.op (yq (y_move (ev_t rfl))) rfl rfl rfl ?_
                      refine TL.op (y_call (vs := [r36_6, r9_6]) (v := (.bool (F_laws_eqIntS ((F_spec_ChainsOf (F_laws_toMetric m) (F_laws_toIntS a) (F_laws_toIntS reqs)).1) ((F_spec_ChainsOf (F_laws_toMetric m) (F_laws_toIntS a) (F_laws_toIntS reqs)).1)))) en_12 ⟨(ev_t rfl), (ev_t rfl), trivial⟩ (fun w hw => laws_eqIntS_ok w r36_6 ((F_spec_ChainsOf (F_laws_toMetric m) (F_laws_toIntS a) (F_laws_toIntS reqs)).1) ((ri_row 0 rfl) w hw) r9_6 ((F_spec_ChainsOf (F_laws_toMetric m) (F_laws_toIntS a) (F_laws_toIntS reqs)).1) ((ri_row 12 rfl) w hw))) rfl rfl rfl ?_
                      refine TL.op (yq (y_not (ev_t rfl))) rfl rfl rfl ?_
                      refine TL.op (yq (y_move (ev_t rfl))) rfl rfl rfl ?_
                      refine TL.opw (w_f rfl rfl rfl) (fun hg => yq (y_move (ev_t rfl))) rfl rfl ?_
                      refine TL.opw (w_f rfl rfl rfl) (fun hg => yq (y_move (ev_t rfl))) rfl rfl ?_
                      refine TL.opw (w_f rfl rfl rfl) (fun hg => yq (y_bneq (ev_g rfl hg) (ev_g rfl hg) Try.underlying4)) rfl rfl ?_
                      refine TL.op (yq (y_or (ev_t rfl) (fun hq => (ev_g rfl hq)))) rfl rfl rfl ?_
                      refine TL.nil ?_
                      refine TN.seq ?_
                      refine TC.condF (ev_t rfl) h33 ?_
                      refine TC.skip ?_
                      refine TN.seq ?_
                      refine TC.seq ?_
                      refine TC.region ?_
                      refine TL.op (yq (y_assign ev_c)) rfl rfl rfl ?_
                      refine TL.nil ?_
                      refine TN.seq ?_
                      refine TC.seq ?_
                      refine TC.region ?_
                      refine TL.op (yq (y_move (ev_t rfl))) rfl rfl rfl ?_
                      refine TL.op (yq (y_move (ev_t rfl))) rfl rfl rfl ?_
                      refine TL.op (y_call (vs := [r13_3, (.int .i64 1)]) (v := (.int .i64 (F_laws_heldIntS ((F_laws_markIntS ((F_spec_ChainsOf (F_laws_toMetric m) (F_laws_toIntS a) (F_laws_toIntS reqs)).1) 1).2) 1))) en_17 ⟨(ev_t rfl), (ev_t rfl), trivial⟩ (fun w hw => laws_heldIntS_ok w r13_3 ((F_laws_markIntS ((F_spec_ChainsOf (F_laws_toMetric m) (F_laws_toIntS a) (F_laws_toIntS reqs)).1) 1).2) ((ri_row 7 rfl) w hw) 1 (by first | assumption | omega | grind) (by first | assumption | omega | grind))) rfl rfl rfl ?_
                      refine TL.op (yq (y_assign (ev_t rfl))) rfl rfl rfl ?_
                      refine TL.nil ?_
                      refine TN.seq ?_
                      refine TC.seq ?_
                      refine TC.seq ?_
                      refine TC.region ?_
                      refine TL.op (yq (y_move (ev_t rfl))) rfl rfl rfl ?_
                      refine TL.op (yq (y_lss (ev_t rfl) ev_c)) rfl rfl rfl ?_
                      refine TL.nil ?_
                      refine TN.seq ?_
                      refine TC.condF (ev_t rfl) h43 ?_
                      refine TC.skip ?_
                      refine TN.seq ?_
                      refine TC.seq ?_
                      refine TC.seq ?_
                      refine TC.region ?_
                      refine TL.op (yq (y_move (ev_t rfl))) rfl rfl rfl ?_
                      refine TL.op (yq (y_move (ev_t rfl))) rfl rfl rfl ?_
                      refine TL.op (yq (y_neq (ev_t rfl) (ev_t rfl))) rfl rfl rfl ?_
                      refine TL.nil ?_
                      refine TN.seq ?_
                      refine TC.condF (ev_t rfl) h45 ?_
                      refine TC.skip ?_
                      refine TN.seq ?_
                      refine TC.seq ?_
                      refine TC.region ?_
                      refine TL.op (yq (y_assign ev_c)) rfl rfl rfl ?_
                      refine TL.nil ?_
                      refine TN.seq ?_
                      refine TC.ret ?_
                      subst hF
                      exact TN.ret1 rfl (ev_t rfl) (fun w' hw => ⟨rfl, Hp.sublist hw (List.nil_sublist _)⟩)


end Go.Proofs.Ytgnikdpgndmldaa
