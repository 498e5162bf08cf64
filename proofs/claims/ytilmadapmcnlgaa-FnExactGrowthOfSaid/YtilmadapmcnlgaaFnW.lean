/-
  Walks of functions of the program: each computes its plain function. No condition but the bounds that are typed.
-/
import Derived.Test.YtilmadapmcnlgaaFnH
import Derived.Test.YtilmadapmcnlgaaStru
import Derived.Test.YtilmadapmcnlgaaDefW
import Derived.Test.YtilmadapmcnlgaaLawWork
namespace Go.Proofs.Ytilmadapmcnlgaa
open Go Go.RowKit

set_option maxRecDepth 4000 in
set_option maxHeartbeats 1000000 in
theorem cmp_Compare_int_ok (w : World) (x : Int) (y : Int)  :
    Calls Try.prog 127 ([(.int .i64 x), (.int .i64 y)] : List Value).toArray w (Ret (.int .i64 (F_cmp_Compare_int x y)) (Hp w [])) := by
  obtain ⟨rz, hF⟩ : ∃ rz, (F_cmp_Compare_int x y) = rz := ⟨_, rfl⟩
  rw [hF]
  unfold F_cmp_Compare_int at hF
  refine calls_tc Try.func127 rfl rfl rfl ?_
  change TC _ _ _ _ (Hp w []) [(0, (.int .i64 x)), (1, (.int .i64 y))]
  refine TC.seq ?_
  refine TC.region ?_
  refine TL.op (yq (y_assign ev_c)) rfl rfl rfl ?_
  refine TL.nil ?_
  refine TN.seq ?_
  refine TC.seq ?_
  refine TC.region ?_
  refine TL.op (yq (y_move (ev_t rfl))) rfl rfl rfl ?_
  refine TL.op (y_call (vs := [(.int .i64 x)]) (v := (.bool (!decide (x = x)))) en_140 ⟨(ev_t rfl), trivial⟩ (fun w hw => cmp_isNaN_int_ok w x)) rfl rfl rfl ?_
  refine TL.op (yq (y_assign (ev_t rfl))) rfl rfl rfl ?_
  refine TL.nil ?_
  refine TN.seq ?_
  refine TC.seq ?_
  refine TC.region ?_
  refine TL.op (yq (y_move (ev_t rfl))) rfl rfl rfl ?_
  refine TL.op (y_call (vs := [(.int .i64 y)]) (v := (.bool (!decide (y = y)))) en_140 ⟨(ev_t rfl), trivial⟩ (fun w hw => cmp_isNaN_int_ok w y)) rfl rfl rfl ?_
  refine TL.op (yq (y_assign (ev_t rfl))) rfl rfl rfl ?_
  refine TL.nil ?_
  refine TN.seq ?_
  refine TC.seq ?_
  refine TC.seq ?_
  refine TC.region ?_
  refine TL.op (yq (y_move (ev_t rfl))) rfl rfl rfl ?_
  refine TL.nil ?_
  refine TN.seq ?_
  refine TC.cond (b := !decide (x = x)) (ev_t rfl) (fun h11 => ?_) (fun h11 => ?_)
  · rw [bif_pos h11] at hF
    have q12 := (of_decide_eq_false (not_t h11))
    refine TC.seq ?_
    refine TC.seq ?_
    refine TC.region ?_
    refine TL.op (yq (y_move (ev_t rfl))) rfl rfl rfl ?_
    refine TL.nil ?_
    refine TN.seq ?_
    refine TC.cond (b := !decide (y = y)) (ev_t rfl) (fun h13 => ?_) (fun h13 => ?_)
    · rw [bif_pos h13] at hF
      have q14 := (of_decide_eq_false (not_t h13))
      refine TC.seq ?_
      refine TC.region ?_
      refine TL.op (yq (y_assign ev_c)) rfl rfl rfl ?_
      refine TL.nil ?_
      refine TN.seq ?_
      refine TC.ret ?_
      refine TN.thenR ?_
      refine TN.thenR ?_
      subst hF
      exact TN.ret1 rfl (ev_t rfl) (fun w' hw => ⟨rfl, hw⟩)
    · rw [bif_neg h13] at hF
      have q14 := (of_decide_eq_true (not_f h13))
      refine TC.skip ?_
      refine TN.seq ?_
      refine TC.seq ?_
      refine TC.region ?_
      refine TL.op (yq (y_assign ev_c)) rfl rfl rfl ?_
      refine TL.nil ?_
      refine TN.seq ?_
      refine TC.ret ?_
      refine TN.thenR ?_
      subst hF
      exact TN.ret1 rfl (ev_t rfl) (fun w' hw => ⟨rfl, hw⟩)
  · rw [bif_neg h11] at hF
    have q12 := (of_decide_eq_true (not_f h11))
    refine TC.skip ?_
    refine TN.seq ?_
    refine TC.seq ?_
    refine TC.seq ?_
    refine TC.region ?_
    refine TL.op (yq (y_move (ev_t rfl))) rfl rfl rfl ?_
    refine TL.nil ?_
    refine TN.seq ?_
    refine TC.cond (b := !decide (y = y)) (ev_t rfl) (fun h15 => ?_) (fun h15 => ?_)
    · rw [bif_pos h15] at hF
      have q16 := (of_decide_eq_false (not_t h15))
      refine TC.seq ?_
      refine TC.region ?_
      refine TL.op (yq (y_assign ev_c)) rfl rfl rfl ?_
      refine TL.nil ?_
      refine TN.seq ?_
      refine TC.ret ?_
      refine TN.thenR ?_
      subst hF
      exact TN.ret1 rfl (ev_t rfl) (fun w' hw => ⟨rfl, hw⟩)
    · rw [bif_neg h15] at hF
      have q16 := (of_decide_eq_true (not_f h15))
      refine TC.skip ?_
      refine TN.seq ?_
      refine TC.seq ?_
      refine TC.seq ?_
      refine TC.region ?_
      refine TL.op (yq (y_move (ev_t rfl))) rfl rfl rfl ?_
      refine TL.op (yq (y_move (ev_t rfl))) rfl rfl rfl ?_
      refine TL.op (yq (y_lss (ev_t rfl) (ev_t rfl))) rfl rfl rfl ?_
      refine TL.nil ?_
      refine TN.seq ?_
      refine TC.cond (b := decide (x < y)) (ev_t rfl) (fun h17 => ?_) (fun h17 => ?_)
      · rw [bif_pos h17] at hF
        have q18 := (of_decide_eq_true h17)
        refine TC.seq ?_
        refine TC.region ?_
        refine TL.op (yq (y_assign ev_c)) rfl rfl rfl ?_
        refine TL.nil ?_
        refine TN.seq ?_
        refine TC.ret ?_
        refine TN.thenR ?_
        subst hF
        exact TN.ret1 rfl (ev_t rfl) (fun w' hw => ⟨rfl, hw⟩)
      · rw [bif_neg h17] at hF
        have q18 := (of_decide_eq_false h17)
        refine TC.skip ?_
        refine TN.seq ?_
        refine TC.seq ?_
        refine TC.seq ?_
        refine TC.region ?_
        refine TL.op (yq (y_move (ev_t rfl))) rfl rfl rfl ?_
        refine TL.op (yq (y_move (ev_t rfl))) rfl rfl rfl ?_
        refine TL.op (yq (y_gtr (ev_t rfl) (ev_t rfl))) rfl rfl rfl ?_
        refine TL.nil ?_
        refine TN.seq ?_
        refine TC.cond (b := decide (y < x)) (ev_t rfl) (fun h19 => ?_) (fun h19 => ?_)
        · rw [bif_pos h19] at hF
          have q20 := (of_decide_eq_true h19)
          refine TC.seq ?_
          refine TC.region ?_
          refine TL.op (yq (y_assign ev_c)) rfl rfl rfl ?_
          refine TL.nil ?_
          refine TN.seq ?_
          refine TC.ret ?_
          refine TN.thenR ?_
          subst hF
          exact TN.ret1 rfl (ev_t rfl) (fun w' hw => ⟨rfl, hw⟩)
        · rw [bif_neg h19] at hF
          have q20 := (of_decide_eq_false h19)
          refine TC.skip ?_
          refine TN.seq ?_
          refine TC.seq ?_
          refine TC.region ?_
          refine TL.op (yq (y_assign ev_c)) rfl rfl rfl ?_
          refine TL.nil ?_
          refine TN.seq ?_
          refine TC.ret ?_
          subst hF
          exact TN.ret1 rfl (ev_t rfl) (fun w' hw => ⟨rfl, hw⟩)

set_option maxRecDepth 4000 in
set_option maxHeartbeats 1000000 in
theorem slices_Compare_Sint_int_ok (w : World) (vs1 : Value) (s1 : List Int) (hs1 : RI w vs1 s1) (vs2 : Value) (s2 : List Int) (hs2 : RI w vs2 s2)  :
    Calls Try.prog 109 ([vs1, vs2] : List Value).toArray w (Ret (.int .i64 (F_slices_Compare_Sint_int s1 s2)) (Hp w [])) := by
  obtain ⟨rz, hF⟩ : ∃ rz, (F_slices_Compare_Sint_int s1 s2) = rz := ⟨_, rfl⟩
  rw [hF]
  unfold F_slices_Compare_Sint_int at hF
  have hlen_s1 := arg_len hs1
  have hlen_s2 := arg_len hs2
  refine calls_tc Try.func109 rfl rfl rfl ?_
  change TC _ _ _ _ (Hp w []) [(0, vs1), (1, vs2)]
  refine TC.seq ?_
  refine TC.region ?_
  refine TL.op (yq (y_assign ev_c)) rfl rfl rfl ?_
  refine TL.nil ?_
  refine TN.seq ?_
  refine TC.seq ?_
  refine TC.seq ?_
  refine TC.region ?_
  refine TL.op (yq (y_move (ev_t rfl))) rfl rfl rfl ?_
  refine TL.op (yq (y_len (ev_t rfl) Try.underlying25 (fun w hw => ((ri_arg hs1) w hw).ln))) rfl rfl rfl ?_
  refine TL.op (yq (y_move ev_c)) rfl rfl rfl ?_
  refine TL.nil ?_
  refine TN.seq ?_
  refine TC.block ?_
  obtain ⟨c19, hc20⟩ : ∃ c, F_slices_Compare_Sint_int_L1 s1 s2 ((s1.length - 0) + 1) 0 = c := ⟨_, rfl⟩
  rw [hc20] at hF
  refine TC.loop (ι := Nat × Nat) (fun (fu1, k11_1) => [(0, vs1), (1, vs2), (9, vs1), (10, (.int .i64 (s1.length : Int))), (11, (.int .i64 (k11_1 : Int)))]) (fun (fu1, k11_1) => Hp w []) (fun (fu1, k11_1) => (k11_1 ≤ s1.length) ∧ s1.length - k11_1 < fu1 ∧ F_slices_Compare_Sint_int_L1 s1 s2 fu1 k11_1 = c19) (fun (fu1, k11_1) => fu1) ((s1.length - 0) + 1, 0) ⟨(by first | omega | (simp [-List.getD_eq_getElem?_getD] <;> omega)), (by omega), hc20⟩ ⟨rfl, rfl, rfl, rfl, rfl, trivial⟩ (fun w hw => hw) ?_
  rintro ⟨fu1, k11_1⟩ hJ1
  obtain ⟨hi1_0, hmu1, hL1⟩ : (k11_1 ≤ s1.length) ∧ s1.length - k11_1 < fu1 ∧ F_slices_Compare_Sint_int_L1 s1 s2 fu1 k11_1 = c19 := hJ1
  change TC _ _ _ _ (Hp w []) [(0, vs1), (1, vs2), (9, vs1), (10, (.int .i64 (s1.length : Int))), (11, (.int .i64 (k11_1 : Int)))]
  obtain ⟨mf1, rfl⟩ : ∃ m, fu1 = m + 1 := ⟨fu1 - 1, by omega⟩
  rw [F_slices_Compare_Sint_int_L1_s] at hL1
  refine TC.seq ?_
  refine TC.region ?_
  refine TL.op (yq (y_lss (ev_t rfl) (ev_t rfl))) rfl rfl rfl ?_
  refine TL.nil ?_
  refine TN.seq ?_
  refine TC.seq ?_
  refine TC.cond (b := decide ((k11_1 : Int) < (s1.length : Int))) (ev_t rfl) (fun h21 => ?_) (fun h21 => ?_)
  · rw [bif_pos h21] at hL1
    have q22 := (of_decide_eq_true h21)
    refine TC.skip ?_
    refine TN.seq ?_
    refine TC.seq ?_
    refine TC.block ?_
    refine TC.seq ?_
    refine TC.region ?_
    refine TL.op (yq (y_move (ev_t rfl))) rfl rfl rfl ?_
    have hb23 : k11_1 < s1.length := (by first | omega | (simp only [List.length_set, List.length_append, List.length_cons, List.length_nil, List.length_replicate]; omega) | (rw [sortI_length]; simp only [List.length_cons, List.length_nil]; omega))
    refine TL.op (yq (y_idx (k := k11_1) (ev_t rfl) (ev_t rfl) (by first | omega | simp) slT_25 (ri_arg hs1) hb23)) rfl rfl rfl ?_
    refine TL.op (yq (y_ldi (ev_t rfl) one_3 (ri_arg hs1) hb23)) rfl rfl rfl ?_
    refine TL.op (yq (y_assign (ev_t rfl))) rfl rfl rfl ?_
    refine TL.op (yq (y_assign (ev_t rfl))) rfl rfl rfl ?_
    refine TL.nil ?_
    refine TN.seq ?_
    refine TC.seq ?_
    refine TC.seq ?_
    refine TC.region ?_
    refine TL.op (yq (y_move (ev_t rfl))) rfl rfl rfl ?_
    refine TL.op (yq (y_move (ev_t rfl))) rfl rfl rfl ?_
    refine TL.op (yq (y_len (ev_t rfl) Try.underlying25 (fun w hw => ((ri_arg hs2) w hw).ln))) rfl rfl rfl ?_
    refine TL.op (yq (y_geq (ev_t rfl) (ev_t rfl))) rfl rfl rfl ?_
    refine TL.nil ?_
    refine TN.seq ?_
    refine TC.cond (b := decide ((s2.length : Int) ≤ (k11_1 : Int))) (ev_t rfl) (fun h24 => ?_) (fun h24 => ?_)
    · rw [bif_pos h24] at hL1
      have q25 := (of_decide_eq_true h24)
      refine TC.seq ?_
      refine TC.region ?_
      refine TL.op (yq (y_assign ev_c)) rfl rfl rfl ?_
      refine TL.nil ?_
      refine TN.seq ?_
      refine TC.ret ?_
      refine TN.thenR ?_
      refine TN.blockR ?_
      refine TN.thenR ?_
      refine TN.thenR ?_
      rw [← hL1, elim_ret] at hF
      refine TN.blockR ?_
      refine TN.thenR ?_
      subst hF
      exact TN.ret1 rfl (ev_t rfl) (fun w' hw => ⟨rfl, hw⟩)
    · rw [bif_neg h24] at hL1
      have q25 := (of_decide_eq_false h24)
      refine TC.skip ?_
      refine TN.seq ?_
      refine TC.seq ?_
      refine TC.region ?_
      refine TL.op (yq (y_move (ev_t rfl))) rfl rfl rfl ?_
      refine TL.op (yq (y_move (ev_t rfl))) rfl rfl rfl ?_
      have hb26 : k11_1 < s2.length := (by first | omega | (simp only [List.length_set, List.length_append, List.length_cons, List.length_nil, List.length_replicate]; omega) | (rw [sortI_length]; simp only [List.length_cons, List.length_nil]; omega))
      refine TL.op (yq (y_idx (k := k11_1) (ev_t rfl) (ev_t rfl) (by first | omega | simp) slT_25 (ri_arg hs2) hb26)) rfl rfl rfl ?_
      refine TL.op (yq (y_ldi (ev_t rfl) one_3 (ri_arg hs2) hb26)) rfl rfl rfl ?_
      refine TL.op (yq (y_assign (ev_t rfl))) rfl rfl rfl ?_
      refine TL.nil ?_
      refine TN.seq ?_
      refine TC.seq ?_
      refine TC.region ?_
      refine TL.op (yq (y_move (ev_t rfl))) rfl rfl rfl ?_
      refine TL.op (yq (y_move (ev_t rfl))) rfl rfl rfl ?_
      refine TL.op (y_call (vs := [(.int .i64 (s1.getD k11_1 0)), (.int .i64 (s2.getD k11_1 0))]) (v := (.int .i64 (F_cmp_Compare_int (s1.getD k11_1 0) (s2.getD k11_1 0)))) en_127 ⟨(ev_t rfl), (ev_t rfl), trivial⟩ (fun w hw => cmp_Compare_int_ok w (s1.getD k11_1 0) (s2.getD k11_1 0))) rfl rfl rfl ?_
      refine TL.op (yq (y_assign (ev_t rfl))) rfl rfl rfl ?_
      refine TL.nil ?_
      refine TN.seq ?_
      refine TC.seq ?_
      refine TC.region ?_
      refine TL.op (yq (y_move (ev_t rfl))) rfl rfl rfl ?_
      refine TL.op (yq (y_neq (ev_t rfl) ev_c)) rfl rfl rfl ?_
      refine TL.nil ?_
      refine TN.seq ?_
      refine TC.cond (b := !decide ((F_cmp_Compare_int (s1.getD k11_1 0) (s2.getD k11_1 0)) = 0)) (ev_t rfl) (fun h27 => ?_) (fun h27 => ?_)
      · rw [bif_pos h27] at hL1
        have q28 := (of_decide_eq_false (not_t h27))
        refine TC.seq ?_
        refine TC.region ?_
        refine TL.op (yq (y_move (ev_t rfl))) rfl rfl rfl ?_
        refine TL.op (yq (y_assign (ev_t rfl))) rfl rfl rfl ?_
        refine TL.nil ?_
        refine TN.seq ?_
        refine TC.ret ?_
        refine TN.blockR ?_
        refine TN.thenR ?_
        refine TN.thenR ?_
        rw [← hL1, elim_ret] at hF
        refine TN.blockR ?_
        refine TN.thenR ?_
        subst hF
        exact TN.ret1 rfl (ev_t rfl) (fun w' hw => ⟨rfl, hw⟩)
      · rw [bif_neg h27] at hL1
        have q28 := (of_decide_eq_true (not_f h27))
        refine TC.skip ?_
        refine TN.blockN ?_
        refine TN.seq ?_
        refine TC.region ?_
        refine TL.op (yq (y_add (ev_t rfl) ev_c (by unfold In64; omega))) rfl rfl rfl ?_
        refine TL.op (yq (y_move (ev_t rfl))) rfl rfl rfl ?_
        refine TL.nil ?_
        exact TN.hand (mf1, (k11_1 + 1)) ⟨(by first | omega | (simp [-List.getD_eq_getElem?_getD] <;> omega)), (by omega), hL1⟩ (Nat.lt_succ_self _) ⟨rfl, rfl, rfl, rfl, rfl, trivial⟩ (fun w hw => hw)
  · rw [bif_neg h21] at hL1
    have q22 := (of_decide_eq_false h21)
    refine TC.exit ?_
    refine TN.thenE ?_
    refine TN.thenE ?_
    rw [← hL1, elim_next] at hF
    try dsimp only at hF
    refine TN.blockH ?_
    refine TN.seq ?_
    refine TC.seq ?_
    refine TC.seq ?_
    refine TC.region ?_
    refine TL.op (yq (y_move (ev_t rfl))) rfl rfl rfl ?_
    refine TL.op (yq (y_len (ev_t rfl) Try.underlying25 (fun w hw => ((ri_arg hs1) w hw).ln))) rfl rfl rfl ?_
    refine TL.op (yq (y_move (ev_t rfl))) rfl rfl rfl ?_
    refine TL.op (yq (y_len (ev_t rfl) Try.underlying25 (fun w hw => ((ri_arg hs2) w hw).ln))) rfl rfl rfl ?_
    refine TL.op (yq (y_lss (ev_t rfl) (ev_t rfl))) rfl rfl rfl ?_
    refine TL.nil ?_
    refine TN.seq ?_
    refine TC.cond (b := decide ((s1.length : Int) < (s2.length : Int))) (ev_t rfl) (fun h29 => ?_) (fun h29 => ?_)
    · rw [bif_pos h29] at hF
      have q30 := (of_decide_eq_true h29)
      refine TC.seq ?_
      refine TC.region ?_
      refine TL.op (yq (y_assign ev_c)) rfl rfl rfl ?_
      refine TL.nil ?_
      refine TN.seq ?_
      refine TC.ret ?_
      refine TN.thenR ?_
      subst hF
      exact TN.ret1 rfl (ev_t rfl) (fun w' hw => ⟨rfl, hw⟩)
    · rw [bif_neg h29] at hF
      have q30 := (of_decide_eq_false h29)
      refine TC.skip ?_
      refine TN.seq ?_
      refine TC.seq ?_
      refine TC.region ?_
      refine TL.op (yq (y_assign ev_c)) rfl rfl rfl ?_
      refine TL.nil ?_
      refine TN.seq ?_
      refine TC.ret ?_
      subst hF
      exact TN.ret1 rfl (ev_t rfl) (fun w' hw => ⟨rfl, hw⟩)

set_option maxRecDepth 4000 in
set_option maxHeartbeats 1000000 in
theorem impl_works_index_1_ok (w : World) (vb : Value) (b : List Int) (hb : RI w vb b) (vc : Value) (c : List Int) (hc : RI w vc c)  :
    Calls Try.prog 108 ([vb, vc] : List Value).toArray w (Ret (.int .i64 (F_impl_works_index_1 b c)) (Hp w [])) := by
  obtain ⟨rz, hF⟩ : ∃ rz, (F_impl_works_index_1 b c) = rz := ⟨_, rfl⟩
  rw [hF]
  unfold F_impl_works_index_1 at hF
  have hlen_b := arg_len hb
  have hlen_c := arg_len hc
  refine calls_tc Try.func108 rfl rfl rfl ?_
  change TC _ _ _ _ (Hp w []) [(0, vb), (1, vc)]
  refine TC.seq ?_
  refine TC.region ?_
  refine TL.op (yq (y_assign ev_c)) rfl rfl rfl ?_
  refine TL.nil ?_
  refine TN.seq ?_
  refine TC.seq ?_
  refine TC.region ?_
  refine TL.op (yq (y_move (ev_t rfl))) rfl rfl rfl ?_
  refine TL.op (yq (y_move (ev_t rfl))) rfl rfl rfl ?_
  refine TL.op (y_call (vs := [vb, vc]) (v := (.int .i64 (F_slices_Compare_Sint_int b c))) en_109 ⟨(ev_t rfl), (ev_t rfl), trivial⟩ (fun w hw => slices_Compare_Sint_int_ok w vb b ((ri_arg hb) w hw) vc c ((ri_arg hc) w hw))) rfl rfl rfl ?_
  refine TL.op (yq (y_assign (ev_t rfl))) rfl rfl rfl ?_
  refine TL.nil ?_
  refine TN.seq ?_
  refine TC.ret ?_
  subst hF
  exact TN.ret1 rfl (ev_t rfl) (fun w' hw => ⟨rfl, hw⟩)

set_option maxRecDepth 4000 in
set_option maxHeartbeats 1000000 in
theorem slices_BinarySearchFunc_SSint_Sint_Sint_ok (w : World) (vx : Value) (ux : List Value) (x : List (List Int)) (hx : RII w vx ux x) (vtgt : Value) (tgt : List Int) (htgt : RI w vtgt tgt) (kf : Nat) (cf : List Value) (f : List Int → List Int → Int) (ef : En Try.prog kf) (hf : ∀ (w' : World) (_ : Below w.heap.size w w') (vx0 : Value) (x0 : List Int) (_ : RI w' vx0 x0) (vx1 : Value) (x1 : List Int) (_ : RI w' vx1 x1), Calls Try.prog kf ([vx0, vx1] ++ cf : List Value).toArray w' (Ret (.int .i64 (f x0 x1)) (Hp w' []))) (hp0 : x.length ≤ 1000000) :
    Calls Try.prog 107 ([vx, vtgt, (.func (.func kf) #[] cf.toArray)] : List Value).toArray w (Ret (.tuple #[(.int .i64 ((F_slices_BinarySearchFunc_SSint_Sint_Sint x tgt f).1)), (.bool ((F_slices_BinarySearchFunc_SSint_Sint_Sint x tgt f).2))]) (Hp w [])) := by
  obtain ⟨rz, hF⟩ : ∃ rz, (F_slices_BinarySearchFunc_SSint_Sint_Sint x tgt f) = rz := ⟨_, rfl⟩
  rw [hF]
  unfold F_slices_BinarySearchFunc_SSint_Sint_Sint at hF
  have hlen_x := argT_len hx
  have hlen_tgt := arg_len htgt
  refine calls_tc Try.func107 rfl rfl rfl ?_
  change TC _ _ _ _ (Hp w []) [(0, vx), (1, vtgt), (2, (.func (.func kf) #[] cf.toArray))]
  refine TC.seq ?_
  refine TC.region ?_
  refine TL.op (yq (y_assign ev_c)) rfl rfl rfl ?_
  refine TL.op (yq (y_assign ev_c)) rfl rfl rfl ?_
  refine TL.nil ?_
  refine TN.seq ?_
  refine TC.seq ?_
  refine TC.region ?_
  refine TL.op (yq (y_move (ev_t rfl))) rfl rfl rfl ?_
  refine TL.op (yq (y_len (ev_t rfl) Try.underlying22 (fun w hw => ((fun w hw => ((rii_arg hx) w hw).1) w hw).ln))) rfl rfl rfl ?_
  refine TL.op (yq (y_assign (ev_t rfl))) rfl rfl rfl ?_
  refine TL.nil ?_
  refine TN.seq ?_
  refine TC.seq ?_
  refine TC.region ?_
  refine TL.op (yq (y_move (ev_t rfl))) rfl rfl rfl ?_
  refine TL.op (yq (y_assign ev_c)) rfl rfl rfl ?_
  refine TL.op (yq (y_assign (ev_t rfl))) rfl rfl rfl ?_
  refine TL.nil ?_
  refine TN.seq ?_
  refine TC.seq ?_
  refine TC.block ?_
  obtain ⟨c13, hc14⟩ : ∃ c, F_slices_BinarySearchFunc_SSint_Sint_Sint_L1 x tgt f ((x.length - 0) + 1) (0, x.length) = c := ⟨_, rfl⟩
  rw [hc14] at hF
  refine TC.loop (ι := Nat × Nat × Nat) (fun (fu1, i1, j1) => [(0, vx), (1, vtgt), (2, (.func (.func kf) #[] cf.toArray)), (8, (.int .i64 (x.length : Int))), (9, (.int .i64 (i1 : Int))), (10, (.int .i64 (j1 : Int)))]) (fun (fu1, i1, j1) => Hp w []) (fun (fu1, i1, j1) => (i1 ≤ j1) ∧ (j1 ≤ x.length) ∧ j1 - i1 < fu1 ∧ F_slices_BinarySearchFunc_SSint_Sint_Sint_L1 x tgt f fu1 (i1, j1) = c13) (fun (fu1, i1, j1) => fu1) ((x.length - 0) + 1, 0, x.length) ⟨(by first | omega | (simp [-List.getD_eq_getElem?_getD] <;> omega)), (by first | omega | (simp [-List.getD_eq_getElem?_getD] <;> omega)), (by omega), hc14⟩ ⟨rfl, rfl, rfl, rfl, rfl, rfl, trivial⟩ (fun w hw => hw) ?_
  rintro ⟨fu1, i1, j1⟩ hJ1
  obtain ⟨hi1_0, hi1_1, hmu1, hL1⟩ : (i1 ≤ j1) ∧ (j1 ≤ x.length) ∧ j1 - i1 < fu1 ∧ F_slices_BinarySearchFunc_SSint_Sint_Sint_L1 x tgt f fu1 (i1, j1) = c13 := hJ1
  change TC _ _ _ _ (Hp w []) [(0, vx), (1, vtgt), (2, (.func (.func kf) #[] cf.toArray)), (8, (.int .i64 (x.length : Int))), (9, (.int .i64 (i1 : Int))), (10, (.int .i64 (j1 : Int)))]
  obtain ⟨mf1, rfl⟩ : ∃ m, fu1 = m + 1 := ⟨fu1 - 1, by omega⟩
  rw [F_slices_BinarySearchFunc_SSint_Sint_Sint_L1_s] at hL1
  refine TC.seq ?_
  refine TC.seq ?_
  refine TC.region ?_
  refine TL.op (yq (y_move (ev_t rfl))) rfl rfl rfl ?_
  refine TL.op (yq (y_move (ev_t rfl))) rfl rfl rfl ?_
  refine TL.op (yq (y_lss (ev_t rfl) (ev_t rfl))) rfl rfl rfl ?_
  refine TL.nil ?_
  refine TN.seq ?_
  refine TC.cond (b := decide ((i1 : Int) < (j1 : Int))) (ev_t rfl) (fun h15 => ?_) (fun h15 => ?_)
  · rw [bif_pos h15] at hL1
    have q16 := (of_decide_eq_true h15)
    refine TC.skip ?_
    refine TN.seq ?_
    refine TC.block ?_
    refine TC.seq ?_
    refine TC.region ?_
    refine TL.op (yq (y_move (ev_t rfl))) rfl rfl rfl ?_
    refine TL.op (yq (y_move (ev_t rfl))) rfl rfl rfl ?_
    refine TL.op (yq (y_add (ev_t rfl) (ev_t rfl) (by unfold In64; omega))) rfl rfl rfl ?_
    refine TL.op (yq (y_conv_u64 (ev_t rfl) Try.underlying3 Try.underlying106 (by first | omega | (simp only [List.length_set, List.length_append, List.length_cons, List.length_nil, List.length_replicate]; omega) | (rw [sortI_length]; simp only [List.length_cons, List.length_nil]; omega)))) rfl rfl rfl ?_
    refine TL.op (yq (y_shr1 (ev_t rfl) ev_c (by first | omega | (simp only [List.length_set, List.length_append, List.length_cons, List.length_nil, List.length_replicate]; omega) | (rw [sortI_length]; simp only [List.length_cons, List.length_nil]; omega)))) rfl rfl rfl ?_
    refine TL.op (yq (y_conv_i64 (ev_t rfl) Try.underlying106 Try.underlying3 (by first | omega | (simp only [List.length_set, List.length_append, List.length_cons, List.length_nil, List.length_replicate]; omega) | (rw [sortI_length]; simp only [List.length_cons, List.length_nil]; omega)))) rfl rfl rfl ?_
    refine TL.op (yq (y_assign (ev_t rfl))) rfl rfl rfl ?_
    refine TL.nil ?_
    refine TN.seq ?_
    refine TC.seq ?_
    refine TC.region ?_
    refine TL.op (yq (y_move (ev_t rfl))) rfl rfl rfl ?_
    refine TL.op (yq (y_move (ev_t rfl))) rfl rfl rfl ?_
    refine TL.op (yq (y_move (ev_t rfl))) rfl rfl rfl ?_
    have hb17 : ((i1 + j1) / 2) < x.length := (by first | omega | (simp only [List.length_set, List.length_append, List.length_cons, List.length_nil, List.length_replicate]; omega) | (rw [sortI_length]; simp only [List.length_cons, List.length_nil]; omega))
    refine TL.op (yq (y_idx (k := ((i1 + j1) / 2)) (ev_t rfl) (ev_t rfl) (by first | omega | simp) slT_22 (fun w hw => ((rii_arg hx) w hw).1) hb17)) rfl rfl rfl ?_
    have ha18 := hx.row (i := ((i1 + j1) / 2)) hb17
    refine TL.op (yq (y_ldA (ev_t rfl) one_25 (rii_arg hx) hb17)) rfl rfl rfl ?_
    refine TL.op (yq (y_move (ev_t rfl))) rfl rfl rfl ?_
    refine TL.op (y_callv (vs := [(ux.getD ((i1 + j1) / 2) undef), vtgt]) (v := (.int .i64 (f (x.getD ((i1 + j1) / 2) []) tgt))) ef (ev_t rfl) ⟨(ev_t rfl), (ev_t rfl), trivial⟩ (fun w hw => hf w hw.1 (ux.getD ((i1 + j1) / 2) undef) (x.getD ((i1 + j1) / 2) []) ((ri_arg ha18) w hw) vtgt tgt ((ri_arg htgt) w hw))) rfl rfl rfl ?_
    refine TL.op (yq (y_lss (ev_t rfl) ev_c)) rfl rfl rfl ?_
    refine TL.nil ?_
    refine TN.seq ?_
    refine TC.cond (b := decide ((f (x.getD ((i1 + j1) / 2) []) tgt) < 0)) (ev_t rfl) (fun h19 => ?_) (fun h19 => ?_)
    · rw [bif_pos h19] at hL1
      have q20 := (of_decide_eq_true h19)
      refine TC.region ?_
      refine TL.op (yq (y_move (ev_t rfl))) rfl rfl rfl ?_
      refine TL.op (yq (y_add (ev_t rfl) ev_c (by unfold In64; omega))) rfl rfl rfl ?_
      refine TL.op (yq (y_assign (ev_t rfl))) rfl rfl rfl ?_
      refine TL.nil ?_
      refine TN.blockN ?_
      exact TN.hand (mf1, (((i1 + j1) / 2) + 1), j1) ⟨(by first | omega | (simp [-List.getD_eq_getElem?_getD] <;> omega)), (by first | omega | (simp [-List.getD_eq_getElem?_getD] <;> omega)), (by omega), hL1⟩ (Nat.lt_succ_self _) ⟨rfl, rfl, rfl, rfl, rfl, rfl, trivial⟩ (fun w hw => hw)
    · rw [bif_neg h19] at hL1
      have q20 := (of_decide_eq_false h19)
      refine TC.region ?_
      refine TL.op (yq (y_move (ev_t rfl))) rfl rfl rfl ?_
      refine TL.op (yq (y_assign (ev_t rfl))) rfl rfl rfl ?_
      refine TL.nil ?_
      refine TN.blockN ?_
      exact TN.hand (mf1, i1, ((i1 + j1) / 2)) ⟨(by first | omega | (simp [-List.getD_eq_getElem?_getD] <;> omega)), (by first | omega | (simp [-List.getD_eq_getElem?_getD] <;> omega)), (by omega), hL1⟩ (Nat.lt_succ_self _) ⟨rfl, rfl, rfl, rfl, rfl, rfl, trivial⟩ (fun w hw => hw)
  · rw [bif_neg h15] at hL1
    have q16 := (of_decide_eq_false h15)
    refine TC.exit ?_
    refine TN.thenE ?_
    refine TN.thenE ?_
    rw [← hL1, elim_next] at hF
    try dsimp only at hF
    refine TN.blockH ?_
    refine TN.seq ?_
    refine TC.seq ?_
    refine TC.region ?_
    refine TL.op (yq (y_move (ev_t rfl))) rfl rfl rfl ?_
    refine TL.op (yq (y_move (ev_t rfl))) rfl rfl rfl ?_
    refine TL.op (yq (y_move (ev_t rfl))) rfl rfl rfl ?_
    refine TL.op (yq (y_lss (ev_t rfl) (ev_t rfl))) rfl rfl rfl ?_
    refine TL.op (yq (y_move (ev_t rfl))) rfl rfl rfl ?_
    refine TL.opw (w_t rfl rfl rfl) (fun hg => yq (y_move (ev_t rfl))) rfl rfl ?_
    refine TL.opw (w_t rfl rfl rfl) (fun hg => yq (y_move (ev_t rfl))) rfl rfl ?_
    refine TL.opw (w_t rfl rfl rfl) (fun hg => yq (y_move (ev_t rfl))) rfl rfl ?_
    refine TL.opw (w_t rfl rfl rfl) (fun hg => yq (y_idx (k := i1) (ev_g rfl hg) (ev_g rfl hg) (by first | omega | simp) slT_22 (fun w hw => ((rii_arg hx) w hw).1) (show i1 < x.length by have hgf := (of_decide_eq_true hg); omega))) rfl rfl ?_
    refine TL.opw (w_t rfl rfl rfl) (fun hg => yq (y_ldA (ev_g rfl hg) one_25 (rii_arg hx) (show i1 < x.length by have hgf := (of_decide_eq_true hg); omega))) rfl rfl ?_
    refine TL.opw (w_t rfl rfl rfl) (fun hg => yq (y_move (ev_t rfl))) rfl rfl ?_
    refine TL.opw (w_t rfl rfl rfl) (fun hg => y_callv (vs := [(ux.getD i1 undef), vtgt]) (v := (.int .i64 (f (x.getD i1 []) tgt))) ef (ev_g rfl hg) ⟨(ev_g rfl hg), (ev_g rfl hg), trivial⟩ (fun w hw => hf w hw.1 (ux.getD i1 undef) (x.getD i1 []) ((ri_arg (hx.row (i := i1) (show i1 < x.length by have hgf := (of_decide_eq_true hg); omega))) w hw) vtgt tgt ((ri_arg htgt) w hw))) rfl rfl ?_
    refine TL.opw (w_t rfl rfl rfl) (fun hg => yq (y_eql (ev_g rfl hg) ev_c)) rfl rfl ?_
    refine TL.op (yq (y_and (ev_t rfl) (fun hq => (ev_g rfl hq)))) rfl rfl rfl ?_
    refine TL.op (yq (y_assign (ev_t rfl))) rfl rfl rfl ?_
    refine TL.op (yq (y_assign (ev_t rfl))) rfl rfl rfl ?_
    refine TL.nil ?_
    refine TN.seq ?_
    refine TC.ret ?_
    subst hF
    exact TN.ret2 rfl (ev_t rfl) (ev_t rfl) (fun w' hw => ⟨rfl, hw⟩)

set_option maxRecDepth 4000 in
set_option maxHeartbeats 1000000 in
theorem impl_worksOf_ok (w : World) (vm : Value) (um : List Value) (m : List (List Int)) (hm : RII w vm um m) (k : Int) (hp0 : Ks m k) :
    Calls Try.prog 56 ([(.agg #[vm]), (.int .i64 k)] : List Value).toArray w (fun e w' => ∃ i : Nat × Value × Value × List Value × Value × List Value, e = .returned (.pointer (some ⟨i.1, 0, none⟩)) ∧ Hp w [.blk i.1 70 [i.2.1, i.2.2.1, i.2.2.2.2.1], tabI 25 3 i.2.2.1 i.2.2.2.1 ((F_impl_worksOf m k).1), tabI 25 3 i.2.2.2.2.1 i.2.2.2.2.2 ((F_impl_worksOf m k).2)] w') := by
  obtain ⟨rz, hF⟩ : ∃ rz, (F_impl_worksOf m k) = rz := ⟨_, rfl⟩
  rw [hF]
  unfold F_impl_worksOf at hF
  have hn6 := hp0.tab.n6
  have hcs := hp0.cfgs
  have hc56 := hp0.c56
  have hTab := hp0.tab
  have hk1 := hp0.k1
  have hk3 := hp0.k3
  have hlen_m := argT_len hm
  refine calls_tc Try.func56 rfl rfl rfl ?_
  change TC _ _ _ _ (Hp w []) [(0, (.agg #[vm])), (1, (.int .i64 k))]
  refine TC.seq ?_
  refine TC.region ?_
  refine TL.box (ev_t rfl) rfl (fun g0_0 => ?_)
  refine TL.op (yq (y_assign ev_c)) rfl rfl rfl ?_
  refine TL.nil ?_
  refine TN.seq ?_
  refine TC.seq ?_
  refine TC.regionH 9 (Hp w [.blk g0_0 29 [vm]]) rfl (by kernel_rfl) dr_hp (fun w hw => hw) ?_
  refine TH.take 0 rfl (by kernel_rfl) (y_ldagg (cs := [vm]) 0 (ev_t rfl) agg_29 rfl) rfl rfl rfl ?_
  refine TH.take 1 rfl (by kernel_rfl) (y_fa (fa_29_0 g0_0) (ev_t rfl)) rfl rfl rfl ?_
  refine TH.take 2 rfl (by kernel_rfl) (y_ldb 0 (ev_t rfl) one_22 rfl rfl) rfl rfl rfl ?_
  refine TH.take 3 rfl (by kernel_rfl) (y_len (ev_t rfl) Try.underlying22 (fun w hw => ((fun w hw => ((rii_arg hm) w hw).1) w hw).ln)) rfl rfl rfl ?_
  refine TH.take 4 rfl (by kernel_rfl) (y_move (ev_t rfl)) rfl rfl rfl ?_
  refine TH.loud 5 rfl (by kernel_rfl) ?_
  refine TL.callr (ι := Value × List Value) (vs := [(.int .i64 (m.length : Int)), (.int .i64 k), (.int .i64 0)]) (fun i => i.1) (fun i => [tabI 25 3 i.1 i.2 (F_impl_configsOf (m.length : Int) k 0)]) en_99 ⟨(ev_t rfl), (ev_t rfl), ev_c, trivial⟩ rfl (fun w hw => impl_configsOf_ok w (m.length : Int) k 0 (by first | assumption | omega | grind) (by first | assumption | omega | grind) (by first | assumption | omega | grind) (by first | assumption | omega | grind)) (fun r1_5 => ?_)
  refine TL.nil ?_
  refine TH.back (fun w hw => Hp.sublist hw (.cons _ (.cons_cons _ .slnil))) ?_
  refine TH.loud 6 rfl (by kernel_rfl) ?_
  refine TL.op (yq (y_bldW (ev_t rfl) (ev_t rfl) bd_70_w (fun w hw => ((fun w hw => ((rii_arg hm) w hw).1) w hw).ln) (fun w hw => ((fun w hw => ((rii_tab 0 rfl) w hw).1) w hw).ln))) rfl rfl rfl ?_
  refine TL.nil ?_
  refine TH.back (fun w hw => Hp.sublist hw (.cons _ (.cons_cons _ .slnil))) ?_
  refine TH.loud 7 rfl (by kernel_rfl) ?_
  refine TL.boxW (ev_t rfl) (fun w hw => ((fun w hw => ((rii_arg hm) w hw).1) w hw).ln) (fun w hw => ((fun w hw => ((rii_tab 0 rfl) w hw).1) w hw).ln) rfl (fun g1_7 => ?_)
  refine TL.nil ?_
  refine TH.back (fun w hw => Hp.sublist hw (.cons _ (.cons _ (.cons_cons _ .slnil)))) ?_
  refine TH.take 8 rfl (by kernel_rfl) (y_assign (ev_t rfl)) rfl rfl rfl ?_
  refine TH.done (by kernel_rfl) ?_
  refine TN.seq ?_
  refine TC.seq ?_
  refine TC.seq ?_
  refine TC.region ?_
  refine TL.op (yq (y_move (ev_t rfl))) rfl rfl rfl ?_
  refine TL.op (yq (y_nilp (ev_t rfl))) rfl rfl rfl ?_
  refine TL.op (yq (y_fa (fa_70_1 g1_7) (ev_t rfl))) rfl rfl rfl ?_
  refine TL.op (yq (y_ldb 0 (ev_t rfl) one_22 rfl rfl)) rfl rfl rfl ?_
  refine TL.op (yq (y_len (ev_t rfl) Try.underlying22 (fun w hw => ((fun w hw => ((rii_tab 1 rfl) w hw).1) w hw).ln))) rfl rfl rfl ?_
  refine TL.op (yq (y_move ev_c)) rfl rfl rfl ?_
  refine TL.nil ?_
  refine TN.seq ?_
  refine TC.block ?_
  refine TC.cls (fun w hw => hw.nilTab 25 3) ?_
  obtain ⟨c28, hc29⟩ : ∃ c, F_impl_worksOf_L1 m k ((((F_impl_configsOf (m.length : Int) k 0).length) - 0) + 1) (0, ([])) = c := ⟨_, rfl⟩
  rw [hc29] at hF
  refine TC.loop (ι := Nat × Nat × List (List Int) × Value × List Value) (fun (fu1, k24_1, zg1_7_2_1, vzg1_7_2_1, uzg1_7_2_1) => [(2, (.pointer (some ⟨g0_0, 0, none⟩))), (5, (.pointer (some ⟨g1_7, 0, none⟩))), (22, r1_5.1), (23, (.int .i64 ((F_impl_configsOf (m.length : Int) k 0).length : Int))), (24, (.int .i64 (k24_1 : Int)))]) (fun (fu1, k24_1, zg1_7_2_1, vzg1_7_2_1, uzg1_7_2_1) => Hp w [tabI 25 3 vzg1_7_2_1 uzg1_7_2_1 zg1_7_2_1, .blk g1_7 70 [vm, r1_5.1, vzg1_7_2_1], tabI 25 3 r1_5.1 r1_5.2 (F_impl_configsOf (m.length : Int) k 0), .blk g0_0 29 [vm]]) (fun (fu1, k24_1, zg1_7_2_1, vzg1_7_2_1, uzg1_7_2_1) => (k24_1 ≤ ((F_impl_configsOf (m.length : Int) k 0).length)) ∧ (zg1_7_2_1.length = k24_1) ∧ ((F_impl_configsOf (m.length : Int) k 0).length) - k24_1 < fu1 ∧ F_impl_worksOf_L1 m k fu1 (k24_1, zg1_7_2_1) = c28) (fun (fu1, k24_1, zg1_7_2_1, vzg1_7_2_1, uzg1_7_2_1) => fu1) ((((F_impl_configsOf (m.length : Int) k 0).length) - 0) + 1, 0, [], (.slice none 0 0), []) ⟨(by first | omega | (simp [-List.getD_eq_getElem?_getD] <;> omega)), (by first | omega | (simp [-List.getD_eq_getElem?_getD] <;> omega)), (by omega), hc29⟩ ⟨rfl, rfl, rfl, rfl, rfl, trivial⟩ (fun w hw => hw) ?_
  rintro ⟨fu1, k24_1, zg1_7_2_1, vzg1_7_2_1, uzg1_7_2_1⟩ hJ1
  obtain ⟨hi1_0, hi1_1, hmu1, hL1⟩ : (k24_1 ≤ ((F_impl_configsOf (m.length : Int) k 0).length)) ∧ (zg1_7_2_1.length = k24_1) ∧ ((F_impl_configsOf (m.length : Int) k 0).length) - k24_1 < fu1 ∧ F_impl_worksOf_L1 m k fu1 (k24_1, zg1_7_2_1) = c28 := hJ1
  change TC _ _ _ _ (Hp w [tabI 25 3 vzg1_7_2_1 uzg1_7_2_1 zg1_7_2_1, .blk g1_7 70 [vm, r1_5.1, vzg1_7_2_1], tabI 25 3 r1_5.1 r1_5.2 (F_impl_configsOf (m.length : Int) k 0), .blk g0_0 29 [vm]]) [(2, (.pointer (some ⟨g0_0, 0, none⟩))), (5, (.pointer (some ⟨g1_7, 0, none⟩))), (22, r1_5.1), (23, (.int .i64 ((F_impl_configsOf (m.length : Int) k 0).length : Int))), (24, (.int .i64 (k24_1 : Int)))]
  obtain ⟨mf1, rfl⟩ : ∃ m, fu1 = m + 1 := ⟨fu1 - 1, by omega⟩
  rw [F_impl_worksOf_L1_s] at hL1
  have hca := (hcs k24_1)
  refine TC.seq ?_
  refine TC.region ?_
  refine TL.op (yq (y_lss (ev_t rfl) (ev_t rfl))) rfl rfl rfl ?_
  refine TL.nil ?_
  refine TN.seq ?_
  refine TC.seq ?_
  refine TC.cond (b := decide ((k24_1 : Int) < ((F_impl_configsOf (m.length : Int) k 0).length : Int))) (ev_t rfl) (fun h30 => ?_) (fun h30 => ?_)
  · rw [bif_pos h30] at hL1
    have q31 := (of_decide_eq_true h30)
    refine TC.skip ?_
    refine TN.seq ?_
    refine TC.seq ?_
    refine TC.block ?_
    refine TC.seq ?_
    refine TC.region ?_
    have hb32 : k24_1 < (F_impl_configsOf (m.length : Int) k 0).length := (by first | omega | (simp only [List.length_set, List.length_append, List.length_cons, List.length_nil, List.length_replicate]; omega) | (rw [sortI_length]; simp only [List.length_cons, List.length_nil]; omega))
    refine TL.op (yq (y_idx (k := k24_1) (ev_t rfl) (ev_t rfl) (by first | omega | simp) slT_22 (fun w hw => ((rii_tab 2 rfl) w hw).1) hb32)) rfl rfl rfl ?_
    refine TL.op (yq (y_ldT 2 (ev_t rfl) one_25 rfl hb32)) rfl rfl rfl ?_
    refine TL.op (yq (y_assign (ev_t rfl))) rfl rfl rfl ?_
    refine TL.nil ?_
    refine TN.seq ?_
    refine TC.seq ?_
    refine TC.region ?_
    refine TL.buildI (zs := []) (qs := []) slT_25 rfl trivial rfl (by decide) rfl (fun v5_0 => ?_)
    refine TL.op (yq (y_assign (ev_t rfl))) rfl rfl rfl ?_
    refine TL.nil ?_
    refine TN.seq ?_
    refine TC.seq ?_
    refine TC.seq ?_
    refine TC.region ?_
    refine TL.op (yq (y_move (ev_t rfl))) rfl rfl rfl ?_
    refine TL.op (yq (y_nilp (ev_t rfl))) rfl rfl rfl ?_
    refine TL.op (yq (y_fa (fa_70_1 g1_7) (ev_t rfl))) rfl rfl rfl ?_
    refine TL.op (yq (y_ldb 2 (ev_t rfl) one_22 rfl rfl)) rfl rfl rfl ?_
    refine TL.op (yq (y_len (ev_t rfl) Try.underlying22 (fun w hw => ((fun w hw => ((rii_tab 3 rfl) w hw).1) w hw).ln))) rfl rfl rfl ?_
    refine TL.op (yq (y_move ev_c)) rfl rfl rfl ?_
    refine TL.nil ?_
    refine TN.seq ?_
    refine TC.block ?_
    obtain ⟨c33, hc34⟩ : ∃ c, F_impl_worksOf_L2 m k k24_1 ((((F_impl_configsOf (m.length : Int) k 0).length) - 0) + 1) (([] : List Int), 0) = c := ⟨_, rfl⟩
    rw [hc34] at hL1
    refine TC.loop (ι := Nat × List Int × Nat × Value) (fun (fu2, row2, k34_2, vrow2) => [(2, (.pointer (some ⟨g0_0, 0, none⟩))), (5, (.pointer (some ⟨g1_7, 0, none⟩))), (7, (r1_5.2.getD k24_1 undef)), (8, vrow2), (22, r1_5.1), (23, (.int .i64 ((F_impl_configsOf (m.length : Int) k 0).length : Int))), (24, (.int .i64 (k24_1 : Int))), (32, r1_5.1), (33, (.int .i64 ((F_impl_configsOf (m.length : Int) k 0).length : Int))), (34, (.int .i64 (k34_2 : Int)))]) (fun (fu2, row2, k34_2, vrow2) => Hp w [rowI 3 vrow2 row2, tabI 25 3 vzg1_7_2_1 uzg1_7_2_1 zg1_7_2_1, .blk g1_7 70 [vm, r1_5.1, vzg1_7_2_1], tabI 25 3 r1_5.1 r1_5.2 (F_impl_configsOf (m.length : Int) k 0), .blk g0_0 29 [vm]]) (fun (fu2, row2, k34_2, vrow2) => (k34_2 ≤ ((F_impl_configsOf (m.length : Int) k 0).length)) ∧ (row2.length = k34_2) ∧ ((F_impl_configsOf (m.length : Int) k 0).length) - k34_2 < fu2 ∧ F_impl_worksOf_L2 m k k24_1 fu2 (row2, k34_2) = c33) (fun (fu2, row2, k34_2, vrow2) => fu2) ((((F_impl_configsOf (m.length : Int) k 0).length) - 0) + 1, ([] : List Int), 0, v5_0) ⟨(by first | omega | (simp [-List.getD_eq_getElem?_getD] <;> omega)), (by first | omega | (simp [-List.getD_eq_getElem?_getD] <;> omega)), (by omega), hc34⟩ ⟨rfl, rfl, rfl, rfl, rfl, rfl, rfl, rfl, rfl, rfl, trivial⟩ (fun w hw => hw) ?_
    rintro ⟨fu2, row2, k34_2, vrow2⟩ hJ2
    obtain ⟨hi2_0, hi2_1, hmu2, hL2⟩ : (k34_2 ≤ ((F_impl_configsOf (m.length : Int) k 0).length)) ∧ (row2.length = k34_2) ∧ ((F_impl_configsOf (m.length : Int) k 0).length) - k34_2 < fu2 ∧ F_impl_worksOf_L2 m k k24_1 fu2 (row2, k34_2) = c33 := hJ2
    change TC _ _ _ _ (Hp w [rowI 3 vrow2 row2, tabI 25 3 vzg1_7_2_1 uzg1_7_2_1 zg1_7_2_1, .blk g1_7 70 [vm, r1_5.1, vzg1_7_2_1], tabI 25 3 r1_5.1 r1_5.2 (F_impl_configsOf (m.length : Int) k 0), .blk g0_0 29 [vm]]) [(2, (.pointer (some ⟨g0_0, 0, none⟩))), (5, (.pointer (some ⟨g1_7, 0, none⟩))), (7, (r1_5.2.getD k24_1 undef)), (8, vrow2), (22, r1_5.1), (23, (.int .i64 ((F_impl_configsOf (m.length : Int) k 0).length : Int))), (24, (.int .i64 (k24_1 : Int))), (32, r1_5.1), (33, (.int .i64 ((F_impl_configsOf (m.length : Int) k 0).length : Int))), (34, (.int .i64 (k34_2 : Int)))]
    obtain ⟨mf2, rfl⟩ : ∃ m, fu2 = m + 1 := ⟨fu2 - 1, by omega⟩
    rw [F_impl_worksOf_L2_s] at hL2
    have hca1 := (hcs k24_1 (by omega)).1
    have hcb1 := fun h => (hcs k34_2 h).1
    have hcl := fun h => hp0.eqlen k24_1 k34_2 (by omega) h
    refine TC.seq ?_
    refine TC.region ?_
    refine TL.op (yq (y_lss (ev_t rfl) (ev_t rfl))) rfl rfl rfl ?_
    refine TL.nil ?_
    refine TN.seq ?_
    refine TC.seq ?_
    refine TC.cond (b := decide ((k34_2 : Int) < ((F_impl_configsOf (m.length : Int) k 0).length : Int))) (ev_t rfl) (fun h35 => ?_) (fun h35 => ?_)
    · rw [bif_pos h35] at hL2
      have q36 := (of_decide_eq_true h35)
      refine TC.skip ?_
      refine TN.seq ?_
      refine TC.seq ?_
      refine TC.block ?_
      refine TC.seq ?_
      refine TC.region ?_
      have hb37 : k34_2 < (F_impl_configsOf (m.length : Int) k 0).length := (by first | omega | (simp only [List.length_set, List.length_append, List.length_cons, List.length_nil, List.length_replicate]; omega) | (rw [sortI_length]; simp only [List.length_cons, List.length_nil]; omega))
      refine TL.op (yq (y_idx (k := k34_2) (ev_t rfl) (ev_t rfl) (by first | omega | simp) slT_22 (fun w hw => ((rii_tab 3 rfl) w hw).1) hb37)) rfl rfl rfl ?_
      refine TL.op (yq (y_ldT 3 (ev_t rfl) one_25 rfl hb37)) rfl rfl rfl ?_
      refine TL.op (yq (y_assign (ev_t rfl))) rfl rfl rfl ?_
      refine TL.nil ?_
      refine TN.seq ?_
      refine TC.region ?_
      refine TL.op (yq (y_move (ev_t rfl))) rfl rfl rfl ?_
      refine TL.op (yq (y_ldagg (cs := [vm]) 4 (ev_t rfl) agg_29 rfl)) rfl rfl rfl ?_
      refine TL.op (yq (y_move (ev_t rfl))) rfl rfl rfl ?_
      refine TL.op (yq (y_move (ev_t rfl))) rfl rfl rfl ?_
      refine TL.op (y_call (vs := [(.agg #[vm]), (r1_5.2.getD k24_1 undef), (r1_5.2.getD k34_2 undef)]) (v := (.int .i64 (F_impl_Metric_moveCost m ((F_impl_configsOf (m.length : Int) k 0).getD k24_1 []) ((F_impl_configsOf (m.length : Int) k 0).getD k34_2 [])))) en_100 ⟨(ev_t rfl), (ev_t rfl), (ev_t rfl), trivial⟩ (fun w hw => impl_Metric_moveCost_ok w vm um m ((rii_arg hm) w hw) (r1_5.2.getD k24_1 undef) ((F_impl_configsOf (m.length : Int) k 0).getD k24_1 []) ((ri_tab 3 k24_1 rfl hb32) w hw) (r1_5.2.getD k34_2 undef) ((F_impl_configsOf (m.length : Int) k 0).getD k34_2 []) ((ri_tab 3 k34_2 rfl hb37) w hw) (by first | assumption | omega | grind) (by first | assumption | omega | grind) (by first | assumption | omega | grind) (by first | assumption | omega | grind))) rfl rfl rfl ?_
      refine TL.buildI (zs := [.tmp 42]) (qs := [(F_impl_Metric_moveCost m ((F_impl_configsOf (m.length : Int) k 0).getD k24_1 []) ((F_impl_configsOf (m.length : Int) k 0).getD k34_2 []))]) slT_25 rfl ⟨(ev_t rfl), trivial⟩ rfl (by decide) rfl (fun v9_5 => ?_)
      refine TL.appendI 1 (ev_t rfl) (ev_t rfl) rfl slT_25 (ri_row 0 rfl) (by first | omega | (simp [-List.getD_eq_getElem?_getD] <;> omega)) rfl (fun v9_6 => ?_)
      refine TL.op (yq (y_assign (ev_t rfl))) rfl rfl rfl ?_
      refine TL.nil ?_
      refine TN.blockN ?_
      refine TN.seq ?_
      refine TC.region ?_
      refine TL.op (yq (y_add (ev_t rfl) ev_c (by unfold In64; omega))) rfl rfl rfl ?_
      refine TL.op (yq (y_move (ev_t rfl))) rfl rfl rfl ?_
      refine TL.nil ?_
      exact TN.hand (mf2, (row2 ++ ([(F_impl_Metric_moveCost m ((F_impl_configsOf (m.length : Int) k 0).getD k24_1 []) ((F_impl_configsOf (m.length : Int) k 0).getD k34_2 []))])), (k34_2 + 1), v9_6) ⟨(by first | omega | (simp [-List.getD_eq_getElem?_getD] <;> omega)), (by first | omega | (simp [-List.getD_eq_getElem?_getD] <;> omega)), (by omega), hL2⟩ (Nat.lt_succ_self _) ⟨rfl, rfl, rfl, rfl, rfl, rfl, rfl, rfl, rfl, rfl, trivial⟩ (fun w hw => Hp.sublist hw (.cons _ (.cons_cons _ (.cons_cons _ (.cons_cons _ (.cons_cons _ (.cons_cons _ .slnil)))))))
    · rw [bif_neg h35] at hL2
      have q36 := (of_decide_eq_false h35)
      refine TC.exit ?_
      refine TN.thenE ?_
      refine TN.thenE ?_
      rw [← hL2, elim_next] at hL1
      try dsimp only at hL1
      refine TN.blockH ?_
      refine TN.seq ?_
      refine TC.region ?_
      refine TL.op (yq (y_move (ev_t rfl))) rfl rfl rfl ?_
      refine TL.op (yq (y_move (ev_t rfl))) rfl rfl rfl ?_
      refine TL.op (yq (y_nilp (ev_t rfl))) rfl rfl rfl ?_
      refine TL.op (yq (y_fa (fa_70_2 g1_7) (ev_t rfl))) rfl rfl rfl ?_
      refine TL.op (yq (y_ldb 2 (ev_t rfl) one_22 rfl rfl)) rfl rfl rfl ?_
      refine TL.op (yq (y_move (ev_t rfl))) rfl rfl rfl ?_
      refine TL.buildU slT_22 (ev_t rfl) (fun w hw => ((ri_row 0 rfl) w hw).ln) rfl (fun v11_6 => ?_)
      refine TL.appendT 2 1 rfl (ev_t rfl) (ev_t rfl) rfl rfl slT_22 (rd_row 0 rfl) (by first | omega | (simp [-List.getD_eq_getElem?_getD] <;> omega)) rfl (fun v11_7 => ?_)
      refine TL.op (yq (y_nilp (ev_t rfl))) rfl rfl rfl ?_
      refine TL.op (yq (y_fa (fa_70_2 g1_7) (ev_t rfl))) rfl rfl rfl ?_
      refine TL.storeB 3 (ev_t rfl) (ev_t rfl) one_22 rfl (by first | decide | simp) (fun w hw => (ln_one ((fun w hw => ((rii_tab 2 rfl) w hw).1) w hw).ln)) ?_
      refine TL.nil ?_
      refine TN.blockN ?_
      refine TN.seq ?_
      refine TC.region ?_
      refine TL.op (yq (y_add (ev_t rfl) ev_c (by unfold In64; omega))) rfl rfl rfl ?_
      refine TL.op (yq (y_move (ev_t rfl))) rfl rfl rfl ?_
      refine TL.nil ?_
      exact TN.hand (mf1, (k24_1 + 1), (zg1_7_2_1 ++ [row2]), v11_7, (uzg1_7_2_1 ++ [vrow2])) ⟨(by first | omega | (simp [-List.getD_eq_getElem?_getD] <;> omega)), (by first | omega | (simp [-List.getD_eq_getElem?_getD] <;> omega)), (by omega), hL1⟩ (Nat.lt_succ_self _) ⟨rfl, rfl, rfl, rfl, rfl, trivial⟩ (fun w hw => Hp.sublist hw (.cons _ (.cons _ (.cons_cons _ (.cons_cons _ (.cons_cons _ (.cons_cons _ .slnil)))))))
  · rw [bif_neg h30] at hL1
    have q31 := (of_decide_eq_false h30)
    refine TC.exit ?_
    refine TN.thenE ?_
    refine TN.thenE ?_
    rw [← hL1, elim_next] at hF
    try dsimp only at hF
    refine TN.blockH ?_
    refine TN.seq ?_
    refine TC.seq ?_
    refine TC.region ?_
    refine TL.op (yq (y_move (ev_t rfl))) rfl rfl rfl ?_
    refine TL.op (yq (y_assign (ev_t rfl))) rfl rfl rfl ?_
    refine TL.nil ?_
    refine TN.seq ?_
    refine TC.ret ?_
    subst hF
    exact TN.ret1 rfl (ev_t rfl) (fun w' hw => ⟨(g1_7, vm, r1_5.1, r1_5.2, vzg1_7_2_1, uzg1_7_2_1), rfl, Hp.picks [1, 2, 0] (by decide) rfl hw⟩)

set_option maxRecDepth 4000 in
set_option maxHeartbeats 1000000 in
theorem impl_works_index_ok (w : World) (gx : Nat) (vx0 : Value) (vx1 : Value) (ux1 : List Value) (xc1 : List (List Int)) (vx2 : Value) (ux2 : List Value) (xc2 : List (List Int)) (hx : BlkAt w gx [vx0, vx1, vx2]) (hrx1 : RII w vx1 ux1 xc1) (hrx2 : RII w vx2 ux2 xc2) (va : Value) (a : List Int) (ha : RI w va a) (hp0 : xc1.length ≤ 1000000) :
    Calls Try.prog 68 ([(.pointer (some ⟨gx, 0, none⟩)), va] : List Value).toArray w (Ret (.int .i64 (F_impl_works_index xc1 xc2 a)) (Hp w [])) := by
  obtain ⟨rz, hF⟩ : ∃ rz, (F_impl_works_index xc1 xc2 a) = rz := ⟨_, rfl⟩
  rw [hF]
  unfold F_impl_works_index at hF
  have hlen_x1 := argT_len hrx1
  have hlen_x2 := argT_len hrx2
  have hlen_a := arg_len ha
  refine calls_tc Try.func68 rfl rfl rfl ?_
  change TC _ _ _ _ (Hp w []) [(0, (.pointer (some ⟨gx, 0, none⟩))), (1, va)]
  refine TC.seq ?_
  refine TC.region ?_
  refine TL.op (yq (y_assign ev_c)) rfl rfl rfl ?_
  refine TL.nil ?_
  refine TN.seq ?_
  refine TC.seq ?_
  refine TC.region ?_
  refine TL.op (yq (y_move (ev_t rfl))) rfl rfl rfl ?_
  refine TL.op (yq (y_nilp (ev_t rfl))) rfl rfl rfl ?_
  refine TL.op (yq (y_fa (fa_70_1 gx) (ev_t rfl))) rfl rfl rfl ?_
  refine TL.op (yq (y_ldk (ev_t rfl) one_22 hx rfl)) rfl rfl rfl ?_
  refine TL.op (yq (y_move (ev_t rfl))) rfl rfl rfl ?_
  refine TL.op (y_call (vs := [vx1, va, (.func (.func 108) #[] ([] : List Value).toArray)]) (v := (.tuple #[(.int .i64 ((F_slices_BinarySearchFunc_SSint_Sint_Sint xc1 a (fun b c => F_impl_works_index_1 b c )).1)), (.bool ((F_slices_BinarySearchFunc_SSint_Sint_Sint xc1 a (fun b c => F_impl_works_index_1 b c )).2))])) en_107 ⟨(ev_t rfl), (ev_t rfl), ev_f, trivial⟩ (fun w hw => slices_BinarySearchFunc_SSint_Sint_Sint_ok w vx1 ux1 xc1 ((rii_arg hrx1) w hw) va a ((ri_arg ha) w hw) 108 [] (fun b c => F_impl_works_index_1 b c ) en_108 (fun w2 hb vb b hb vc c hc => impl_works_index_1_ok w2 vb b hb vc c hc ) (by first | assumption | omega | grind))) rfl rfl rfl ?_
  refine TL.op (yq (y_move (ev_t rfl))) rfl rfl rfl ?_
  refine TL.op (yq (y_extract (ev_t rfl) rfl)) rfl rfl rfl ?_
  refine TL.op (yq (y_extract (ev_t rfl) rfl)) rfl rfl rfl ?_
  refine TL.op (yq (y_assign (ev_t rfl))) rfl rfl rfl ?_
  refine TL.op (yq (y_assign (ev_t rfl))) rfl rfl rfl ?_
  refine TL.nil ?_
  refine TN.seq ?_
  refine TC.seq ?_
  refine TC.region ?_
  refine TL.op (yq (y_move (ev_t rfl))) rfl rfl rfl ?_
  refine TL.op (yq (y_assign (ev_t rfl))) rfl rfl rfl ?_
  refine TL.nil ?_
  refine TN.seq ?_
  refine TC.ret ?_
  subst hF
  exact TN.ret1 rfl (ev_t rfl) (fun w' hw => ⟨rfl, hw⟩)

set_option maxRecDepth 4000 in
set_option maxHeartbeats 1000000 in
theorem impl_works_isWork_ok (w : World) (gx : Nat) (vx0 : Value) (vx1 : Value) (ux1 : List Value) (xc1 : List (List Int)) (vx2 : Value) (ux2 : List Value) (xc2 : List (List Int)) (hx : BlkAt w gx [vx0, vx1, vx2]) (hrx1 : RII w vx1 ux1 xc1) (hrx2 : RII w vx2 ux2 xc2) (vwk : Value) (wk : List Int) (hwk : RI w vwk wk) (hp0 : Wd xc1 xc2) :
    Calls Try.prog 57 ([(.pointer (some ⟨gx, 0, none⟩)), vwk] : List Value).toArray w (Ret (.bool (F_impl_works_isWork xc1 xc2 wk)) (Hp w [])) := by
  obtain ⟨rz, hF⟩ : ∃ rz, (F_impl_works_isWork xc1 xc2 wk) = rz := ⟨_, rfl⟩
  rw [hF]
  unfold F_impl_works_isWork at hF
  have hwl := hp0.len
  have hlen_x1 := argT_len hrx1
  have hlen_x2 := argT_len hrx2
  have hlen_wk := arg_len hwk
  refine calls_tc Try.func57 rfl rfl rfl ?_
  change TC _ _ _ _ (Hp w []) [(0, (.pointer (some ⟨gx, 0, none⟩))), (1, vwk)]
  refine TC.seq ?_
  refine TC.region ?_
  refine TL.op (yq (y_assign ev_c)) rfl rfl rfl ?_
  refine TL.nil ?_
  refine TN.seq ?_
  refine TC.seq ?_
  refine TC.seq ?_
  refine TC.region ?_
  refine TL.op (yq (y_move (ev_t rfl))) rfl rfl rfl ?_
  refine TL.op (yq (y_len (ev_t rfl) Try.underlying25 (fun w hw => ((ri_arg hwk) w hw).ln))) rfl rfl rfl ?_
  refine TL.op (yq (y_move (ev_t rfl))) rfl rfl rfl ?_
  refine TL.op (yq (y_nilp (ev_t rfl))) rfl rfl rfl ?_
  refine TL.op (yq (y_fa (fa_70_1 gx) (ev_t rfl))) rfl rfl rfl ?_
  refine TL.op (yq (y_ldk (ev_t rfl) one_22 hx rfl)) rfl rfl rfl ?_
  refine TL.op (yq (y_len (ev_t rfl) Try.underlying22 (fun w hw => ((fun w hw => ((rii_arg hrx1) w hw).1) w hw).ln))) rfl rfl rfl ?_
  refine TL.op (yq (y_neq (ev_t rfl) (ev_t rfl))) rfl rfl rfl ?_
  refine TL.op (yq (y_move (ev_t rfl))) rfl rfl rfl ?_
  refine TL.opw (w_f rfl rfl rfl) (fun hg => yq (y_move (ev_t rfl))) rfl rfl ?_
  refine TL.opw (w_f rfl rfl rfl) (fun hg => y_call (vs := [(.int .i64 100000), vwk]) (v := (.bool (F_impl_areBelow 100000 wk))) en_101 ⟨ev_c, (ev_g rfl hg), trivial⟩ (fun w hw => impl_areBelow_ok w 100000 vwk wk ((ri_arg hwk) w hw) (by have hgf := (of_decide_eq_true (not_f (not_t hg))); first | assumption | omega | (have hq := hgf.n6; omega) | (have hq := hgf.1.n6; omega) | grind) (by have hgf := (of_decide_eq_true (not_f (not_t hg))); first | assumption | omega | (have hq := hgf.n6; omega) | (have hq := hgf.1.n6; omega) | grind))) rfl rfl ?_
  refine TL.opw (w_f rfl rfl rfl) (fun hg => yq (y_not (ev_g rfl hg))) rfl rfl ?_
  refine TL.op (yq (y_or (ev_t rfl) (fun hq => (ev_g rfl hq)))) rfl rfl rfl ?_
  refine TL.nil ?_
  refine TN.seq ?_
  refine TC.cond (b := ((!decide ((wk.length : Int) = (xc1.length : Int))) || (!(F_impl_areBelow 100000 wk)))) (ev_t rfl) (fun h33 => ?_) (fun h33 => ?_)
  · rw [bif_pos h33] at hF
    have q34 := ((or_t h33).imp (fun h => (of_decide_eq_false (not_t h))) (fun h => (not_t h)))
    refine TC.seq ?_
    refine TC.region ?_
    refine TL.op (yq (y_assign ev_c)) rfl rfl rfl ?_
    refine TL.nil ?_
    refine TN.seq ?_
    refine TC.ret ?_
    refine TN.thenR ?_
    subst hF
    exact TN.ret1 rfl (ev_t rfl) (fun w' hw => ⟨rfl, hw⟩)
  · rw [bif_neg h33] at hF
    have q34 := (and_imp (or_f h33) (fun h => (of_decide_eq_true (not_f h))) (fun h => (areBelow_t (not_f h))))
    have hwe := q34.2
    refine TC.skip ?_
    refine TN.seq ?_
    refine TC.seq ?_
    refine TC.seq ?_
    refine TC.region ?_
    refine TL.op (yq (y_move (ev_t rfl))) rfl rfl rfl ?_
    refine TL.op (yq (y_len (ev_t rfl) Try.underlying25 (fun w hw => ((ri_arg hwk) w hw).ln))) rfl rfl rfl ?_
    refine TL.op (yq (y_move ev_c)) rfl rfl rfl ?_
    refine TL.nil ?_
    refine TN.seq ?_
    refine TC.block ?_
    obtain ⟨c35, hc36⟩ : ∃ c, F_impl_works_isWork_L1 xc2 wk ((wk.length - 0) + 1) 0 = c := ⟨_, rfl⟩
    rw [hc36] at hF
    refine TC.loop (ι := Nat × Nat) (fun (fu1, k24_1) => [(0, (.pointer (some ⟨gx, 0, none⟩))), (1, vwk), (22, vwk), (23, (.int .i64 (wk.length : Int))), (24, (.int .i64 (k24_1 : Int)))]) (fun (fu1, k24_1) => Hp w []) (fun (fu1, k24_1) => (k24_1 ≤ wk.length) ∧ wk.length - k24_1 < fu1 ∧ F_impl_works_isWork_L1 xc2 wk fu1 k24_1 = c35) (fun (fu1, k24_1) => fu1) ((wk.length - 0) + 1, 0) ⟨(by first | omega | (simp [-List.getD_eq_getElem?_getD] <;> omega)), (by omega), hc36⟩ ⟨rfl, rfl, rfl, rfl, rfl, trivial⟩ (fun w hw => hw) ?_
    rintro ⟨fu1, k24_1⟩ hJ1
    obtain ⟨hi1_0, hmu1, hL1⟩ : (k24_1 ≤ wk.length) ∧ wk.length - k24_1 < fu1 ∧ F_impl_works_isWork_L1 xc2 wk fu1 k24_1 = c35 := hJ1
    change TC _ _ _ _ (Hp w []) [(0, (.pointer (some ⟨gx, 0, none⟩))), (1, vwk), (22, vwk), (23, (.int .i64 (wk.length : Int))), (24, (.int .i64 (k24_1 : Int)))]
    obtain ⟨mf1, rfl⟩ : ∃ m, fu1 = m + 1 := ⟨fu1 - 1, by omega⟩
    rw [F_impl_works_isWork_L1_s] at hL1
    have hwr := hp0.row k24_1
    have hwe1 := hwe k24_1
    refine TC.seq ?_
    refine TC.region ?_
    refine TL.op (yq (y_lss (ev_t rfl) (ev_t rfl))) rfl rfl rfl ?_
    refine TL.nil ?_
    refine TN.seq ?_
    refine TC.seq ?_
    refine TC.cond (b := decide ((k24_1 : Int) < (wk.length : Int))) (ev_t rfl) (fun h37 => ?_) (fun h37 => ?_)
    · rw [bif_pos h37] at hL1
      have q38 := (of_decide_eq_true h37)
      refine TC.skip ?_
      refine TN.seq ?_
      refine TC.seq ?_
      refine TC.block ?_
      refine TC.seq ?_
      refine TC.region ?_
      refine TL.op (yq (y_move (ev_t rfl))) rfl rfl rfl ?_
      have hb39 : k24_1 < wk.length := (by first | omega | (simp only [List.length_set, List.length_append, List.length_cons, List.length_nil, List.length_replicate]; omega) | (rw [sortI_length]; simp only [List.length_cons, List.length_nil]; omega))
      refine TL.op (yq (y_idx (k := k24_1) (ev_t rfl) (ev_t rfl) (by first | omega | simp) slT_25 (ri_arg hwk) hb39)) rfl rfl rfl ?_
      refine TL.op (yq (y_ldi (ev_t rfl) one_3 (ri_arg hwk) hb39)) rfl rfl rfl ?_
      refine TL.op (yq (y_assign (ev_t rfl))) rfl rfl rfl ?_
      refine TL.op (yq (y_assign (ev_t rfl))) rfl rfl rfl ?_
      refine TL.nil ?_
      refine TN.seq ?_
      refine TC.seq ?_
      refine TC.region ?_
      refine TL.op (yq (y_move (ev_t rfl))) rfl rfl rfl ?_
      refine TL.op (yq (y_len (ev_t rfl) Try.underlying25 (fun w hw => ((ri_arg hwk) w hw).ln))) rfl rfl rfl ?_
      refine TL.op (yq (y_move ev_c)) rfl rfl rfl ?_
      refine TL.nil ?_
      refine TN.seq ?_
      refine TC.block ?_
      obtain ⟨c40, hc41⟩ : ∃ c, F_impl_works_isWork_L2 xc2 wk k24_1 ((wk.length - 0) + 1) 0 = c := ⟨_, rfl⟩
      rw [hc41] at hL1
      refine TC.loop (ι := Nat × Nat) (fun (fu2, k31_2) => [(0, (.pointer (some ⟨gx, 0, none⟩))), (1, vwk), (5, (.int .i64 (k24_1 : Int))), (6, (.int .i64 (wk.getD k24_1 0))), (22, vwk), (23, (.int .i64 (wk.length : Int))), (24, (.int .i64 (k24_1 : Int))), (29, vwk), (30, (.int .i64 (wk.length : Int))), (31, (.int .i64 (k31_2 : Int)))]) (fun (fu2, k31_2) => Hp w []) (fun (fu2, k31_2) => (k31_2 ≤ wk.length) ∧ wk.length - k31_2 < fu2 ∧ F_impl_works_isWork_L2 xc2 wk k24_1 fu2 k31_2 = c40) (fun (fu2, k31_2) => fu2) ((wk.length - 0) + 1, 0) ⟨(by first | omega | (simp [-List.getD_eq_getElem?_getD] <;> omega)), (by omega), hc41⟩ ⟨rfl, rfl, rfl, rfl, rfl, rfl, rfl, rfl, rfl, rfl, trivial⟩ (fun w hw => hw) ?_
      rintro ⟨fu2, k31_2⟩ hJ2
      obtain ⟨hi2_0, hmu2, hL2⟩ : (k31_2 ≤ wk.length) ∧ wk.length - k31_2 < fu2 ∧ F_impl_works_isWork_L2 xc2 wk k24_1 fu2 k31_2 = c40 := hJ2
      change TC _ _ _ _ (Hp w []) [(0, (.pointer (some ⟨gx, 0, none⟩))), (1, vwk), (5, (.int .i64 (k24_1 : Int))), (6, (.int .i64 (wk.getD k24_1 0))), (22, vwk), (23, (.int .i64 (wk.length : Int))), (24, (.int .i64 (k24_1 : Int))), (29, vwk), (30, (.int .i64 (wk.length : Int))), (31, (.int .i64 (k31_2 : Int)))]
      obtain ⟨mf2, rfl⟩ : ∃ m, fu2 = m + 1 := ⟨fu2 - 1, by omega⟩
      rw [F_impl_works_isWork_L2_s] at hL2
      have hwe2 := hwe k31_2
      refine TC.seq ?_
      refine TC.region ?_
      refine TL.op (yq (y_lss (ev_t rfl) (ev_t rfl))) rfl rfl rfl ?_
      refine TL.nil ?_
      refine TN.seq ?_
      refine TC.seq ?_
      refine TC.cond (b := decide ((k31_2 : Int) < (wk.length : Int))) (ev_t rfl) (fun h42 => ?_) (fun h42 => ?_)
      · rw [bif_pos h42] at hL2
        have q43 := (of_decide_eq_true h42)
        refine TC.skip ?_
        refine TN.seq ?_
        refine TC.seq ?_
        refine TC.block ?_
        refine TC.seq ?_
        refine TC.region ?_
        refine TL.op (yq (y_move (ev_t rfl))) rfl rfl rfl ?_
        have hb44 : k31_2 < wk.length := (by first | omega | (simp only [List.length_set, List.length_append, List.length_cons, List.length_nil, List.length_replicate]; omega) | (rw [sortI_length]; simp only [List.length_cons, List.length_nil]; omega))
        refine TL.op (yq (y_idx (k := k31_2) (ev_t rfl) (ev_t rfl) (by first | omega | simp) slT_25 (ri_arg hwk) hb44)) rfl rfl rfl ?_
        refine TL.op (yq (y_ldi (ev_t rfl) one_3 (ri_arg hwk) hb44)) rfl rfl rfl ?_
        refine TL.op (yq (y_assign (ev_t rfl))) rfl rfl rfl ?_
        refine TL.op (yq (y_assign (ev_t rfl))) rfl rfl rfl ?_
        refine TL.nil ?_
        refine TN.seq ?_
        refine TC.seq ?_
        refine TC.region ?_
        refine TL.op (yq (y_move (ev_t rfl))) rfl rfl rfl ?_
        refine TL.op (yq (y_move (ev_t rfl))) rfl rfl rfl ?_
        refine TL.op (yq (y_sub (ev_t rfl) (ev_t rfl) (by unfold In64; omega))) rfl rfl rfl ?_
        refine TL.op (yq (y_move (ev_t rfl))) rfl rfl rfl ?_
        refine TL.op (yq (y_nilp (ev_t rfl))) rfl rfl rfl ?_
        refine TL.op (yq (y_fa (fa_70_2 gx) (ev_t rfl))) rfl rfl rfl ?_
        refine TL.op (yq (y_ldk (ev_t rfl) one_22 hx rfl)) rfl rfl rfl ?_
        refine TL.op (yq (y_move (ev_t rfl))) rfl rfl rfl ?_
        have hb45 : k24_1 < xc2.length := (by first | omega | (simp only [List.length_set, List.length_append, List.length_cons, List.length_nil, List.length_replicate]; omega) | (rw [sortI_length]; simp only [List.length_cons, List.length_nil]; omega))
        refine TL.op (yq (y_idx (k := k24_1) (ev_t rfl) (ev_t rfl) (by first | omega | simp) slT_22 (fun w hw => ((rii_arg hrx2) w hw).1) hb45)) rfl rfl rfl ?_
        have ha46 := hrx2.row (i := k24_1) hb45
        refine TL.op (yq (y_ldA (ev_t rfl) one_25 (rii_arg hrx2) hb45)) rfl rfl rfl ?_
        refine TL.op (yq (y_move (ev_t rfl))) rfl rfl rfl ?_
        have hb47 : k31_2 < (xc2.getD k24_1 []).length := (by first | omega | (simp only [List.length_set, List.length_append, List.length_cons, List.length_nil, List.length_replicate]; omega) | (rw [sortI_length]; simp only [List.length_cons, List.length_nil]; omega))
        refine TL.op (yq (y_idx (k := k31_2) (ev_t rfl) (ev_t rfl) (by first | omega | simp) slT_25 (ri_arg ha46) hb47)) rfl rfl rfl ?_
        refine TL.op (yq (y_ldi (ev_t rfl) one_3 (ri_arg ha46) hb47)) rfl rfl rfl ?_
        refine TL.op (yq (y_gtr (ev_t rfl) (ev_t rfl))) rfl rfl rfl ?_
        refine TL.nil ?_
        refine TN.seq ?_
        refine TC.cond (b := decide (((xc2.getD k24_1 []).getD k31_2 0) < (wk.getD k24_1 0) - (wk.getD k31_2 0))) (ev_t rfl) (fun h48 => ?_) (fun h48 => ?_)
        · rw [bif_pos h48] at hL2
          have q49 := (of_decide_eq_true h48)
          refine TC.seq ?_
          refine TC.region ?_
          refine TL.op (yq (y_assign ev_c)) rfl rfl rfl ?_
          refine TL.nil ?_
          refine TN.seq ?_
          refine TC.ret ?_
          refine TN.blockR ?_
          refine TN.thenR ?_
          refine TN.thenR ?_
          rw [← hL2, elim_ret] at hL1
          refine TN.blockR ?_
          refine TN.blockR ?_
          refine TN.thenR ?_
          refine TN.thenR ?_
          rw [← hL1, elim_ret] at hF
          refine TN.blockR ?_
          refine TN.thenR ?_
          subst hF
          exact TN.ret1 rfl (ev_t rfl) (fun w' hw => ⟨rfl, hw⟩)
        · rw [bif_neg h48] at hL2
          have q49 := (of_decide_eq_false h48)
          refine TC.skip ?_
          refine TN.blockN ?_
          refine TN.seq ?_
          refine TC.region ?_
          refine TL.op (yq (y_add (ev_t rfl) ev_c (by unfold In64; omega))) rfl rfl rfl ?_
          refine TL.op (yq (y_move (ev_t rfl))) rfl rfl rfl ?_
          refine TL.nil ?_
          exact TN.hand (mf2, (k31_2 + 1)) ⟨(by first | omega | (simp [-List.getD_eq_getElem?_getD] <;> omega)), (by omega), hL2⟩ (Nat.lt_succ_self _) ⟨rfl, rfl, rfl, rfl, rfl, rfl, rfl, rfl, rfl, rfl, trivial⟩ (fun w hw => hw)
      · rw [bif_neg h42] at hL2
        have q43 := (of_decide_eq_false h42)
        refine TC.exit ?_
        refine TN.thenE ?_
        refine TN.thenE ?_
        rw [← hL2, elim_next] at hL1
        try dsimp only at hL1
        refine TN.blockH ?_
        refine TN.blockN ?_
        refine TN.seq ?_
        refine TC.region ?_
        refine TL.op (yq (y_add (ev_t rfl) ev_c (by unfold In64; omega))) rfl rfl rfl ?_
        refine TL.op (yq (y_move (ev_t rfl))) rfl rfl rfl ?_
        refine TL.nil ?_
        exact TN.hand (mf1, (k24_1 + 1)) ⟨(by first | omega | (simp [-List.getD_eq_getElem?_getD] <;> omega)), (by omega), hL1⟩ (Nat.lt_succ_self _) ⟨rfl, rfl, rfl, rfl, rfl, trivial⟩ (fun w hw => hw)
    · rw [bif_neg h37] at hL1
      have q38 := (of_decide_eq_false h37)
      refine TC.exit ?_
      refine TN.thenE ?_
      refine TN.thenE ?_
      rw [← hL1, elim_next] at hF
      try dsimp only at hF
      refine TN.blockH ?_
      refine TN.seq ?_
      refine TC.seq ?_
      refine TC.region ?_
      refine TL.op (yq (y_assign ev_c)) rfl rfl rfl ?_
      refine TL.nil ?_
      refine TN.seq ?_
      refine TC.ret ?_
      subst hF
      exact TN.ret1 rfl (ev_t rfl) (fun w' hw => ⟨rfl, hw⟩)

set_option maxRecDepth 4000 in
set_option maxHeartbeats 1000000 in
theorem impl_isKs_ok (w : World) (vm : Value) (um : List Value) (m : List (List Int)) (hm : RII w vm um m) (k : Int)  :
    Calls Try.prog 55 ([(.agg #[vm]), (.int .i64 k)] : List Value).toArray w (Ret (.bool (F_impl_isKs m k)) (Hp w [])) := by
  obtain ⟨rz, hF⟩ : ∃ rz, (F_impl_isKs m k) = rz := ⟨_, rfl⟩
  rw [hF]
  unfold F_impl_isKs at hF
  have hlen_m := argT_len hm
  refine calls_tc Try.func55 rfl rfl rfl ?_
  change TC _ _ _ _ (Hp w []) [(0, (.agg #[vm])), (1, (.int .i64 k))]
  refine TC.seq ?_
  refine TC.region ?_
  refine TL.box (ev_t rfl) rfl (fun g0_0 => ?_)
  refine TL.op (yq (y_assign ev_c)) rfl rfl rfl ?_
  refine TL.nil ?_
  refine TN.seq ?_
  refine TC.seq ?_
  refine TC.region ?_
  refine TL.op (yq (y_ldagg (cs := [vm]) 0 (ev_t rfl) agg_29 rfl)) rfl rfl rfl ?_
  refine TL.op (y_call (vs := [(.agg #[vm])]) (v := (.bool (F_impl_IsMetric m))) en_77 ⟨(ev_t rfl), trivial⟩ (fun w hw => impl_IsMetric_ok w vm um m ((rii_arg hm) w hw))) rfl rfl rfl ?_
  refine TL.op (yq (y_move (ev_t rfl))) rfl rfl rfl ?_
  refine TL.opw (w_t rfl rfl rfl) (fun hg => yq (y_move (ev_t rfl))) rfl rfl ?_
  refine TL.opw (w_t rfl rfl rfl) (fun hg => y_call (vs := [(.int .i64 k)]) (v := (.bool ((decide (1 ≤ k)) && (decide (k ≤ 3))))) en_98 ⟨(ev_g rfl hg), trivial⟩ (fun w hw => impl_isServers_ok w k)) rfl rfl ?_
  refine TL.op (yq (y_and (ev_t rfl) (fun hq => (ev_g rfl hq)))) rfl rfl rfl ?_
  refine TL.op (yq (y_assign (ev_t rfl))) rfl rfl rfl ?_
  refine TL.nil ?_
  refine TN.seq ?_
  refine TC.ret ?_
  subst hF
  exact TN.ret1 rfl (ev_t rfl) (fun w' hw => ⟨rfl, Hp.sublist hw (List.nil_sublist _)⟩)

set_option maxRecDepth 4000 in
set_option maxHeartbeats 1000000 in
theorem impl_worksFor_ok (w : World) (vm : Value) (um : List Value) (m : List (List Int)) (hm : RII w vm um m) (k : Int) (vwk : Value) (wk : List Int) (hwk : RI w vwk wk)  :
    Calls Try.prog 60 ([(.agg #[vm]), (.int .i64 k), vwk] : List Value).toArray w (fun e w' => ∃ i : Nat × Value × Value × List Value × Value × List Value, e = .returned (.tuple #[(wptr ((F_impl_worksFor m k wk).1) i.1), (.bool ((F_impl_worksFor m k wk).2.2.2))]) ∧ Hp w [wblk ((F_impl_worksFor m k wk).1) i.1 70 [i.2.1, i.2.2.1, i.2.2.2.2.1], tabI 25 3 i.2.2.1 i.2.2.2.1 ((F_impl_worksFor m k wk).2.1), tabI 25 3 i.2.2.2.2.1 i.2.2.2.2.2 ((F_impl_worksFor m k wk).2.2.1)] w') := by
  obtain ⟨rz, hF⟩ : ∃ rz, (F_impl_worksFor m k wk) = rz := ⟨_, rfl⟩
  rw [hF]
  unfold F_impl_worksFor at hF
  have hlen_m := argT_len hm
  have hlen_wk := arg_len hwk
  refine calls_tc Try.func60 rfl rfl rfl ?_
  change TC _ _ _ _ (Hp w []) [(0, (.agg #[vm])), (1, (.int .i64 k)), (2, vwk)]
  refine TC.seq ?_
  refine TC.region ?_
  refine TL.box (ev_t rfl) rfl (fun g0_0 => ?_)
  refine TL.op (yq (y_assign ev_c)) rfl rfl rfl ?_
  refine TL.op (yq (y_assign ev_c)) rfl rfl rfl ?_
  refine TL.nil ?_
  refine TN.seq ?_
  refine TC.seq ?_
  refine TC.seq ?_
  refine TC.region ?_
  refine TL.op (yq (y_ldagg (cs := [vm]) 0 (ev_t rfl) agg_29 rfl)) rfl rfl rfl ?_
  refine TL.op (yq (y_move (ev_t rfl))) rfl rfl rfl ?_
  refine TL.op (y_call (vs := [(.agg #[vm]), (.int .i64 k)]) (v := (.bool (F_impl_isKs m k))) en_55 ⟨(ev_t rfl), (ev_t rfl), trivial⟩ (fun w hw => impl_isKs_ok w vm um m ((rii_arg hm) w hw) k)) rfl rfl rfl ?_
  refine TL.op (yq (y_not (ev_t rfl))) rfl rfl rfl ?_
  refine TL.nil ?_
  refine TN.seq ?_
  refine TC.cond (b := !(F_impl_isKs m k)) (ev_t rfl) (fun h3 => ?_) (fun h3 => ?_)
  · rw [bif_pos h3] at hF
    have q4 := (not_t h3)
    refine TC.seq ?_
    refine TC.region ?_
    refine TL.op (yq (y_assign ev_c)) rfl rfl rfl ?_
    refine TL.op (yq (y_assign ev_c)) rfl rfl rfl ?_
    refine TL.nil ?_
    refine TN.seq ?_
    refine TC.ret ?_
    refine TN.thenR ?_
    subst hF
    refine TN.cls (fun w hw => hw.nil 0 1) ?_
    refine TN.cls (fun w hw => hw.nilTab 25 3) ?_
    refine TN.cls (fun w hw => hw.nilTab 25 3) ?_
    exact TN.ret2 rfl (ev_t rfl) (ev_t rfl) (fun w' hw => ⟨(0, (.slice none 0 0), (.slice none 0 0), [], (.slice none 0 0), []), rfl, Hp.picks [2, 1, 0] (by decide) rfl hw⟩)
  · rw [bif_neg h3] at hF
    have q4 := (isKs_t (not_f h3))
    have hKs := q4
    have hWd := hKs.wd
    refine TC.skip ?_
    refine TN.seq ?_
    refine TC.seq ?_
    refine TC.region ?_
    refine TL.op (yq (y_ldagg (cs := [vm]) 0 (ev_t rfl) agg_29 rfl)) rfl rfl rfl ?_
    refine TL.op (yq (y_move (ev_t rfl))) rfl rfl rfl ?_
    refine TL.callr (ι := Nat × Value × Value × List Value × Value × List Value) (vs := [(.agg #[vm]), (.int .i64 k)]) (fun i => (.pointer (some ⟨i.1, 0, none⟩))) (fun i => [.blk i.1 70 [i.2.1, i.2.2.1, i.2.2.2.2.1], tabI 25 3 i.2.2.1 i.2.2.2.1 ((F_impl_worksOf m k).1), tabI 25 3 i.2.2.2.2.1 i.2.2.2.2.2 ((F_impl_worksOf m k).2)]) en_56 ⟨(ev_t rfl), (ev_t rfl), trivial⟩ rfl (fun w hw => impl_worksOf_ok w vm um m ((rii_arg hm) w hw) k (by first | assumption | omega | grind)) (fun r3_2 => ?_)
    refine TL.op (yq (y_assign (ev_t rfl))) rfl rfl rfl ?_
    refine TL.nil ?_
    refine TN.seq ?_
    refine TC.seq ?_
    refine TC.region ?_
    refine TL.op (yq (y_move (ev_t rfl))) rfl rfl rfl ?_
    refine TL.op (yq (y_move (ev_t rfl))) rfl rfl rfl ?_
    refine TL.op (yq (y_move (ev_t rfl))) rfl rfl rfl ?_
    refine TL.op (y_call (vs := [(.pointer (some ⟨r3_2.1, 0, none⟩)), vwk]) (v := (.bool (F_impl_works_isWork ((F_impl_worksOf m k).1) ((F_impl_worksOf m k).2) wk))) en_57 ⟨(ev_t rfl), (ev_t rfl), trivial⟩ (fun w hw => impl_works_isWork_ok w r3_2.1 r3_2.2.1 r3_2.2.2.1 r3_2.2.2.2.1 ((F_impl_worksOf m k).1) r3_2.2.2.2.2.1 r3_2.2.2.2.2.2 ((F_impl_worksOf m k).2) (blk_at 0 rfl hw) ((rii_tab 1 rfl) w hw) ((rii_tab 2 rfl) w hw) vwk wk ((ri_arg hwk) w hw) (by first | assumption | omega | grind))) rfl rfl rfl ?_
    refine TL.op (yq (y_assign (ev_t rfl))) rfl rfl rfl ?_
    refine TL.op (yq (y_assign (ev_t rfl))) rfl rfl rfl ?_
    refine TL.nil ?_
    refine TN.seq ?_
    refine TC.ret ?_
    subst hF
    exact TN.ret2 rfl (ev_t rfl) (ev_t rfl) (fun w' hw => ⟨(r3_2.1, r3_2.2.1, r3_2.2.2.1, r3_2.2.2.2.1, r3_2.2.2.2.2.1, r3_2.2.2.2.2.2), rfl, Hp.sublist hw (.cons_cons _ (.cons_cons _ (.cons_cons _ (.cons _ .slnil))))⟩)

set_option maxRecDepth 4000 in
set_option maxHeartbeats 1000000 in
theorem impl_IsWork_ok (w : World) (vm : Value) (um : List Value) (m : List (List Int)) (hm : RII w vm um m) (k : Int) (vwk : Value) (wk : List Int) (hwk : RI w vwk wk)  :
    Calls Try.prog 19 ([(.agg #[vm]), (.int .i64 k), vwk] : List Value).toArray w (Ret (.tuple #[(.bool ((F_impl_IsWork m k wk).1)), (.bool ((F_impl_IsWork m k wk).2))]) (Hp w [])) := by
  obtain ⟨rz, hF⟩ : ∃ rz, (F_impl_IsWork m k wk) = rz := ⟨_, rfl⟩
  rw [hF]
  unfold F_impl_IsWork at hF
  have hlen_m := argT_len hm
  have hlen_wk := arg_len hwk
  refine calls_tc Try.func19 rfl rfl rfl ?_
  change TC _ _ _ _ (Hp w []) [(0, (.agg #[vm])), (1, (.int .i64 k)), (2, vwk)]
  refine TC.seq ?_
  refine TC.region ?_
  refine TL.box (ev_t rfl) rfl (fun g0_0 => ?_)
  refine TL.op (yq (y_assign ev_c)) rfl rfl rfl ?_
  refine TL.op (yq (y_assign ev_c)) rfl rfl rfl ?_
  refine TL.nil ?_
  refine TN.seq ?_
  refine TC.seq ?_
  refine TC.seq ?_
  refine TC.region ?_
  refine TL.op (yq (y_ldagg (cs := [vm]) 0 (ev_t rfl) agg_29 rfl)) rfl rfl rfl ?_
  refine TL.op (yq (y_move (ev_t rfl))) rfl rfl rfl ?_
  refine TL.op (y_call (vs := [(.agg #[vm]), (.int .i64 k)]) (v := (.bool (F_impl_isKs m k))) en_55 ⟨(ev_t rfl), (ev_t rfl), trivial⟩ (fun w hw => impl_isKs_ok w vm um m ((rii_arg hm) w hw) k)) rfl rfl rfl ?_
  refine TL.op (yq (y_not (ev_t rfl))) rfl rfl rfl ?_
  refine TL.nil ?_
  refine TN.seq ?_
  refine TC.cond (b := !(F_impl_isKs m k)) (ev_t rfl) (fun h3 => ?_) (fun h3 => ?_)
  · rw [bif_pos h3] at hF
    have q4 := (not_t h3)
    refine TC.seq ?_
    refine TC.region ?_
    refine TL.op (yq (y_assign ev_c)) rfl rfl rfl ?_
    refine TL.op (yq (y_assign ev_c)) rfl rfl rfl ?_
    refine TL.nil ?_
    refine TN.seq ?_
    refine TC.ret ?_
    refine TN.thenR ?_
    subst hF
    exact TN.ret2 rfl (ev_t rfl) (ev_t rfl) (fun w' hw => ⟨rfl, Hp.sublist hw (List.nil_sublist _)⟩)
  · rw [bif_neg h3] at hF
    have q4 := (isKs_t (not_f h3))
    have hKs := q4
    have hWd := hKs.wd
    refine TC.skip ?_
    refine TN.seq ?_
    refine TC.seq ?_
    refine TC.region ?_
    refine TL.op (yq (y_ldagg (cs := [vm]) 0 (ev_t rfl) agg_29 rfl)) rfl rfl rfl ?_
    refine TL.op (yq (y_move (ev_t rfl))) rfl rfl rfl ?_
    refine TL.callr (ι := Nat × Value × Value × List Value × Value × List Value) (vs := [(.agg #[vm]), (.int .i64 k)]) (fun i => (.pointer (some ⟨i.1, 0, none⟩))) (fun i => [.blk i.1 70 [i.2.1, i.2.2.1, i.2.2.2.2.1], tabI 25 3 i.2.2.1 i.2.2.2.1 ((F_impl_worksOf m k).1), tabI 25 3 i.2.2.2.2.1 i.2.2.2.2.2 ((F_impl_worksOf m k).2)]) en_56 ⟨(ev_t rfl), (ev_t rfl), trivial⟩ rfl (fun w hw => impl_worksOf_ok w vm um m ((rii_arg hm) w hw) k (by first | assumption | omega | grind)) (fun r3_2 => ?_)
    refine TL.op (yq (y_move (ev_t rfl))) rfl rfl rfl ?_
    refine TL.op (y_call (vs := [(.pointer (some ⟨r3_2.1, 0, none⟩)), vwk]) (v := (.bool (F_impl_works_isWork ((F_impl_worksOf m k).1) ((F_impl_worksOf m k).2) wk))) en_57 ⟨(ev_t rfl), (ev_t rfl), trivial⟩ (fun w hw => impl_works_isWork_ok w r3_2.1 r3_2.2.1 r3_2.2.2.1 r3_2.2.2.2.1 ((F_impl_worksOf m k).1) r3_2.2.2.2.2.1 r3_2.2.2.2.2.2 ((F_impl_worksOf m k).2) (blk_at 0 rfl hw) ((rii_tab 1 rfl) w hw) ((rii_tab 2 rfl) w hw) vwk wk ((ri_arg hwk) w hw) (by first | assumption | omega | grind))) rfl rfl rfl ?_
    refine TL.op (yq (y_assign (ev_t rfl))) rfl rfl rfl ?_
    refine TL.op (yq (y_assign ev_c)) rfl rfl rfl ?_
    refine TL.nil ?_
    refine TN.seq ?_
    refine TC.ret ?_
    subst hF
    exact TN.ret2 rfl (ev_t rfl) (ev_t rfl) (fun w' hw => ⟨rfl, Hp.sublist hw (List.nil_sublist _)⟩)

set_option maxRecDepth 4000 in
set_option maxHeartbeats 1000000 in
theorem spec_l7Asked_ok (w : World) (vm : Value) (um : List Value) (m : List (List Int)) (hm : RII w vm um m) (k : Int)  :
    Calls Try.prog 52 ([(.agg #[vm]), (.int .i64 k)] : List Value).toArray w (Ret (.bool (F_spec_l7Asked m k)) (Hp w [])) := by
  obtain ⟨rz, hF⟩ : ∃ rz, (F_spec_l7Asked m k) = rz := ⟨_, rfl⟩
  rw [hF]
  unfold F_spec_l7Asked at hF
  have hlen_m := argT_len hm
  refine calls_tc Try.func52 rfl rfl rfl ?_
  change TC _ _ _ _ (Hp w []) [(0, (.agg #[vm])), (1, (.int .i64 k))]
  refine TC.seq ?_
  refine TC.region ?_
  refine TL.box (ev_t rfl) rfl (fun g0_0 => ?_)
  refine TL.op (yq (y_assign ev_c)) rfl rfl rfl ?_
  refine TL.nil ?_
  refine TN.seq ?_
  refine TC.seq ?_
  refine TC.region ?_
  refine TL.op (yq (y_ldagg (cs := [vm]) 0 (ev_t rfl) agg_29 rfl)) rfl rfl rfl ?_
  refine TL.op (y_call (vs := [(.agg #[vm])]) (v := (.bool (F_spec_l6Good m))) en_64 ⟨(ev_t rfl), trivial⟩ (fun w hw => spec_l6Good_ok w vm um m ((rii_arg hm) w hw))) rfl rfl rfl ?_
  refine TL.op (yq (y_move (ev_t rfl))) rfl rfl rfl ?_
  refine TL.opw (w_t rfl rfl rfl) (fun hg => yq (y_move (ev_t rfl))) rfl rfl ?_
  refine TL.opw (w_t rfl rfl rfl) (fun hg => y_call (vs := [(.int .i64 k), (.int .i64 1), (.int .i64 3)]) (v := (.bool ((decide (1 ≤ k)) && (decide (k ≤ 3))))) en_96 ⟨(ev_g rfl hg), ev_c, ev_c, trivial⟩ (fun w hw => spec_l1In_ok w k 1 3)) rfl rfl ?_
  refine TL.op (yq (y_and (ev_t rfl) (fun hq => (ev_g rfl hq)))) rfl rfl rfl ?_
  refine TL.op (yq (y_assign (ev_t rfl))) rfl rfl rfl ?_
  refine TL.nil ?_
  refine TN.seq ?_
  refine TC.ret ?_
  subst hF
  exact TN.ret1 rfl (ev_t rfl) (fun w' hw => ⟨rfl, Hp.sublist hw (List.nil_sublist _)⟩)

set_option maxRecDepth 4000 in
set_option maxHeartbeats 1000000 in
theorem spec_l7Work_ok (w : World) (vm : Value) (um : List Value) (m : List (List Int)) (hm : RII w vm um m) (vconfigs : Value) (uconfigs : List Value) (configs : List (List Int)) (hconfigs : RII w vconfigs uconfigs configs) (vwk : Value) (wk : List Int) (hwk : RI w vwk wk) (hp0 : Ksc m configs) :
    Calls Try.prog 53 ([(.agg #[vm]), vconfigs, vwk] : List Value).toArray w (Ret (.bool (F_spec_l7Work m configs wk)) (Hp w [])) := by
  obtain ⟨rz, hF⟩ : ∃ rz, (F_spec_l7Work m configs wk) = rz := ⟨_, rfl⟩
  rw [hF]
  unfold F_spec_l7Work at hF
  have hTab := hp0.tab
  have hn56 := hp0.n56
  have hlen_m := argT_len hm
  have hlen_configs := argT_len hconfigs
  have hlen_wk := arg_len hwk
  refine calls_tc Try.func53 rfl rfl rfl ?_
  change TC _ _ _ _ (Hp w []) [(0, (.agg #[vm])), (1, vconfigs), (2, vwk)]
  refine TC.seq ?_
  refine TC.region ?_
  refine TL.box (ev_t rfl) rfl (fun g0_0 => ?_)
  refine TL.op (yq (y_assign ev_c)) rfl rfl rfl ?_
  refine TL.nil ?_
  refine TN.seq ?_
  refine TC.seq ?_
  refine TC.seq ?_
  refine TC.region ?_
  refine TL.op (yq (y_move (ev_t rfl))) rfl rfl rfl ?_
  refine TL.op (yq (y_len (ev_t rfl) Try.underlying25 (fun w hw => ((ri_arg hwk) w hw).ln))) rfl rfl rfl ?_
  refine TL.op (yq (y_move (ev_t rfl))) rfl rfl rfl ?_
  refine TL.op (yq (y_len (ev_t rfl) Try.underlying22 (fun w hw => ((fun w hw => ((rii_arg hconfigs) w hw).1) w hw).ln))) rfl rfl rfl ?_
  refine TL.op (yq (y_neq (ev_t rfl) (ev_t rfl))) rfl rfl rfl ?_
  refine TL.nil ?_
  refine TN.seq ?_
  refine TC.cond (b := !decide ((wk.length : Int) = (configs.length : Int))) (ev_t rfl) (fun h53 => ?_) (fun h53 => ?_)
  · rw [bif_pos h53] at hF
    have q54 := (of_decide_eq_false (not_t h53))
    refine TC.seq ?_
    refine TC.region ?_
    refine TL.op (yq (y_assign ev_c)) rfl rfl rfl ?_
    refine TL.nil ?_
    refine TN.seq ?_
    refine TC.ret ?_
    refine TN.thenR ?_
    subst hF
    exact TN.ret1 rfl (ev_t rfl) (fun w' hw => ⟨rfl, Hp.sublist hw (List.nil_sublist _)⟩)
  · rw [bif_neg h53] at hF
    have q54 := (of_decide_eq_true (not_f h53))
    refine TC.skip ?_
    refine TN.seq ?_
    refine TC.seq ?_
    refine TC.seq ?_
    refine TC.region ?_
    refine TL.op (yq (y_assign ev_c)) rfl rfl rfl ?_
    refine TL.nil ?_
    refine TN.seq ?_
    refine TC.block ?_
    obtain ⟨c55, hc56⟩ : ∃ c, F_spec_l7Work_L1 wk ((wk.length - 0) + 1) 0 = c := ⟨_, rfl⟩
    rw [hc56] at hF
    refine TC.loop (ι := Nat × Nat) (fun (fu1, k7_1) => [(1, vconfigs), (2, vwk), (3, (.pointer (some ⟨g0_0, 0, none⟩))), (7, (.int .i64 (k7_1 : Int)))]) (fun (fu1, k7_1) => Hp w [.blk g0_0 29 [vm]]) (fun (fu1, k7_1) => (k7_1 ≤ wk.length) ∧ (∀ j, j < k7_1 → 0 ≤ wk.getD j 0 ∧ wk.getD j 0 ≤ 99999) ∧ wk.length - k7_1 < fu1 ∧ F_spec_l7Work_L1 wk fu1 k7_1 = c55) (fun (fu1, k7_1) => fu1) ((wk.length - 0) + 1, 0) ⟨(by first | omega | (simp [-List.getD_eq_getElem?_getD] <;> omega)), (fun j hj => by omega), (by omega), hc56⟩ ⟨rfl, rfl, rfl, rfl, trivial⟩ (fun w hw => hw) ?_
    rintro ⟨fu1, k7_1⟩ hJ1
    obtain ⟨hi1_0, hi1_1, hmu1, hL1⟩ : (k7_1 ≤ wk.length) ∧ (∀ j, j < k7_1 → 0 ≤ wk.getD j 0 ∧ wk.getD j 0 ≤ 99999) ∧ wk.length - k7_1 < fu1 ∧ F_spec_l7Work_L1 wk fu1 k7_1 = c55 := hJ1
    change TC _ _ _ _ (Hp w [.blk g0_0 29 [vm]]) [(1, vconfigs), (2, vwk), (3, (.pointer (some ⟨g0_0, 0, none⟩))), (7, (.int .i64 (k7_1 : Int)))]
    obtain ⟨mf1, rfl⟩ : ∃ m, fu1 = m + 1 := ⟨fu1 - 1, by omega⟩
    rw [F_spec_l7Work_L1_s] at hL1
    refine TC.seq ?_
    refine TC.seq ?_
    refine TC.region ?_
    refine TL.op (yq (y_move (ev_t rfl))) rfl rfl rfl ?_
    refine TL.op (yq (y_move (ev_t rfl))) rfl rfl rfl ?_
    refine TL.op (yq (y_len (ev_t rfl) Try.underlying25 (fun w hw => ((ri_arg hwk) w hw).ln))) rfl rfl rfl ?_
    refine TL.op (yq (y_lss (ev_t rfl) (ev_t rfl))) rfl rfl rfl ?_
    refine TL.nil ?_
    refine TN.seq ?_
    refine TC.cond (b := decide ((k7_1 : Int) < (wk.length : Int))) (ev_t rfl) (fun h57 => ?_) (fun h57 => ?_)
    · rw [bif_pos h57] at hL1
      have q58 := (of_decide_eq_true h57)
      refine TC.skip ?_
      refine TN.seq ?_
      refine TC.seq ?_
      refine TC.block ?_
      refine TC.seq ?_
      refine TC.region ?_
      refine TL.op (yq (y_move (ev_t rfl))) rfl rfl rfl ?_
      refine TL.op (yq (y_move (ev_t rfl))) rfl rfl rfl ?_
      have hb59 : k7_1 < wk.length := (by first | omega | (simp only [List.length_set, List.length_append, List.length_cons, List.length_nil, List.length_replicate]; omega) | (rw [sortI_length]; simp only [List.length_cons, List.length_nil]; omega))
      refine TL.op (yq (y_idx (k := k7_1) (ev_t rfl) (ev_t rfl) (by first | omega | simp) slT_25 (ri_arg hwk) hb59)) rfl rfl rfl ?_
      refine TL.op (yq (y_ldi (ev_t rfl) one_3 (ri_arg hwk) hb59)) rfl rfl rfl ?_
      refine TL.op (y_call (vs := [(.int .i64 (wk.getD k7_1 0)), (.int .i64 0), (.int .i64 99999)]) (v := (.bool ((decide (0 ≤ (wk.getD k7_1 0))) && (decide ((wk.getD k7_1 0) ≤ 99999))))) en_96 ⟨(ev_t rfl), ev_c, ev_c, trivial⟩ (fun w hw => spec_l1In_ok w (wk.getD k7_1 0) 0 99999)) rfl rfl rfl ?_
      refine TL.op (yq (y_not (ev_t rfl))) rfl rfl rfl ?_
      refine TL.nil ?_
      refine TN.seq ?_
      refine TC.cond (b := !((decide (0 ≤ (wk.getD k7_1 0))) && (decide ((wk.getD k7_1 0) ≤ 99999)))) (ev_t rfl) (fun h60 => ?_) (fun h60 => ?_)
      · rw [bif_pos h60] at hL1
        have q61 := ((and_f (not_t h60)).imp (fun h => (of_decide_eq_false h)) (fun h => (of_decide_eq_false h)))
        refine TC.seq ?_
        refine TC.region ?_
        refine TL.op (yq (y_assign ev_c)) rfl rfl rfl ?_
        refine TL.nil ?_
        refine TN.seq ?_
        refine TC.ret ?_
        refine TN.blockR ?_
        refine TN.thenR ?_
        refine TN.thenR ?_
        rw [← hL1, elim_ret] at hF
        refine TN.blockR ?_
        refine TN.thenR ?_
        subst hF
        exact TN.ret1 rfl (ev_t rfl) (fun w' hw => ⟨rfl, Hp.sublist hw (List.nil_sublist _)⟩)
      · rw [bif_neg h60] at hL1
        have q61 := (and_imp (and_t (not_f h60)) (fun h => (of_decide_eq_true h)) (fun h => (of_decide_eq_true h)))
        refine TC.skip ?_
        refine TN.blockN ?_
        refine TN.seq ?_
        refine TC.region ?_
        refine TL.op (yq (y_move (ev_t rfl))) rfl rfl rfl ?_
        refine TL.op (yq (y_add (ev_t rfl) ev_c (by unfold In64; omega))) rfl rfl rfl ?_
        refine TL.op (yq (y_assign (ev_t rfl))) rfl rfl rfl ?_
        refine TL.nil ?_
        exact TN.hand (mf1, (k7_1 + 1)) ⟨(by first | omega | (simp [-List.getD_eq_getElem?_getD] <;> omega)), (upto_succ hi1_1 (by omega)), (by omega), hL1⟩ (Nat.lt_succ_self _) ⟨rfl, rfl, rfl, rfl, trivial⟩ (fun w hw => hw)
    · rw [bif_neg h57] at hL1
      have q58 := (of_decide_eq_false h57)
      refine TC.exit ?_
      refine TN.thenE ?_
      refine TN.thenE ?_
      rw [← hL1, elim_next] at hF
      try dsimp only at hF
      have hwe : ∀ i, i < wk.length → 0 ≤ wk.getD i 0 ∧ wk.getD i 0 ≤ 99999 := fun i hi => hi1_1 i (by omega)
      refine TN.blockH ?_
      refine TN.seq ?_
      refine TC.seq ?_
      refine TC.seq ?_
      refine TC.region ?_
      refine TL.op (yq (y_assign ev_c)) rfl rfl rfl ?_
      refine TL.nil ?_
      refine TN.seq ?_
      refine TC.block ?_
      obtain ⟨c62, hc63⟩ : ∃ c, F_spec_l7Work_L2 m configs wk ((wk.length - 0) + 1) 0 = c := ⟨_, rfl⟩
      rw [hc63] at hF
      refine TC.loop (ι := Nat × Nat) (fun (fu2, k8_2) => [(1, vconfigs), (2, vwk), (3, (.pointer (some ⟨g0_0, 0, none⟩))), (8, (.int .i64 (k8_2 : Int)))]) (fun (fu2, k8_2) => Hp w [.blk g0_0 29 [vm]]) (fun (fu2, k8_2) => (k8_2 ≤ wk.length) ∧ wk.length - k8_2 < fu2 ∧ F_spec_l7Work_L2 m configs wk fu2 k8_2 = c62) (fun (fu2, k8_2) => fu2) ((wk.length - 0) + 1, 0) ⟨(by first | omega | (simp [-List.getD_eq_getElem?_getD] <;> omega)), (by omega), hc63⟩ ⟨rfl, rfl, rfl, rfl, trivial⟩ (fun w hw => hw) ?_
      rintro ⟨fu2, k8_2⟩ hJ2
      obtain ⟨hi2_0, hmu2, hL2⟩ : (k8_2 ≤ wk.length) ∧ wk.length - k8_2 < fu2 ∧ F_spec_l7Work_L2 m configs wk fu2 k8_2 = c62 := hJ2
      change TC _ _ _ _ (Hp w [.blk g0_0 29 [vm]]) [(1, vconfigs), (2, vwk), (3, (.pointer (some ⟨g0_0, 0, none⟩))), (8, (.int .i64 (k8_2 : Int)))]
      obtain ⟨mf2, rfl⟩ : ∃ m, fu2 = m + 1 := ⟨fu2 - 1, by omega⟩
      rw [F_spec_l7Work_L2_s] at hL2
      have hwa := hwe k8_2
      have hca := hp0.cf k8_2
      refine TC.seq ?_
      refine TC.seq ?_
      refine TC.region ?_
      refine TL.op (yq (y_move (ev_t rfl))) rfl rfl rfl ?_
      refine TL.op (yq (y_move (ev_t rfl))) rfl rfl rfl ?_
      refine TL.op (yq (y_len (ev_t rfl) Try.underlying25 (fun w hw => ((ri_arg hwk) w hw).ln))) rfl rfl rfl ?_
      refine TL.op (yq (y_lss (ev_t rfl) (ev_t rfl))) rfl rfl rfl ?_
      refine TL.nil ?_
      refine TN.seq ?_
      refine TC.cond (b := decide ((k8_2 : Int) < (wk.length : Int))) (ev_t rfl) (fun h64 => ?_) (fun h64 => ?_)
      · rw [bif_pos h64] at hL2
        have q65 := (of_decide_eq_true h64)
        refine TC.skip ?_
        refine TN.seq ?_
        refine TC.seq ?_
        refine TC.block ?_
        refine TC.seq ?_
        refine TC.region ?_
        refine TL.op (yq (y_assign ev_c)) rfl rfl rfl ?_
        refine TL.nil ?_
        refine TN.seq ?_
        refine TC.block ?_
        obtain ⟨c66, hc67⟩ : ∃ c, F_spec_l7Work_L3 m configs wk k8_2 ((k8_2 - 0) + 1) 0 = c := ⟨_, rfl⟩
        rw [hc67] at hL2
        refine TC.loop (ι := Nat × Nat) (fun (fu3, k9_3) => [(1, vconfigs), (2, vwk), (3, (.pointer (some ⟨g0_0, 0, none⟩))), (8, (.int .i64 (k8_2 : Int))), (9, (.int .i64 (k9_3 : Int)))]) (fun (fu3, k9_3) => Hp w [.blk g0_0 29 [vm]]) (fun (fu3, k9_3) => (k9_3 ≤ k8_2) ∧ k8_2 - k9_3 < fu3 ∧ F_spec_l7Work_L3 m configs wk k8_2 fu3 k9_3 = c66) (fun (fu3, k9_3) => fu3) ((k8_2 - 0) + 1, 0) ⟨(by first | omega | (simp [-List.getD_eq_getElem?_getD] <;> omega)), (by omega), hc67⟩ ⟨rfl, rfl, rfl, rfl, rfl, trivial⟩ (fun w hw => hw) ?_
        rintro ⟨fu3, k9_3⟩ hJ3
        obtain ⟨hi3_0, hmu3, hL3⟩ : (k9_3 ≤ k8_2) ∧ k8_2 - k9_3 < fu3 ∧ F_spec_l7Work_L3 m configs wk k8_2 fu3 k9_3 = c66 := hJ3
        change TC _ _ _ _ (Hp w [.blk g0_0 29 [vm]]) [(1, vconfigs), (2, vwk), (3, (.pointer (some ⟨g0_0, 0, none⟩))), (8, (.int .i64 (k8_2 : Int))), (9, (.int .i64 (k9_3 : Int)))]
        obtain ⟨mf3, rfl⟩ : ∃ m, fu3 = m + 1 := ⟨fu3 - 1, by omega⟩
        rw [F_spec_l7Work_L3_s] at hL3
        have hwb := hwe k9_3
        have hcb := hp0.cf k9_3
        have hcl := hp0.eq k8_2 k9_3
        refine TC.seq ?_
        refine TC.seq ?_
        refine TC.region ?_
        refine TL.op (yq (y_move (ev_t rfl))) rfl rfl rfl ?_
        refine TL.op (yq (y_move (ev_t rfl))) rfl rfl rfl ?_
        refine TL.op (yq (y_lss (ev_t rfl) (ev_t rfl))) rfl rfl rfl ?_
        refine TL.nil ?_
        refine TN.seq ?_
        refine TC.cond (b := decide ((k9_3 : Int) < (k8_2 : Int))) (ev_t rfl) (fun h68 => ?_) (fun h68 => ?_)
        · rw [bif_pos h68] at hL3
          have q69 := (of_decide_eq_true h68)
          refine TC.skip ?_
          refine TN.seq ?_
          refine TC.seq ?_
          refine TC.block ?_
          refine TC.seq ?_
          refine TC.regionQ (by kernel_rfl) (by kernel_rfl) dr_hp ?_
          refine TQ.op (yq (y_move (ev_t rfl))) rfl rfl rfl ?_
          refine TQ.op (yq (y_move (ev_t rfl))) rfl rfl rfl ?_
          have hb70 : k8_2 < wk.length := (by first | omega | (simp only [List.length_set, List.length_append, List.length_cons, List.length_nil, List.length_replicate]; omega) | (rw [sortI_length]; simp only [List.length_cons, List.length_nil]; omega))
          refine TQ.op (yq (y_idx (k := k8_2) (ev_t rfl) (ev_t rfl) (by first | omega | simp) slT_25 (ri_arg hwk) hb70)) rfl rfl rfl ?_
          refine TQ.op (yq (y_ldi (ev_t rfl) one_3 (ri_arg hwk) hb70)) rfl rfl rfl ?_
          refine TQ.op (yq (y_move (ev_t rfl))) rfl rfl rfl ?_
          refine TQ.op (yq (y_move (ev_t rfl))) rfl rfl rfl ?_
          have hb71 : k9_3 < wk.length := (by first | omega | (simp only [List.length_set, List.length_append, List.length_cons, List.length_nil, List.length_replicate]; omega) | (rw [sortI_length]; simp only [List.length_cons, List.length_nil]; omega))
          refine TQ.op (yq (y_idx (k := k9_3) (ev_t rfl) (ev_t rfl) (by first | omega | simp) slT_25 (ri_arg hwk) hb71)) rfl rfl rfl ?_
          refine TQ.op (yq (y_ldi (ev_t rfl) one_3 (ri_arg hwk) hb71)) rfl rfl rfl ?_
          refine TQ.op (yq (y_sub (ev_t rfl) (ev_t rfl) (by unfold In64; omega))) rfl rfl rfl ?_
          refine TQ.op (yq (y_move (ev_t rfl))) rfl rfl rfl ?_
          refine TQ.op (yq (y_move (ev_t rfl))) rfl rfl rfl ?_
          have hb72 : k9_3 < wk.length := (by first | omega | (simp only [List.length_set, List.length_append, List.length_cons, List.length_nil, List.length_replicate]; omega) | (rw [sortI_length]; simp only [List.length_cons, List.length_nil]; omega))
          refine TQ.op (yq (y_idx (k := k9_3) (ev_t rfl) (ev_t rfl) (by first | omega | simp) slT_25 (ri_arg hwk) hb72)) rfl rfl rfl ?_
          refine TQ.op (yq (y_ldi (ev_t rfl) one_3 (ri_arg hwk) hb72)) rfl rfl rfl ?_
          refine TQ.op (yq (y_move (ev_t rfl))) rfl rfl rfl ?_
          refine TQ.op (yq (y_move (ev_t rfl))) rfl rfl rfl ?_
          have hb73 : k8_2 < wk.length := (by first | omega | (simp only [List.length_set, List.length_append, List.length_cons, List.length_nil, List.length_replicate]; omega) | (rw [sortI_length]; simp only [List.length_cons, List.length_nil]; omega))
          refine TQ.op (yq (y_idx (k := k8_2) (ev_t rfl) (ev_t rfl) (by first | omega | simp) slT_25 (ri_arg hwk) hb73)) rfl rfl rfl ?_
          refine TQ.op (yq (y_ldi (ev_t rfl) one_3 (ri_arg hwk) hb73)) rfl rfl rfl ?_
          refine TQ.op (yq (y_sub (ev_t rfl) (ev_t rfl) (by unfold In64; omega))) rfl rfl rfl ?_
          refine TQ.op (y_call (vs := [(.int .i64 ((wk.getD k8_2 0) - (wk.getD k9_3 0))), (.int .i64 ((wk.getD k9_3 0) - (wk.getD k8_2 0)))]) (v := (.int .i64 (F_spec_l1Most ((wk.getD k8_2 0) - (wk.getD k9_3 0)) ((wk.getD k9_3 0) - (wk.getD k8_2 0))))) en_97 ⟨(ev_t rfl), (ev_t rfl), trivial⟩ (fun w hw => spec_l1Most_ok w ((wk.getD k8_2 0) - (wk.getD k9_3 0)) ((wk.getD k9_3 0) - (wk.getD k8_2 0)))) rfl rfl rfl ?_
          refine TQ.op (yq (y_ldagg (cs := [vm]) 0 (ev_t rfl) agg_29 rfl)) rfl rfl rfl ?_
          refine TQ.op (yq (y_move (ev_t rfl))) rfl rfl rfl ?_
          refine TQ.op (yq (y_move (ev_t rfl))) rfl rfl rfl ?_
          have hb74 : k8_2 < configs.length := (by first | omega | (simp only [List.length_set, List.length_append, List.length_cons, List.length_nil, List.length_replicate]; omega) | (rw [sortI_length]; simp only [List.length_cons, List.length_nil]; omega))
          refine TQ.op (yq (y_idx (k := k8_2) (ev_t rfl) (ev_t rfl) (by first | omega | simp) slT_22 (fun w hw => ((rii_arg hconfigs) w hw).1) hb74)) rfl rfl rfl ?_
          have ha75 := hconfigs.row (i := k8_2) hb74
          refine TQ.op (yq (y_ldA (ev_t rfl) one_25 (rii_arg hconfigs) hb74)) rfl rfl rfl ?_
          refine TQ.op (yq (y_move (ev_t rfl))) rfl rfl rfl ?_
          refine TQ.op (yq (y_move (ev_t rfl))) rfl rfl rfl ?_
          have hb76 : k9_3 < configs.length := (by first | omega | (simp only [List.length_set, List.length_append, List.length_cons, List.length_nil, List.length_replicate]; omega) | (rw [sortI_length]; simp only [List.length_cons, List.length_nil]; omega))
          refine TQ.op (yq (y_idx (k := k9_3) (ev_t rfl) (ev_t rfl) (by first | omega | simp) slT_22 (fun w hw => ((rii_arg hconfigs) w hw).1) hb76)) rfl rfl rfl ?_
          have ha77 := hconfigs.row (i := k9_3) hb76
          refine TQ.op (yq (y_ldA (ev_t rfl) one_25 (rii_arg hconfigs) hb76)) rfl rfl rfl ?_
          refine TQ.op (y_call (vs := [(.agg #[vm]), (uconfigs.getD k8_2 undef), (uconfigs.getD k9_3 undef)]) (v := (.int .i64 (F_spec_l6Move m (configs.getD k8_2 []) (configs.getD k9_3 [])))) en_76 ⟨(ev_t rfl), (ev_t rfl), (ev_t rfl), trivial⟩ (fun w hw => spec_l6Move_ok w vm um m ((rii_arg hm) w hw) (uconfigs.getD k8_2 undef) (configs.getD k8_2 []) ((ri_arg ha75) w hw) (uconfigs.getD k9_3 undef) (configs.getD k9_3 []) ((ri_arg ha77) w hw) (by first | assumption | omega | grind) (by first | assumption | omega | grind) (by first | assumption | omega | grind) (by first | assumption | omega | grind))) rfl rfl rfl ?_
          refine TQ.op (yq (y_gtr (ev_t rfl) (ev_t rfl))) rfl rfl rfl ?_
          refine TQ.nil ?_
          refine TN.seq ?_
          refine TC.cond (b := decide ((F_spec_l6Move m (configs.getD k8_2 []) (configs.getD k9_3 [])) < (F_spec_l1Most ((wk.getD k8_2 0) - (wk.getD k9_3 0)) ((wk.getD k9_3 0) - (wk.getD k8_2 0))))) (ev_t rfl) (fun h78 => ?_) (fun h78 => ?_)
          · rw [bif_pos h78] at hL3
            have q79 := (of_decide_eq_true h78)
            refine TC.seq ?_
            refine TC.region ?_
            refine TL.op (yq (y_assign ev_c)) rfl rfl rfl ?_
            refine TL.nil ?_
            refine TN.seq ?_
            refine TC.ret ?_
            refine TN.blockR ?_
            refine TN.thenR ?_
            refine TN.thenR ?_
            rw [← hL3, elim_ret] at hL2
            refine TN.blockR ?_
            refine TN.blockR ?_
            refine TN.thenR ?_
            refine TN.thenR ?_
            rw [← hL2, elim_ret] at hF
            refine TN.blockR ?_
            refine TN.thenR ?_
            subst hF
            exact TN.ret1 rfl (ev_t rfl) (fun w' hw => ⟨rfl, Hp.sublist hw (List.nil_sublist _)⟩)
          · rw [bif_neg h78] at hL3
            have q79 := (of_decide_eq_false h78)
            refine TC.skip ?_
            refine TN.blockN ?_
            refine TN.seq ?_
            refine TC.region ?_
            refine TL.op (yq (y_move (ev_t rfl))) rfl rfl rfl ?_
            refine TL.op (yq (y_add (ev_t rfl) ev_c (by unfold In64; omega))) rfl rfl rfl ?_
            refine TL.op (yq (y_assign (ev_t rfl))) rfl rfl rfl ?_
            refine TL.nil ?_
            exact TN.hand (mf3, (k9_3 + 1)) ⟨(by first | omega | (simp [-List.getD_eq_getElem?_getD] <;> omega)), (by omega), hL3⟩ (Nat.lt_succ_self _) ⟨rfl, rfl, rfl, rfl, rfl, trivial⟩ (fun w hw => hw)
        · rw [bif_neg h68] at hL3
          have q69 := (of_decide_eq_false h68)
          refine TC.exit ?_
          refine TN.thenE ?_
          refine TN.thenE ?_
          rw [← hL3, elim_next] at hL2
          try dsimp only at hL2
          refine TN.blockH ?_
          refine TN.blockN ?_
          refine TN.seq ?_
          refine TC.region ?_
          refine TL.op (yq (y_move (ev_t rfl))) rfl rfl rfl ?_
          refine TL.op (yq (y_add (ev_t rfl) ev_c (by unfold In64; omega))) rfl rfl rfl ?_
          refine TL.op (yq (y_assign (ev_t rfl))) rfl rfl rfl ?_
          refine TL.nil ?_
          exact TN.hand (mf2, (k8_2 + 1)) ⟨(by first | omega | (simp [-List.getD_eq_getElem?_getD] <;> omega)), (by omega), hL2⟩ (Nat.lt_succ_self _) ⟨rfl, rfl, rfl, rfl, trivial⟩ (fun w hw => hw)
      · rw [bif_neg h64] at hL2
        have q65 := (of_decide_eq_false h64)
        refine TC.exit ?_
        refine TN.thenE ?_
        refine TN.thenE ?_
        rw [← hL2, elim_next] at hF
        try dsimp only at hF
        refine TN.blockH ?_
        refine TN.seq ?_
        refine TC.seq ?_
        refine TC.region ?_
        refine TL.op (yq (y_assign ev_c)) rfl rfl rfl ?_
        refine TL.nil ?_
        refine TN.seq ?_
        refine TC.ret ?_
        subst hF
        exact TN.ret1 rfl (ev_t rfl) (fun w' hw => ⟨rfl, Hp.sublist hw (List.nil_sublist _)⟩)

set_option maxRecDepth 4000 in
set_option maxHeartbeats 1000000 in
theorem spec_IsWork_ok (w : World) (vm : Value) (um : List Value) (m : List (List Int)) (hm : RII w vm um m) (k : Int) (vwk : Value) (wk : List Int) (hwk : RI w vwk wk)  :
    Calls Try.prog 16 ([(.agg #[vm]), (.int .i64 k), vwk] : List Value).toArray w (Ret (.tuple #[(.bool ((F_spec_IsWork m k wk).1)), (.bool ((F_spec_IsWork m k wk).2))]) (Hp w [])) := by
  obtain ⟨rz, hF⟩ : ∃ rz, (F_spec_IsWork m k wk) = rz := ⟨_, rfl⟩
  rw [hF]
  unfold F_spec_IsWork at hF
  have hlen_m := argT_len hm
  have hlen_wk := arg_len hwk
  refine calls_tc Try.func16 rfl rfl rfl ?_
  change TC _ _ _ _ (Hp w []) [(0, (.agg #[vm])), (1, (.int .i64 k)), (2, vwk)]
  refine TC.seq ?_
  refine TC.region ?_
  refine TL.box (ev_t rfl) rfl (fun g0_0 => ?_)
  refine TL.op (yq (y_assign ev_c)) rfl rfl rfl ?_
  refine TL.op (yq (y_assign ev_c)) rfl rfl rfl ?_
  refine TL.nil ?_
  refine TN.seq ?_
  refine TC.seq ?_
  refine TC.seq ?_
  refine TC.region ?_
  refine TL.op (yq (y_ldagg (cs := [vm]) 0 (ev_t rfl) agg_29 rfl)) rfl rfl rfl ?_
  refine TL.op (yq (y_move (ev_t rfl))) rfl rfl rfl ?_
  refine TL.op (y_call (vs := [(.agg #[vm]), (.int .i64 k)]) (v := (.bool (F_spec_l7Asked m k))) en_52 ⟨(ev_t rfl), (ev_t rfl), trivial⟩ (fun w hw => spec_l7Asked_ok w vm um m ((rii_arg hm) w hw) k)) rfl rfl rfl ?_
  refine TL.op (yq (y_not (ev_t rfl))) rfl rfl rfl ?_
  refine TL.nil ?_
  refine TN.seq ?_
  refine TC.cond (b := !(F_spec_l7Asked m k)) (ev_t rfl) (fun h3 => ?_) (fun h3 => ?_)
  · rw [bif_pos h3] at hF
    have q4 := (not_t h3)
    refine TC.seq ?_
    refine TC.region ?_
    refine TL.op (yq (y_assign ev_c)) rfl rfl rfl ?_
    refine TL.op (yq (y_assign ev_c)) rfl rfl rfl ?_
    refine TL.nil ?_
    refine TN.seq ?_
    refine TC.ret ?_
    refine TN.thenR ?_
    subst hF
    exact TN.ret2 rfl (ev_t rfl) (ev_t rfl) (fun w' hw => ⟨rfl, Hp.sublist hw (List.nil_sublist _)⟩)
  · rw [bif_neg h3] at hF
    have q4 := (l7Asked_t (not_f h3))
    have hKs := q4
    have hKc := hKs.ksc
    have hn6 := hKs.tab.n6
    have hk1 := hKs.k1
    have hk3 := hKs.k3
    refine TC.skip ?_
    refine TN.seq ?_
    refine TC.seq ?_
    refine TC.regionH 10 (Hp w [.blk g0_0 29 [vm]]) rfl (by kernel_rfl) dr_hp (fun w hw => hw) ?_
    refine TH.take 0 rfl (by kernel_rfl) (y_ldagg (cs := [vm]) 0 (ev_t rfl) agg_29 rfl) rfl rfl rfl ?_
    refine TH.take 1 rfl (by kernel_rfl) (y_fa (fa_29_0 g0_0) (ev_t rfl)) rfl rfl rfl ?_
    refine TH.take 2 rfl (by kernel_rfl) (y_ldb 0 (ev_t rfl) one_22 rfl rfl) rfl rfl rfl ?_
    refine TH.take 3 rfl (by kernel_rfl) (y_len (ev_t rfl) Try.underlying22 (fun w hw => ((fun w hw => ((rii_arg hm) w hw).1) w hw).ln)) rfl rfl rfl ?_
    refine TH.take 4 rfl (by kernel_rfl) (y_move (ev_t rfl)) rfl rfl rfl ?_
    refine TH.take 6 rfl (by kernel_rfl) (y_move (ev_t rfl)) rfl rfl rfl ?_
    refine TH.loud 5 rfl (by kernel_rfl) ?_
    refine TL.callr (ι := Value × List Value) (vs := [(.int .i64 (m.length : Int)), (.int .i64 k)]) (fun i => i.1) (fun i => [tabI 25 3 i.1 i.2 (F_spec_l6Configs (m.length : Int) k)]) en_54 ⟨(ev_t rfl), (ev_t rfl), trivial⟩ rfl (fun w hw => spec_l6Configs_ok w (m.length : Int) k (by first | assumption | omega | grind) (by first | assumption | omega | grind)) (fun r3_5 => ?_)
    refine TL.nil ?_
    refine TH.back (fun w hw => Hp.sublist hw (.cons _ (.cons_cons _ .slnil))) ?_
    refine TH.loud 7 rfl (by kernel_rfl) ?_
    refine TL.op (y_call (vs := [(.agg #[vm]), r3_5.1, vwk]) (v := (.bool (F_spec_l7Work m (F_spec_l6Configs (m.length : Int) k) wk))) en_53 ⟨(ev_t rfl), (ev_t rfl), (ev_t rfl), trivial⟩ (fun w hw => spec_l7Work_ok w vm um m ((rii_arg hm) w hw) r3_5.1 r3_5.2 (F_spec_l6Configs (m.length : Int) k) ((rii_tab 0 rfl) w hw) vwk wk ((ri_arg hwk) w hw) (by first | assumption | omega | grind))) rfl rfl rfl ?_
    refine TL.nil ?_
    refine TH.back (fun w hw => Hp.sublist hw (.cons _ (.cons_cons _ .slnil))) ?_
    refine TH.take 8 rfl (by kernel_rfl) (y_assign (ev_t rfl)) rfl rfl rfl ?_
    refine TH.take 9 rfl (by kernel_rfl) (y_assign ev_c) rfl rfl rfl ?_
    refine TH.done (by kernel_rfl) ?_
    refine TN.seq ?_
    refine TC.ret ?_
    subst hF
    exact TN.ret2 rfl (ev_t rfl) (ev_t rfl) (fun w' hw => ⟨rfl, Hp.sublist hw (List.nil_sublist _)⟩)

set_option maxRecDepth 4000 in
set_option maxHeartbeats 1000000 in
theorem laws_FnExactIsWork_ok (w : World) (vm : Value) (um : List Value) (m : List (List Int)) (hm : RII w vm um m) (k : Int) (vwk : Value) (wk : List Int) (hwk : RI w vwk wk)  :
    Calls Try.prog 3 ([(.agg #[vm]), (.int .i64 k), vwk] : List Value).toArray w (Ret (.bool (F_laws_FnExactIsWork m k wk)) (Hp w [])) := by
  obtain ⟨rz, hF⟩ : ∃ rz, (F_laws_FnExactIsWork m k wk) = rz := ⟨_, rfl⟩
  rw [hF]
  unfold F_laws_FnExactIsWork at hF
  have hta := toIntS_eq wk
  have hlen_m := argT_len hm
  have hlen_wk := arg_len hwk
  refine calls_tc Try.func3 rfl rfl rfl ?_
  change TC _ _ _ _ (Hp w []) [(0, (.agg #[vm])), (1, (.int .i64 k)), (2, vwk)]
  refine TC.seq ?_
  refine TC.region ?_
  refine TL.box (ev_t rfl) rfl (fun g0_0 => ?_)
  refine TL.op (yq (y_assign ev_c)) rfl rfl rfl ?_
  refine TL.nil ?_
  refine TN.seq ?_
  refine TC.seq ?_
  refine TC.seq ?_
  refine TC.region ?_
  refine TL.op (yq (y_move (ev_t rfl))) rfl rfl rfl ?_
  refine TL.op (yq (y_len (ev_t rfl) Try.underlying25 (fun w hw => ((ri_arg hwk) w hw).ln))) rfl rfl rfl ?_
  refine TL.op (yq (y_gtr (ev_t rfl) ev_c)) rfl rfl rfl ?_
  refine TL.nil ?_
  refine TN.seq ?_
  refine TC.cond (b := decide (1048576 < (wk.length : Int))) (ev_t rfl) (fun h11 => ?_) (fun h11 => ?_)
  · rw [bif_pos h11] at hF
    have q12 := (of_decide_eq_true h11)
    refine TC.seq ?_
    refine TC.region ?_
    refine TL.op (yq (y_assign ev_c)) rfl rfl rfl ?_
    refine TL.nil ?_
    refine TN.seq ?_
    refine TC.ret ?_
    refine TN.thenR ?_
    subst hF
    exact TN.ret1 rfl (ev_t rfl) (fun w' hw => ⟨rfl, Hp.sublist hw (List.nil_sublist _)⟩)
  · rw [bif_neg h11] at hF
    have q12 := (of_decide_eq_false h11)
    refine TC.skip ?_
    refine TN.seq ?_
    refine TC.seq ?_
    refine TC.region ?_
    refine TL.op (yq (y_assign ev_c)) rfl rfl rfl ?_
    refine TL.nil ?_
    refine TN.seq ?_
    refine TC.seq ?_
    refine TC.region ?_
    refine TL.op (yq (y_ldagg (cs := [vm]) 0 (ev_t rfl) agg_24 rfl)) rfl rfl rfl ?_
    refine TL.op (yq (y_move (ev_t rfl))) rfl rfl rfl ?_
    refine TL.op (y_call (vs := [(.agg #[vm]), (.int .i64 1048576)]) (v := (.int .i64 (F_laws_szMetric m 1048576))) en_15 ⟨(ev_t rfl), (ev_t rfl), trivial⟩ (fun w hw => laws_szMetric_ok w vm um m ((rii_arg hm) w hw) 1048576 (by first | assumption | omega | grind) (by first | assumption | omega | grind))) rfl rfl rfl ?_
    refine TL.op (yq (y_assign (ev_t rfl))) rfl rfl rfl ?_
    refine TL.nil ?_
    refine TN.seq ?_
    refine TC.seq ?_
    refine TC.seq ?_
    refine TC.region ?_
    refine TL.op (yq (y_move (ev_t rfl))) rfl rfl rfl ?_
    refine TL.op (yq (y_lss (ev_t rfl) ev_c)) rfl rfl rfl ?_
    refine TL.nil ?_
    refine TN.seq ?_
    refine TC.cond (b := decide ((F_laws_szMetric m 1048576) < 0)) (ev_t rfl) (fun h13 => ?_) (fun h13 => ?_)
    · rw [bif_pos h13] at hF
      have q14 := (of_decide_eq_true h13)
      refine TC.seq ?_
      refine TC.region ?_
      refine TL.op (yq (y_assign ev_c)) rfl rfl rfl ?_
      refine TL.nil ?_
      refine TN.seq ?_
      refine TC.ret ?_
      refine TN.thenR ?_
      subst hF
      exact TN.ret1 rfl (ev_t rfl) (fun w' hw => ⟨rfl, Hp.sublist hw (List.nil_sublist _)⟩)
    · rw [bif_neg h13] at hF
      have q14 := (of_decide_eq_false h13)
      have hsz := szMetric_t (m := m) (left := 1048576) (by omega)
      have hsz1 : ∀ i, (m.getD i []).length ≤ 1048576 := fun i => by have := hsz.2 i; omega
      have hsz2 : m.length + total m ≤ 1048576 := by have := hsz.1; omega
      have htm := toMetric_eq m
      refine TC.skip ?_
      refine TN.seq ?_
      refine TC.seq ?_
      refine TC.region ?_
      refine TL.op (yq (y_ldagg (cs := [vm]) 0 (ev_t rfl) agg_24 rfl)) rfl rfl rfl ?_
      refine TL.callr (ι := Value × List Value) (vs := [(.agg #[vm])]) (fun i => (.agg #[i.1])) (fun i => [tabI 25 3 i.1 i.2 (F_laws_toMetric m)]) en_17 ⟨(ev_t rfl), trivial⟩ rfl (fun w hw => laws_toMetric_ok w vm um m ((rii_arg hm) w hw) (by first | assumption | omega | grind) (by first | assumption | omega | grind)) (fun r7_1 => ?_)
      refine TL.op (yq (y_move (ev_t rfl))) rfl rfl rfl ?_
      refine TL.op (yq (y_move (ev_t rfl))) rfl rfl rfl ?_
      refine TL.callr (ι := Value) (vs := [vwk]) (fun i => i) (fun i => [rowI 3 i (F_laws_toIntS wk)]) en_18 ⟨(ev_t rfl), trivial⟩ rfl (fun w hw => laws_toIntS_ok w vwk wk ((ri_arg hwk) w hw) (by first | assumption | omega | grind)) (fun r7_4 => ?_)
      refine TL.op (y_call (vs := [(.agg #[r7_1.1]), (.int .i64 k), r7_4]) (v := (.tuple #[(.bool ((F_spec_IsWork (F_laws_toMetric m) k (F_laws_toIntS wk)).1)), (.bool ((F_spec_IsWork (F_laws_toMetric m) k (F_laws_toIntS wk)).2))])) en_16 ⟨(ev_t rfl), (ev_t rfl), (ev_t rfl), trivial⟩ (fun w hw => spec_IsWork_ok w r7_1.1 r7_1.2 (F_laws_toMetric m) ((rii_tab 1 rfl) w hw) k r7_4 (F_laws_toIntS wk) ((ri_row 0 rfl) w hw))) rfl rfl rfl ?_
      refine TL.op (yq (y_move (ev_t rfl))) rfl rfl rfl ?_
      refine TL.op (yq (y_extract (ev_t rfl) rfl)) rfl rfl rfl ?_
      refine TL.op (yq (y_extract (ev_t rfl) rfl)) rfl rfl rfl ?_
      refine TL.op (yq (y_assign (ev_t rfl))) rfl rfl rfl ?_
      refine TL.op (yq (y_assign (ev_t rfl))) rfl rfl rfl ?_
      refine TL.nil ?_
      refine TN.seq ?_
      refine TC.seq ?_
      refine TC.region ?_
      refine TL.op (yq (y_ldagg (cs := [vm]) 2 (ev_t rfl) agg_24 rfl)) rfl rfl rfl ?_
      refine TL.callr (ι := Value × List Value) (vs := [(.agg #[vm])]) (fun i => (.agg #[i.1])) (fun i => [tabI 25 3 i.1 i.2 (F_laws_toMetric m)]) en_17 ⟨(ev_t rfl), trivial⟩ rfl (fun w hw => laws_toMetric_ok w vm um m ((rii_arg hm) w hw) (by first | assumption | omega | grind) (by first | assumption | omega | grind)) (fun r8_1 => ?_)
      refine TL.alloc (u := (.agg #[(.slice none 0 0)])) (by kernel_rfl) rfl (fun g8_2 => ?_)
      refine TL.storeAgg (cs := [(.slice none 0 0)]) (us := [r8_1.1]) 0 (ev_t rfl) (ev_t rfl) agg_29 rfl rfl (fun w hw => (ocs_cons (ln_one ((fun w hw => ((rii_tab 1 rfl) w hw).1) w hw).ln) ocs_nil)) ?_
      refine TL.nil ?_
      refine TN.seq ?_
      refine TC.seq ?_
      refine TC.region ?_
      refine TL.op (yq (y_move (ev_t rfl))) rfl rfl rfl ?_
      refine TL.callr (ι := Value) (vs := [vwk]) (fun i => i) (fun i => [rowI 3 i (F_laws_toIntS wk)]) en_18 ⟨(ev_t rfl), trivial⟩ rfl (fun w hw => laws_toIntS_ok w vwk wk ((ri_arg hwk) w hw) (by first | assumption | omega | grind)) (fun r9_1 => ?_)
      refine TL.op (yq (y_assign (ev_t rfl))) rfl rfl rfl ?_
      refine TL.nil ?_
      refine TN.seq ?_
      refine TC.seq ?_
      refine TC.region ?_
      refine TL.op (yq (y_ldagg (cs := [r8_1.1]) 1 (ev_t rfl) agg_29 rfl)) rfl rfl rfl ?_
      refine TL.op (yq (y_move (ev_t rfl))) rfl rfl rfl ?_
      refine TL.op (yq (y_move (ev_t rfl))) rfl rfl rfl ?_
      refine TL.op (y_call (vs := [(.agg #[r8_1.1]), (.int .i64 k), r9_1]) (v := (.tuple #[(.bool ((F_impl_IsWork (F_laws_toMetric m) k (F_laws_toIntS wk)).1)), (.bool ((F_impl_IsWork (F_laws_toMetric m) k (F_laws_toIntS wk)).2))])) en_19 ⟨(ev_t rfl), (ev_t rfl), (ev_t rfl), trivial⟩ (fun w hw => impl_IsWork_ok w r8_1.1 r8_1.2 (F_laws_toMetric m) ((rii_tab 2 rfl) w hw) k r9_1 (F_laws_toIntS wk) ((ri_row 0 rfl) w hw))) rfl rfl rfl ?_
      refine TL.op (yq (y_move (ev_t rfl))) rfl rfl rfl ?_
      refine TL.op (yq (y_extract (ev_t rfl) rfl)) rfl rfl rfl ?_
      refine TL.op (yq (y_extract (ev_t rfl) rfl)) rfl rfl rfl ?_
      refine TL.op (yq (y_assign (ev_t rfl))) rfl rfl rfl ?_
      refine TL.op (yq (y_assign (ev_t rfl))) rfl rfl rfl ?_
      refine TL.nil ?_
      refine TN.seq ?_
      refine TC.seq ?_
      refine TC.seq ?_
      refine TC.region ?_
      refine TL.op (yq (y_move (ev_t rfl))) rfl rfl rfl ?_
      refine TL.op (yq (y_move (ev_t rfl))) rfl rfl rfl ?_
      refine TL.op (yq (y_bneq (ev_t rfl) (ev_t rfl) Try.underlying4)) rfl rfl rfl ?_
      refine TL.op (yq (y_move (ev_t rfl))) rfl rfl rfl ?_
      refine TL.opw (w_f rfl rfl rfl) (fun hg => yq (y_move (ev_t rfl))) rfl rfl ?_
      refine TL.opw (w_f rfl rfl rfl) (fun hg => yq (y_move (ev_t rfl))) rfl rfl ?_
      refine TL.opw (w_f rfl rfl rfl) (fun hg => yq (y_bneq (ev_g rfl hg) (ev_g rfl hg) Try.underlying4)) rfl rfl ?_
      refine TL.op (yq (y_or (ev_t rfl) (fun hq => (ev_g rfl hq)))) rfl rfl rfl ?_
      refine TL.nil ?_
      refine TN.seq ?_
      refine TC.cond (b := ((((F_impl_IsWork (F_laws_toMetric m) k (F_laws_toIntS wk)).1) != ((F_spec_IsWork (F_laws_toMetric m) k (F_laws_toIntS wk)).1)) || (((F_impl_IsWork (F_laws_toMetric m) k (F_laws_toIntS wk)).2) != ((F_spec_IsWork (F_laws_toMetric m) k (F_laws_toIntS wk)).2)))) (ev_t rfl) (fun h15 => ?_) (fun h15 => ?_)
      · rw [bif_pos h15] at hF
        have q16 := ((or_t h15).imp (fun h => h) (fun h => h))
        refine TC.seq ?_
        refine TC.region ?_
        refine TL.op (yq (y_assign ev_c)) rfl rfl rfl ?_
        refine TL.nil ?_
        refine TN.seq ?_
        refine TC.ret ?_
        refine TN.thenR ?_
        subst hF
        exact TN.ret1 rfl (ev_t rfl) (fun w' hw => ⟨rfl, Hp.sublist hw (List.nil_sublist _)⟩)
      · rw [bif_neg h15] at hF
        have q16 := (and_imp (or_f h15) (fun h => h) (fun h => h))
        refine TC.skip ?_
        refine TN.seq ?_
        refine TC.seq ?_
        refine TC.seq ?_
        refine TC.regionH 5 (Hp w [rowI 3 r9_1 (F_laws_toIntS wk), .blk g8_2 29 [r8_1.1], tabI 25 3 r8_1.1 r8_1.2 (F_laws_toMetric m), rowI 3 r7_4 (F_laws_toIntS wk), tabI 25 3 r7_1.1 r7_1.2 (F_laws_toMetric m), .blk g0_0 24 [vm]]) rfl (by kernel_rfl) dr_hp (fun w hw => hw) ?_
        refine TH.take 0 rfl (by kernel_rfl) (y_ldagg (cs := [r8_1.1]) 1 (ev_t rfl) agg_29 rfl) rfl rfl rfl ?_
        refine TH.take 1 rfl (by kernel_rfl) (y_ldagg (cs := [vm]) 5 (ev_t rfl) agg_24 rfl) rfl rfl rfl ?_
        refine TH.loud 2 rfl (by kernel_rfl) ?_
        refine TL.callr (ι := Value × List Value) (vs := [(.agg #[vm])]) (fun i => (.agg #[i.1])) (fun i => [tabI 25 3 i.1 i.2 (F_laws_toMetric m)]) en_17 ⟨(ev_t rfl), trivial⟩ rfl (fun w hw => laws_toMetric_ok w vm um m ((rii_arg hm) w hw) (by first | assumption | omega | grind) (by first | assumption | omega | grind)) (fun r13_2 => ?_)
        refine TL.nil ?_
        refine TH.back (fun w hw => Hp.sublist hw (.cons _ (.cons_cons _ (.cons_cons _ (.cons_cons _ (.cons_cons _ (.cons_cons _ (.cons_cons _ .slnil)))))))) ?_
        refine TH.loud 3 rfl (by kernel_rfl) ?_
        refine TL.op (y_call (vs := [(.agg #[r8_1.1]), (.agg #[r13_2.1])]) (v := (.bool (F_laws_eqMetric (F_laws_toMetric m) (F_laws_toMetric m)))) en_20 ⟨(ev_t rfl), (ev_t rfl), trivial⟩ (fun w hw => laws_eqMetric_ok w r8_1.1 r8_1.2 (F_laws_toMetric m) ((rii_tab 3 rfl) w hw) r13_2.1 r13_2.2 (F_laws_toMetric m) ((rii_tab 0 rfl) w hw))) rfl rfl rfl ?_
        refine TL.nil ?_
        refine TH.back (fun w hw => Hp.sublist hw (.cons _ (.cons_cons _ (.cons_cons _ (.cons_cons _ (.cons_cons _ (.cons_cons _ (.cons_cons _ .slnil)))))))) ?_
        refine TH.take 4 rfl (by kernel_rfl) (y_not (ev_t rfl)) rfl rfl rfl ?_
        refine TH.done (by kernel_rfl) ?_
        refine TN.seq ?_
        refine TC.cond (b := !(F_laws_eqMetric (F_laws_toMetric m) (F_laws_toMetric m))) (ev_t rfl) (fun h17 => ?_) (fun h17 => ?_)
        · rw [bif_pos h17] at hF
          have q18 := (not_t h17)
          refine TC.seq ?_
          refine TC.region ?_
          refine TL.op (yq (y_assign ev_c)) rfl rfl rfl ?_
          refine TL.nil ?_
          refine TN.seq ?_
          refine TC.ret ?_
          refine TN.thenR ?_
          subst hF
          exact TN.ret1 rfl (ev_t rfl) (fun w' hw => ⟨rfl, Hp.sublist hw (List.nil_sublist _)⟩)
        · rw [bif_neg h17] at hF
          have q18 := (not_f h17)
          refine TC.skip ?_
          refine TN.seq ?_
          refine TC.seq ?_
          refine TC.seq ?_
          refine TC.region ?_
          refine TL.op (yq (y_move (ev_t rfl))) rfl rfl rfl ?_
          refine TL.op (yq (y_move (ev_t rfl))) rfl rfl rfl ?_
          refine TL.callr (ι := Value) (vs := [vwk]) (fun i => i) (fun i => [rowI 3 i (F_laws_toIntS wk)]) en_18 ⟨(ev_t rfl), trivial⟩ rfl (fun w hw => laws_toIntS_ok w vwk wk ((ri_arg hwk) w hw) (by first | assumption | omega | grind)) (fun r15_2 => ?_)
          refine TL.op (y_call (vs := [r9_1, r15_2]) (v := (.bool (F_laws_eqIntS (F_laws_toIntS wk) (F_laws_toIntS wk)))) en_21 ⟨(ev_t rfl), (ev_t rfl), trivial⟩ (fun w hw => laws_eqIntS_ok w r9_1 (F_laws_toIntS wk) ((ri_row 2 rfl) w hw) r15_2 (F_laws_toIntS wk) ((ri_row 0 rfl) w hw))) rfl rfl rfl ?_
          refine TL.op (yq (y_not (ev_t rfl))) rfl rfl rfl ?_
          refine TL.nil ?_
          refine TN.seq ?_
          refine TC.cond (b := !(F_laws_eqIntS (F_laws_toIntS wk) (F_laws_toIntS wk))) (ev_t rfl) (fun h19 => ?_) (fun h19 => ?_)
          · rw [bif_pos h19] at hF
            have q20 := (not_t h19)
            refine TC.seq ?_
            refine TC.region ?_
            refine TL.op (yq (y_assign ev_c)) rfl rfl rfl ?_
            refine TL.nil ?_
            refine TN.seq ?_
            refine TC.ret ?_
            refine TN.thenR ?_
            subst hF
            exact TN.ret1 rfl (ev_t rfl) (fun w' hw => ⟨rfl, Hp.sublist hw (List.nil_sublist _)⟩)
          · rw [bif_neg h19] at hF
            have q20 := (not_f h19)
            refine TC.skip ?_
            refine TN.seq ?_
            refine TC.seq ?_
            refine TC.region ?_
            refine TL.op (yq (y_assign ev_c)) rfl rfl rfl ?_
            refine TL.nil ?_
            refine TN.seq ?_
            refine TC.ret ?_
            subst hF
            exact TN.ret1 rfl (ev_t rfl) (fun w' hw => ⟨rfl, Hp.sublist hw (List.nil_sublist _)⟩)


end Go.Proofs.Ytilmadapmcnlgaa
