/-
  Walks of functions of the program: each computes its plain function. No condition but the bounds that are typed.
-/
import Derived.Test.YtcfjjnajeccbhaaFnC
import Derived.Test.YtcfjjnajeccbhaaDefD
import Derived.Test.YtcfjjnajeccbhaaLawCov
namespace Go.Proofs.Ytcfjjnajeccbhaa
open Go Go.RowKit

set_option maxRecDepth 4000 in
set_option maxHeartbeats 1000000 in
theorem spec_l1Own_ok (w : World) (va : Value) (a : List Int) (ha : RI w va a) (hp0 : a.length ≤ 1000000000) :
    Calls Try.prog 69 ([va] : List Value).toArray w (fun e w' => ∃ i : Value, e = .returned i ∧ Hp w [rowI 3 i (F_spec_l1Own a)] w') := by
  obtain ⟨rz, hF⟩ : ∃ rz, (F_spec_l1Own a) = rz := ⟨_, rfl⟩
  rw [hF]
  unfold F_spec_l1Own at hF
  have hlen_a := arg_len ha
  refine calls_tc Try.func69 rfl rfl rfl ?_
  change TC _ _ _ _ (Hp w []) [(0, va)]
  refine TC.seq ?_
  refine TC.region ?_
  refine TL.op (yq (y_assign ev_c)) rfl rfl rfl ?_
  refine TL.nil ?_
  refine TN.seq ?_
  refine TC.seq ?_
  refine TC.region ?_
  refine TL.buildI (zs := []) (qs := []) slT_25 rfl trivial rfl (by decide) rfl (fun v1_0 => ?_)
  refine TL.op (yq (y_move (ev_t rfl))) rfl rfl rfl ?_
  refine TL.appendI 0 (ev_t rfl) (ev_t rfl) rfl slT_25 (ri_arg ha) (by first | omega | (simp [-List.getD_eq_getElem?_getD] <;> omega)) rfl (fun v1_2 => ?_)
  refine TL.op (yq (y_assign (ev_t rfl))) rfl rfl rfl ?_
  refine TL.nil ?_
  refine TN.seq ?_
  refine TC.ret ?_
  subst hF
  exact TN.ret1 rfl (ev_t rfl) (fun w' hw => ⟨v1_2, rfl, hw⟩)

set_option maxRecDepth 4000 in
set_option maxHeartbeats 1000000 in
theorem slices_Clone_Sint_int_ok (w : World) (vs : Value) (s : List Int) (hs : RI w vs s) (hp0 : s.length ≤ 1000000000) :
    Calls Try.prog 74 ([vs] : List Value).toArray w (fun e w' => ∃ i : Value, e = .returned i ∧ Hp w [rowI 3 i (F_slices_Clone_Sint_int s)] w') := by
  obtain ⟨rz, hF⟩ : ∃ rz, (F_slices_Clone_Sint_int s) = rz := ⟨_, rfl⟩
  rw [hF]
  unfold F_slices_Clone_Sint_int at hF
  have hlen_s := arg_len hs
  refine calls_tc Try.func74 rfl rfl rfl ?_
  change TC _ _ _ _ (Hp w []) [(0, vs)]
  refine TC.seq ?_
  refine TC.region ?_
  refine TL.op (yq (y_assign ev_c)) rfl rfl rfl ?_
  refine TL.nil ?_
  refine TN.seq ?_
  refine TC.seq ?_
  refine TC.seq ?_
  refine TC.region ?_
  refine TL.op (yq (y_move (ev_t rfl))) rfl rfl rfl ?_
  refine TL.op (yq (y_isnil (ev_t rfl) ev_c Try.underlying25 (fun w hw => ((ri_arg hs) w hw).ln))) rfl rfl rfl ?_
  refine TL.nil ?_
  refine TN.seq ?_
  refine TC.cond (b := isNilV vs) (ev_t rfl) (fun h3 => ?_) (fun h3 => ?_)
  · have q4 := ri_isnil hs h3
    subst q4
    refine TC.seq ?_
    refine TC.region ?_
    refine TL.op (yq (y_assign ev_c)) rfl rfl rfl ?_
    refine TL.nil ?_
    refine TN.seq ?_
    refine TC.ret ?_
    refine TN.thenR ?_
    subst hF
    refine TN.cls (fun w hw => hw.nil 3 1) ?_
    exact TN.ret1 rfl (ev_t rfl) (fun w' hw => ⟨(.slice none 0 0), rfl, hw⟩)
  · refine TC.skip ?_
    refine TN.seq ?_
    refine TC.seq ?_
    refine TC.region ?_
    refine TL.buildI (zs := []) (qs := []) slT_25 rfl trivial rfl (by decide) rfl (fun v3_0 => ?_)
    refine TL.op (yq (y_move (ev_t rfl))) rfl rfl rfl ?_
    refine TL.appendI 0 (ev_t rfl) (ev_t rfl) rfl slT_25 (ri_arg hs) (by first | omega | (simp [-List.getD_eq_getElem?_getD] <;> omega)) rfl (fun v3_2 => ?_)
    refine TL.op (yq (y_assign (ev_t rfl))) rfl rfl rfl ?_
    refine TL.nil ?_
    refine TN.seq ?_
    refine TC.ret ?_
    subst hF
    exact TN.ret1 rfl (ev_t rfl) (fun w' hw => ⟨v3_2, rfl, hw⟩)

set_option maxRecDepth 4000 in
set_option maxHeartbeats 1000000 in
theorem spec_l1Least_ok (w : World) (a : Int) (b : Int)  :
    Calls Try.prog 106 ([(.int .i64 a), (.int .i64 b)] : List Value).toArray w (Ret (.int .i64 (F_spec_l1Least a b)) (Hp w [])) := by
  obtain ⟨rz, hF⟩ : ∃ rz, (F_spec_l1Least a b) = rz := ⟨_, rfl⟩
  rw [hF]
  unfold F_spec_l1Least at hF
  refine calls_tc Try.func106 rfl rfl rfl ?_
  change TC _ _ _ _ (Hp w []) [(0, (.int .i64 a)), (1, (.int .i64 b))]
  refine TC.seq ?_
  refine TC.region ?_
  refine TL.op (yq (y_assign ev_c)) rfl rfl rfl ?_
  refine TL.nil ?_
  refine TN.seq ?_
  refine TC.seq ?_
  refine TC.seq ?_
  refine TC.region ?_
  refine TL.op (yq (y_move (ev_t rfl))) rfl rfl rfl ?_
  refine TL.op (yq (y_move (ev_t rfl))) rfl rfl rfl ?_
  refine TL.op (yq (y_lss (ev_t rfl) (ev_t rfl))) rfl rfl rfl ?_
  refine TL.nil ?_
  refine TN.seq ?_
  refine TC.cond (b := decide (a < b)) (ev_t rfl) (fun h3 => ?_) (fun h3 => ?_)
  · rw [bif_pos h3] at hF
    have q4 := (of_decide_eq_true h3)
    refine TC.seq ?_
    refine TC.region ?_
    refine TL.op (yq (y_move (ev_t rfl))) rfl rfl rfl ?_
    refine TL.op (yq (y_assign (ev_t rfl))) rfl rfl rfl ?_
    refine TL.nil ?_
    refine TN.seq ?_
    refine TC.ret ?_
    refine TN.thenR ?_
    subst hF
    exact TN.ret1 rfl (ev_t rfl) (fun w' hw => ⟨rfl, hw⟩)
  · rw [bif_neg h3] at hF
    have q4 := (of_decide_eq_false h3)
    refine TC.skip ?_
    refine TN.seq ?_
    refine TC.seq ?_
    refine TC.region ?_
    refine TL.op (yq (y_move (ev_t rfl))) rfl rfl rfl ?_
    refine TL.op (yq (y_assign (ev_t rfl))) rfl rfl rfl ?_
    refine TL.nil ?_
    refine TN.seq ?_
    refine TC.ret ?_
    subst hF
    exact TN.ret1 rfl (ev_t rfl) (fun w' hw => ⟨rfl, hw⟩)

set_option maxRecDepth 4000 in
set_option maxHeartbeats 1000000 in
theorem impl_covered_ok (w : World) (vrow : Value) (row : List Int) (hrow : RI w vrow row) (r : Int) (hp0 : Row row) (hp1 : 0 ≤ r) (hp2 : r ≤ 99) :
    Calls Try.prog 72 ([vrow, (.int .i64 r)] : List Value).toArray w (fun e w' => ∃ i : Value, e = .returned i ∧ Hp w [rowI 3 i (F_impl_covered row r)] w') := by
  obtain ⟨rz, hF⟩ : ∃ rz, (F_impl_covered row r) = rz := ⟨_, rfl⟩
  rw [hF]
  unfold F_impl_covered at hF
  have hbs := bs_le row r hp0
  have hlr := hp0.1
  have hel1 := hp0.el (((F_slices_BinarySearch_Sint_int row r).1 - 1).toNat)
  have hel2 := hp0.el ((F_slices_BinarySearch_Sint_int row r).1.toNat)
  have hlen_row := arg_len hrow
  refine calls_tc Try.func72 rfl rfl rfl ?_
  change TC _ _ _ _ (Hp w []) [(0, vrow), (1, (.int .i64 r))]
  refine TC.seq ?_
  refine TC.region ?_
  refine TL.op (yq (y_assign ev_c)) rfl rfl rfl ?_
  refine TL.nil ?_
  refine TN.seq ?_
  refine TC.seq ?_
  refine TC.region ?_
  refine TL.op (yq (y_move (ev_t rfl))) rfl rfl rfl ?_
  refine TL.callr (ι := Value) (vs := [vrow]) (fun i => i) (fun i => [rowI 3 i row]) en_74 ⟨(ev_t rfl), trivial⟩ rfl (fun w hw => slices_Clone_Sint_int_ok w vrow row ((ri_arg hrow) w hw) (by first | assumption | omega | grind)) (fun r1_1 => ?_)
  refine TL.op (yq (y_assign (ev_t rfl))) rfl rfl rfl ?_
  refine TL.nil ?_
  refine TN.seq ?_
  refine TC.seq ?_
  refine TC.region ?_
  refine TL.op (yq (y_move (ev_t rfl))) rfl rfl rfl ?_
  refine TL.op (yq (y_move (ev_t rfl))) rfl rfl rfl ?_
  refine TL.op (y_call (vs := [r1_1, (.int .i64 r)]) (v := (.tuple #[(.int .i64 ((F_slices_BinarySearch_Sint_int row r).1)), (.bool ((F_slices_BinarySearch_Sint_int row r).2))])) en_108 ⟨(ev_t rfl), (ev_t rfl), trivial⟩ (fun w hw => slices_BinarySearch_Sint_int_ok w r1_1 row ((ri_row 0 rfl) w hw) r (by first | assumption | omega | grind))) rfl rfl rfl ?_
  refine TL.op (yq (y_move (ev_t rfl))) rfl rfl rfl ?_
  refine TL.op (yq (y_extract (ev_t rfl) rfl)) rfl rfl rfl ?_
  refine TL.op (yq (y_extract (ev_t rfl) rfl)) rfl rfl rfl ?_
  refine TL.op (yq (y_assign (ev_t rfl))) rfl rfl rfl ?_
  refine TL.op (yq (y_assign (ev_t rfl))) rfl rfl rfl ?_
  refine TL.nil ?_
  refine TN.seq ?_
  refine TC.seq ?_
  refine TC.block ?_
  refine TC.seq ?_
  refine TC.region ?_
  refine TL.op (yq (y_move (ev_t rfl))) rfl rfl rfl ?_
  refine TL.op (yq (y_assign (ev_t rfl))) rfl rfl rfl ?_
  refine TL.nil ?_
  refine TN.seq ?_
  refine TC.cond (b := (F_slices_BinarySearch_Sint_int row r).2) (ev_t rfl) (fun h15 => ?_) (fun h15 => ?_)
  · rw [bif_pos h15] at hF
    have q16 := h15
    refine TC.skip ?_
    refine TN.blockN ?_
    refine TN.seq ?_
    refine TC.seq ?_
    refine TC.region ?_
    refine TL.op (yq (y_move (ev_t rfl))) rfl rfl rfl ?_
    refine TL.op (yq (y_assign (ev_t rfl))) rfl rfl rfl ?_
    refine TL.nil ?_
    refine TN.seq ?_
    refine TC.ret ?_
    subst hF
    exact TN.ret1 rfl (ev_t rfl) (fun w' hw => ⟨r1_1, rfl, hw⟩)
  · rw [bif_neg h15] at hF
    have q16 := h15
    refine TC.seq ?_
    refine TC.region ?_
    refine TL.op (yq (y_move (ev_t rfl))) rfl rfl rfl ?_
    refine TL.op (yq (y_eql (ev_t rfl) ev_c)) rfl rfl rfl ?_
    refine TL.op (yq (y_assign (ev_t rfl))) rfl rfl rfl ?_
    refine TL.nil ?_
    refine TN.seq ?_
    refine TC.cond (b := decide ((F_slices_BinarySearch_Sint_int row r).1 = 0)) (ev_t rfl) (fun h17 => ?_) (fun h17 => ?_)
    · rw [bif_pos h17] at hF
      have q18 := (of_decide_eq_true h17)
      refine TC.region ?_
      refine TL.op (yq (y_move (ev_t rfl))) rfl rfl rfl ?_
      refine TL.op (yq (y_move (ev_t rfl))) rfl rfl rfl ?_
      have hb19 : 0 < row.length := (by first | omega | (simp only [List.length_set, List.length_append, List.length_cons, List.length_nil, List.length_replicate]; omega))
      refine TL.op (yq (y_idx (k := 0) (ev_t rfl) ev_c (by omega) slT_25 (ri_row 0 rfl) hb19)) rfl rfl rfl ?_
      refine TL.storeI 0 (ev_t rfl) (ev_t rfl) one_3 rfl hb19 ?_
      refine TL.nil ?_
      refine TN.blockN ?_
      refine TN.seq ?_
      refine TC.seq ?_
      refine TC.region ?_
      refine TL.op (yq (y_move (ev_t rfl))) rfl rfl rfl ?_
      refine TL.op (yq (y_assign (ev_t rfl))) rfl rfl rfl ?_
      refine TL.nil ?_
      refine TN.seq ?_
      refine TC.ret ?_
      subst hF
      exact TN.ret1 rfl (ev_t rfl) (fun w' hw => ⟨r1_1, rfl, hw⟩)
    · rw [bif_neg h17] at hF
      have q18 := (of_decide_eq_false h17)
      refine TC.seq ?_
      refine TC.region ?_
      refine TL.op (yq (y_move (ev_t rfl))) rfl rfl rfl ?_
      refine TL.op (yq (y_move (ev_t rfl))) rfl rfl rfl ?_
      refine TL.op (yq (y_len (ev_t rfl) Try.underlying25 (fun w hw => ((ri_row 0 rfl) w hw).ln))) rfl rfl rfl ?_
      refine TL.op (yq (y_eql (ev_t rfl) (ev_t rfl))) rfl rfl rfl ?_
      refine TL.op (yq (y_assign (ev_t rfl))) rfl rfl rfl ?_
      refine TL.nil ?_
      refine TN.seq ?_
      refine TC.cond (b := decide ((F_slices_BinarySearch_Sint_int row r).1 = (row.length : Int))) (ev_t rfl) (fun h20 => ?_) (fun h20 => ?_)
      · rw [bif_pos h20] at hF
        have q21 := (of_decide_eq_true h20)
        refine TC.region ?_
        refine TL.op (yq (y_move (ev_t rfl))) rfl rfl rfl ?_
        refine TL.op (yq (y_move (ev_t rfl))) rfl rfl rfl ?_
        refine TL.op (yq (y_sub (ev_t rfl) ev_c (by unfold In64; first | omega | (rw [getD_set_ne _ _ _ _ _ (by omega)]; omega)))) rfl rfl rfl ?_
        refine TL.op (yq (y_move (ev_t rfl))) rfl rfl rfl ?_
        have hb22 : (((F_slices_BinarySearch_Sint_int row r).1) - 1).toNat < row.length := (by first | omega | (simp only [List.length_set, List.length_append, List.length_cons, List.length_nil, List.length_replicate]; omega))
        refine TL.op (yq (y_idx (k := (((F_slices_BinarySearch_Sint_int row r).1) - 1).toNat) (ev_t rfl) (ev_t rfl) (by omega) slT_25 (ri_row 0 rfl) hb22)) rfl rfl rfl ?_
        refine TL.storeI 0 (ev_t rfl) (ev_t rfl) one_3 rfl hb22 ?_
        refine TL.nil ?_
        refine TN.blockN ?_
        refine TN.seq ?_
        refine TC.seq ?_
        refine TC.region ?_
        refine TL.op (yq (y_move (ev_t rfl))) rfl rfl rfl ?_
        refine TL.op (yq (y_assign (ev_t rfl))) rfl rfl rfl ?_
        refine TL.nil ?_
        refine TN.seq ?_
        refine TC.ret ?_
        subst hF
        exact TN.ret1 rfl (ev_t rfl) (fun w' hw => ⟨r1_1, rfl, hw⟩)
      · rw [bif_neg h20] at hF
        have q21 := (of_decide_eq_false h20)
        refine TC.seq ?_
        refine TC.regionQ (by kernel_rfl) (by kernel_rfl) dr_hp ?_
        refine TQ.op (yq (y_move (ev_t rfl))) rfl rfl rfl ?_
        refine TQ.op (yq (y_move (ev_t rfl))) rfl rfl rfl ?_
        refine TQ.op (yq (y_move (ev_t rfl))) rfl rfl rfl ?_
        refine TQ.op (yq (y_sub (ev_t rfl) ev_c (by unfold In64; first | omega | (rw [getD_set_ne _ _ _ _ _ (by omega)]; omega)))) rfl rfl rfl ?_
        have hb23 : (((F_slices_BinarySearch_Sint_int row r).1) - 1).toNat < row.length := (by first | omega | (simp only [List.length_set, List.length_append, List.length_cons, List.length_nil, List.length_replicate]; omega))
        refine TQ.op (yq (y_idx (k := (((F_slices_BinarySearch_Sint_int row r).1) - 1).toNat) (ev_t rfl) (ev_t rfl) (by omega) slT_25 (ri_row 0 rfl) hb23)) rfl rfl rfl ?_
        refine TQ.op (yq (y_ldi (ev_t rfl) one_3 (ri_row 0 rfl) hb23)) rfl rfl rfl ?_
        refine TQ.op (yq (y_sub (ev_t rfl) (ev_t rfl) (by unfold In64; first | omega | (rw [getD_set_ne _ _ _ _ _ (by omega)]; omega)))) rfl rfl rfl ?_
        refine TQ.op (yq (y_move (ev_t rfl))) rfl rfl rfl ?_
        refine TQ.op (yq (y_move (ev_t rfl))) rfl rfl rfl ?_
        have hb24 : ((F_slices_BinarySearch_Sint_int row r).1).toNat < row.length := (by first | omega | (simp only [List.length_set, List.length_append, List.length_cons, List.length_nil, List.length_replicate]; omega))
        refine TQ.op (yq (y_idx (k := ((F_slices_BinarySearch_Sint_int row r).1).toNat) (ev_t rfl) (ev_t rfl) (by omega) slT_25 (ri_row 0 rfl) hb24)) rfl rfl rfl ?_
        refine TQ.op (yq (y_ldi (ev_t rfl) one_3 (ri_row 0 rfl) hb24)) rfl rfl rfl ?_
        refine TQ.op (yq (y_move (ev_t rfl))) rfl rfl rfl ?_
        refine TQ.op (yq (y_sub (ev_t rfl) (ev_t rfl) (by unfold In64; first | omega | (rw [getD_set_ne _ _ _ _ _ (by omega)]; omega)))) rfl rfl rfl ?_
        refine TQ.op (yq (y_min (ev_t rfl) (ev_t rfl))) rfl rfl rfl ?_
        refine TQ.op (yq (y_assign (ev_t rfl))) rfl rfl rfl ?_
        refine TQ.nil ?_
        refine TN.seq ?_
        refine TC.seq ?_
        refine TC.region ?_
        refine TL.op (yq (y_move (ev_t rfl))) rfl rfl rfl ?_
        refine TL.op (yq (y_move (ev_t rfl))) rfl rfl rfl ?_
        refine TL.op (yq (y_sub (ev_t rfl) ev_c (by unfold In64; first | omega | (rw [getD_set_ne _ _ _ _ _ (by omega)]; omega)))) rfl rfl rfl ?_
        have hb25 : (((F_slices_BinarySearch_Sint_int row r).1) - 1).toNat < row.length := (by first | omega | (simp only [List.length_set, List.length_append, List.length_cons, List.length_nil, List.length_replicate]; omega))
        refine TL.op (yq (y_idx (k := (((F_slices_BinarySearch_Sint_int row r).1) - 1).toNat) (ev_t rfl) (ev_t rfl) (by omega) slT_25 (ri_row 0 rfl) hb25)) rfl rfl rfl ?_
        refine TL.op (yq (y_ldi (ev_t rfl) one_3 (ri_row 0 rfl) hb25)) rfl rfl rfl ?_
        refine TL.op (yq (y_move (ev_t rfl))) rfl rfl rfl ?_
        refine TL.op (yq (y_add (ev_t rfl) (ev_t rfl) (by unfold In64; first | omega | (rw [getD_set_ne _ _ _ _ _ (by omega)]; omega)))) rfl rfl rfl ?_
        have hb26 : (((F_slices_BinarySearch_Sint_int row r).1) - 1).toNat < row.length := (by first | omega | (simp only [List.length_set, List.length_append, List.length_cons, List.length_nil, List.length_replicate]; omega))
        refine TL.op (yq (y_idx (k := (((F_slices_BinarySearch_Sint_int row r).1) - 1).toNat) (ev_t rfl) (ev_t rfl) (by omega) slT_25 (ri_row 0 rfl) hb26)) rfl rfl rfl ?_
        refine TL.storeI 0 (ev_t rfl) (ev_t rfl) one_3 rfl hb26 ?_
        refine TL.nil ?_
        refine TN.seq ?_
        refine TC.region ?_
        refine TL.op (yq (y_move (ev_t rfl))) rfl rfl rfl ?_
        refine TL.op (yq (y_move (ev_t rfl))) rfl rfl rfl ?_
        have hb27 : ((F_slices_BinarySearch_Sint_int row r).1).toNat < (row.set ((((F_slices_BinarySearch_Sint_int row r).1) - 1).toNat) ((row.getD ((((F_slices_BinarySearch_Sint_int row r).1) - 1).toNat) 0) + (min (r - (row.getD ((((F_slices_BinarySearch_Sint_int row r).1) - 1).toNat) 0)) ((row.getD (((F_slices_BinarySearch_Sint_int row r).1).toNat) 0) - r)))).length := (by first | omega | (simp only [List.length_set, List.length_append, List.length_cons, List.length_nil, List.length_replicate]; omega))
        refine TL.op (yq (y_idx (k := ((F_slices_BinarySearch_Sint_int row r).1).toNat) (ev_t rfl) (ev_t rfl) (by omega) slT_25 (ri_row 0 rfl) hb27)) rfl rfl rfl ?_
        refine TL.op (yq (y_ldi (ev_t rfl) one_3 (ri_row 0 rfl) hb27)) rfl rfl rfl ?_
        refine TL.op (yq (y_move (ev_t rfl))) rfl rfl rfl ?_
        refine TL.op (yq (y_sub (ev_t rfl) (ev_t rfl) (by unfold In64; first | omega | (rw [getD_set_ne _ _ _ _ _ (by omega)]; omega)))) rfl rfl rfl ?_
        have hb28 : ((F_slices_BinarySearch_Sint_int row r).1).toNat < (row.set ((((F_slices_BinarySearch_Sint_int row r).1) - 1).toNat) ((row.getD ((((F_slices_BinarySearch_Sint_int row r).1) - 1).toNat) 0) + (min (r - (row.getD ((((F_slices_BinarySearch_Sint_int row r).1) - 1).toNat) 0)) ((row.getD (((F_slices_BinarySearch_Sint_int row r).1).toNat) 0) - r)))).length := (by first | omega | (simp only [List.length_set, List.length_append, List.length_cons, List.length_nil, List.length_replicate]; omega))
        refine TL.op (yq (y_idx (k := ((F_slices_BinarySearch_Sint_int row r).1).toNat) (ev_t rfl) (ev_t rfl) (by omega) slT_25 (ri_row 0 rfl) hb28)) rfl rfl rfl ?_
        refine TL.storeI 0 (ev_t rfl) (ev_t rfl) one_3 rfl hb28 ?_
        refine TL.nil ?_
        refine TN.blockN ?_
        refine TN.seq ?_
        refine TC.seq ?_
        refine TC.region ?_
        refine TL.op (yq (y_move (ev_t rfl))) rfl rfl rfl ?_
        refine TL.op (yq (y_assign (ev_t rfl))) rfl rfl rfl ?_
        refine TL.nil ?_
        refine TN.seq ?_
        refine TC.ret ?_
        subst hF
        exact TN.ret1 rfl (ev_t rfl) (fun w' hw => ⟨r1_1, rfl, hw⟩)

set_option maxRecDepth 4000 in
set_option maxHeartbeats 1000000 in
theorem spec_l6Cover_ok (w : World) (vrow : Value) (row : List Int) (hrow : RI w vrow row) (r : Int) (hp0 : Row row) (hp1 : 0 ≤ r) (hp2 : r ≤ 99) :
    Calls Try.prog 68 ([vrow, (.int .i64 r)] : List Value).toArray w (fun e w' => ∃ i : Value, e = .returned (.tuple #[i, (.int .i64 ((F_spec_l6Cover row r).2))]) ∧ Hp w [rowI 3 i ((F_spec_l6Cover row r).1)] w') := by
  obtain ⟨rz, hF⟩ : ∃ rz, (F_spec_l6Cover row r) = rz := ⟨_, rfl⟩
  rw [hF]
  unfold F_spec_l6Cover at hF
  have hlr := hp0.1
  have hel0 := hp0.el 0
  have hel1 := hp0.el (((row.length : Int) - 1).toNat)
  have hlen_row := arg_len hrow
  refine calls_tc Try.func68 rfl rfl rfl ?_
  change TC _ _ _ _ (Hp w []) [(0, vrow), (1, (.int .i64 r))]
  refine TC.seq ?_
  refine TC.region ?_
  refine TL.op (yq (y_assign ev_c)) rfl rfl rfl ?_
  refine TL.op (yq (y_assign ev_c)) rfl rfl rfl ?_
  refine TL.nil ?_
  refine TN.seq ?_
  refine TC.seq ?_
  refine TC.region ?_
  refine TL.op (yq (y_move (ev_t rfl))) rfl rfl rfl ?_
  refine TL.callr (ι := Value) (vs := [vrow]) (fun i => i) (fun i => [rowI 3 i row]) en_69 ⟨(ev_t rfl), trivial⟩ rfl (fun w hw => spec_l1Own_ok w vrow row ((ri_arg hrow) w hw) (by first | assumption | omega | grind)) (fun r1_1 => ?_)
  refine TL.op (yq (y_move (ev_t rfl))) rfl rfl rfl ?_
  refine TL.op (yq (y_len (ev_t rfl) Try.underlying25 (fun w hw => ((ri_arg hrow) w hw).ln))) rfl rfl rfl ?_
  refine TL.op (yq (y_sub (ev_t rfl) ev_c (by unfold In64; omega))) rfl rfl rfl ?_
  refine TL.op (yq (y_assign (ev_t rfl))) rfl rfl rfl ?_
  refine TL.op (yq (y_assign (ev_t rfl))) rfl rfl rfl ?_
  refine TL.nil ?_
  refine TN.seq ?_
  refine TC.seq ?_
  refine TC.seq ?_
  refine TC.region ?_
  refine TL.op (yq (y_move (ev_t rfl))) rfl rfl rfl ?_
  refine TL.op (yq (y_move (ev_t rfl))) rfl rfl rfl ?_
  refine TL.op (y_call (vs := [vrow, (.int .i64 r)]) (v := (.bool (F_spec_l1Has row r))) en_87 ⟨(ev_t rfl), (ev_t rfl), trivial⟩ (fun w hw => spec_l1Has_ok w vrow row ((ri_arg hrow) w hw) r)) rfl rfl rfl ?_
  refine TL.nil ?_
  refine TN.seq ?_
  refine TC.cond (b := (F_spec_l1Has row r)) (ev_t rfl) (fun h25 => ?_) (fun h25 => ?_)
  · rw [bif_pos h25] at hF
    have q26 := h25
    refine TC.seq ?_
    refine TC.region ?_
    refine TL.op (yq (y_move (ev_t rfl))) rfl rfl rfl ?_
    refine TL.op (yq (y_assign (ev_t rfl))) rfl rfl rfl ?_
    refine TL.op (yq (y_assign ev_c)) rfl rfl rfl ?_
    refine TL.nil ?_
    refine TN.seq ?_
    refine TC.ret ?_
    refine TN.thenR ?_
    subst hF
    exact TN.ret2 rfl (ev_t rfl) (ev_t rfl) (fun w' hw => ⟨r1_1, rfl, hw⟩)
  · rw [bif_neg h25] at hF
    have q26 := (l1Has_f h25)
    refine TC.skip ?_
    refine TN.seq ?_
    refine TC.seq ?_
    refine TC.seq ?_
    refine TC.region ?_
    refine TL.op (yq (y_move (ev_t rfl))) rfl rfl rfl ?_
    refine TL.op (yq (y_move (ev_t rfl))) rfl rfl rfl ?_
    have hb27 : 0 < row.length := (by first | omega | (simp only [List.length_set, List.length_append, List.length_cons, List.length_nil, List.length_replicate]; omega))
    refine TL.op (yq (y_idx (k := 0) (ev_t rfl) ev_c (by omega) slT_25 (ri_arg hrow) hb27)) rfl rfl rfl ?_
    refine TL.op (yq (y_ldi (ev_t rfl) one_3 (ri_arg hrow) hb27)) rfl rfl rfl ?_
    refine TL.op (yq (y_lss (ev_t rfl) (ev_t rfl))) rfl rfl rfl ?_
    refine TL.nil ?_
    refine TN.seq ?_
    refine TC.cond (b := decide (r < (row.getD 0 0))) (ev_t rfl) (fun h28 => ?_) (fun h28 => ?_)
    · rw [bif_pos h28] at hF
      have q29 := (of_decide_eq_true h28)
      refine TC.seq ?_
      refine TC.region ?_
      refine TL.op (yq (y_move (ev_t rfl))) rfl rfl rfl ?_
      refine TL.op (yq (y_move (ev_t rfl))) rfl rfl rfl ?_
      have hb30 : 0 < row.length := (by first | omega | (simp only [List.length_set, List.length_append, List.length_cons, List.length_nil, List.length_replicate]; omega))
      refine TL.op (yq (y_idx (k := 0) (ev_t rfl) ev_c (by omega) slT_25 (ri_row 0 rfl) hb30)) rfl rfl rfl ?_
      refine TL.storeI 0 (ev_t rfl) (ev_t rfl) one_3 rfl hb30 ?_
      refine TL.nil ?_
      refine TN.seq ?_
      refine TC.seq ?_
      refine TC.regionQ (by kernel_rfl) (by kernel_rfl) dr_hp ?_
      refine TQ.op (yq (y_move (ev_t rfl))) rfl rfl rfl ?_
      refine TQ.op (yq (y_move (ev_t rfl))) rfl rfl rfl ?_
      have hb31 : 0 < row.length := (by first | omega | (simp only [List.length_set, List.length_append, List.length_cons, List.length_nil, List.length_replicate]; omega))
      refine TQ.op (yq (y_idx (k := 0) (ev_t rfl) ev_c (by omega) slT_25 (ri_arg hrow) hb31)) rfl rfl rfl ?_
      refine TQ.op (yq (y_ldi (ev_t rfl) one_3 (ri_arg hrow) hb31)) rfl rfl rfl ?_
      refine TQ.op (yq (y_move (ev_t rfl))) rfl rfl rfl ?_
      refine TQ.op (yq (y_sub (ev_t rfl) (ev_t rfl) (by unfold In64; omega))) rfl rfl rfl ?_
      refine TQ.op (yq (y_assign (ev_t rfl))) rfl rfl rfl ?_
      refine TQ.op (yq (y_assign (ev_t rfl))) rfl rfl rfl ?_
      refine TQ.nil ?_
      refine TN.seq ?_
      refine TC.ret ?_
      refine TN.thenR ?_
      subst hF
      exact TN.ret2 rfl (ev_t rfl) (ev_t rfl) (fun w' hw => ⟨r1_1, rfl, hw⟩)
    · rw [bif_neg h28] at hF
      have q29 := (of_decide_eq_false h28)
      refine TC.skip ?_
      refine TN.seq ?_
      refine TC.seq ?_
      refine TC.seq ?_
      refine TC.region ?_
      refine TL.op (yq (y_move (ev_t rfl))) rfl rfl rfl ?_
      refine TL.op (yq (y_move (ev_t rfl))) rfl rfl rfl ?_
      refine TL.op (yq (y_move (ev_t rfl))) rfl rfl rfl ?_
      have hb32 : ((row.length : Int) - 1).toNat < row.length := (by first | omega | (simp only [List.length_set, List.length_append, List.length_cons, List.length_nil, List.length_replicate]; omega))
      refine TL.op (yq (y_idx (k := ((row.length : Int) - 1).toNat) (ev_t rfl) (ev_t rfl) (by omega) slT_25 (ri_arg hrow) hb32)) rfl rfl rfl ?_
      refine TL.op (yq (y_ldi (ev_t rfl) one_3 (ri_arg hrow) hb32)) rfl rfl rfl ?_
      refine TL.op (yq (y_gtr (ev_t rfl) (ev_t rfl))) rfl rfl rfl ?_
      refine TL.nil ?_
      refine TN.seq ?_
      refine TC.cond (b := decide ((row.getD (((row.length : Int) - 1).toNat) 0) < r)) (ev_t rfl) (fun h33 => ?_) (fun h33 => ?_)
      · rw [bif_pos h33] at hF
        have q34 := (of_decide_eq_true h33)
        refine TC.seq ?_
        refine TC.region ?_
        refine TL.op (yq (y_move (ev_t rfl))) rfl rfl rfl ?_
        refine TL.op (yq (y_move (ev_t rfl))) rfl rfl rfl ?_
        refine TL.op (yq (y_move (ev_t rfl))) rfl rfl rfl ?_
        have hb35 : ((row.length : Int) - 1).toNat < row.length := (by first | omega | (simp only [List.length_set, List.length_append, List.length_cons, List.length_nil, List.length_replicate]; omega))
        refine TL.op (yq (y_idx (k := ((row.length : Int) - 1).toNat) (ev_t rfl) (ev_t rfl) (by omega) slT_25 (ri_row 0 rfl) hb35)) rfl rfl rfl ?_
        refine TL.storeI 0 (ev_t rfl) (ev_t rfl) one_3 rfl hb35 ?_
        refine TL.nil ?_
        refine TN.seq ?_
        refine TC.seq ?_
        refine TC.regionQ (by kernel_rfl) (by kernel_rfl) dr_hp ?_
        refine TQ.op (yq (y_move (ev_t rfl))) rfl rfl rfl ?_
        refine TQ.op (yq (y_move (ev_t rfl))) rfl rfl rfl ?_
        refine TQ.op (yq (y_move (ev_t rfl))) rfl rfl rfl ?_
        refine TQ.op (yq (y_move (ev_t rfl))) rfl rfl rfl ?_
        have hb36 : ((row.length : Int) - 1).toNat < row.length := (by first | omega | (simp only [List.length_set, List.length_append, List.length_cons, List.length_nil, List.length_replicate]; omega))
        refine TQ.op (yq (y_idx (k := ((row.length : Int) - 1).toNat) (ev_t rfl) (ev_t rfl) (by omega) slT_25 (ri_arg hrow) hb36)) rfl rfl rfl ?_
        refine TQ.op (yq (y_ldi (ev_t rfl) one_3 (ri_arg hrow) hb36)) rfl rfl rfl ?_
        refine TQ.op (yq (y_sub (ev_t rfl) (ev_t rfl) (by unfold In64; omega))) rfl rfl rfl ?_
        refine TQ.op (yq (y_assign (ev_t rfl))) rfl rfl rfl ?_
        refine TQ.op (yq (y_assign (ev_t rfl))) rfl rfl rfl ?_
        refine TQ.nil ?_
        refine TN.seq ?_
        refine TC.ret ?_
        refine TN.thenR ?_
        subst hF
        exact TN.ret2 rfl (ev_t rfl) (ev_t rfl) (fun w' hw => ⟨r1_1, rfl, hw⟩)
      · rw [bif_neg h33] at hF
        have q34 := (of_decide_eq_false h33)
        refine TC.skip ?_
        refine TN.seq ?_
        refine TC.seq ?_
        refine TC.region ?_
        refine TL.op (yq (y_assign ev_c)) rfl rfl rfl ?_
        refine TL.nil ?_
        refine TN.seq ?_
        refine TC.seq ?_
        refine TC.block ?_
        have hne := (by assumption : ∀ i, i < row.length → row.getD i 0 ≠ r) 0 (by omega)
        have hcg0 : row.length = 1 → row.getD (((row.length : Int) - 1).toNat) 0 = row.getD 0 0 := fun h => by rw [h]; rfl
        obtain ⟨c37, hc38⟩ : ∃ c, F_spec_l6Cover_L1 row r ((row.length - 0) + 1) 0 = c := ⟨_, rfl⟩
        rw [hc38] at hF
        refine TC.loop (ι := Nat × Nat) (fun (fu1, k8_1) => [(0, vrow), (1, (.int .i64 r)), (6, r1_1), (8, (.int .i64 (k8_1 : Int)))]) (fun (fu1, k8_1) => Hp w [rowI 3 r1_1 row]) (fun (fu1, k8_1) => (k8_1 + 1 < row.length) ∧ row.length - k8_1 < fu1 ∧ F_spec_l6Cover_L1 row r fu1 k8_1 = c37) (fun (fu1, k8_1) => fu1) ((row.length - 0) + 1, 0) ⟨(by first | omega | (simp [-List.getD_eq_getElem?_getD] <;> omega)), (by omega), hc38⟩ ⟨rfl, rfl, rfl, rfl, trivial⟩ (fun w hw => hw) ?_
        rintro ⟨fu1, k8_1⟩ hJ1
        obtain ⟨hi1_0, hmu1, hL1⟩ : (k8_1 + 1 < row.length) ∧ row.length - k8_1 < fu1 ∧ F_spec_l6Cover_L1 row r fu1 k8_1 = c37 := hJ1
        change TC _ _ _ _ (Hp w [rowI 3 r1_1 row]) [(0, vrow), (1, (.int .i64 r)), (6, r1_1), (8, (.int .i64 (k8_1 : Int)))]
        obtain ⟨mf1, rfl⟩ : ∃ m, fu1 = m + 1 := ⟨fu1 - 1, by omega⟩
        rw [F_spec_l6Cover_L1_s] at hL1
        have hcg : k8_1 + 1 = ((row.length : Int) - 1).toNat → row.getD (k8_1 + 1) 0 = row.getD (((row.length : Int) - 1).toNat) 0 := fun h => by rw [h]
        have hea := hp0.el k8_1
        have heb := hp0.el (k8_1 + 1)
        have hmin := l1Least_eq (r - row.getD k8_1 0) (row.getD (k8_1 + 1) 0 - r)
        refine TC.seq ?_
        refine TC.seq ?_
        refine TC.region ?_
        refine TL.op (yq (y_move (ev_t rfl))) rfl rfl rfl ?_
        refine TL.op (yq (y_move (ev_t rfl))) rfl rfl rfl ?_
        refine TL.op (yq (y_add (ev_t rfl) ev_c (by unfold In64; omega))) rfl rfl rfl ?_
        have hb39 : (k8_1 + 1) < row.length := (by first | omega | (simp only [List.length_set, List.length_append, List.length_cons, List.length_nil, List.length_replicate]; omega))
        refine TL.op (yq (y_idx (k := (k8_1 + 1)) (ev_t rfl) (ev_t rfl) (by omega) slT_25 (ri_arg hrow) hb39)) rfl rfl rfl ?_
        refine TL.op (yq (y_ldi (ev_t rfl) one_3 (ri_arg hrow) hb39)) rfl rfl rfl ?_
        refine TL.op (yq (y_move (ev_t rfl))) rfl rfl rfl ?_
        refine TL.op (yq (y_lss (ev_t rfl) (ev_t rfl))) rfl rfl rfl ?_
        refine TL.nil ?_
        refine TN.seq ?_
        refine TC.cond (b := decide ((row.getD (k8_1 + 1) 0) < r)) (ev_t rfl) (fun h40 => ?_) (fun h40 => ?_)
        · rw [bif_pos h40] at hL1
          have q41 := (of_decide_eq_true h40)
          refine TC.skip ?_
          refine TN.seq ?_
          refine TC.block ?_
          refine TC.region ?_
          refine TL.op (yq (y_move (ev_t rfl))) rfl rfl rfl ?_
          refine TL.op (yq (y_add (ev_t rfl) ev_c (by unfold In64; omega))) rfl rfl rfl ?_
          refine TL.op (yq (y_assign (ev_t rfl))) rfl rfl rfl ?_
          refine TL.nil ?_
          refine TN.blockN ?_
          exact TN.hand (mf1, (k8_1 + 1)) ⟨(by first | omega | (simp [-List.getD_eq_getElem?_getD] <;> omega)), (by omega), hL1⟩ (Nat.lt_succ_self _) ⟨rfl, rfl, rfl, rfl, trivial⟩ (fun w hw => hw)
        · rw [bif_neg h40] at hL1
          have q41 := (of_decide_eq_false h40)
          refine TC.exit ?_
          refine TN.thenE ?_
          refine TN.thenE ?_
          rw [← hL1, elim_next] at hF
          try dsimp only at hF
          refine TN.blockH ?_
          refine TN.seq ?_
          refine TC.seq ?_
          refine TC.regionQ (by kernel_rfl) (by kernel_rfl) dr_hp ?_
          refine TQ.op (yq (y_move (ev_t rfl))) rfl rfl rfl ?_
          refine TQ.op (yq (y_move (ev_t rfl))) rfl rfl rfl ?_
          refine TQ.op (yq (y_move (ev_t rfl))) rfl rfl rfl ?_
          have hb42 : k8_1 < row.length := (by first | omega | (simp only [List.length_set, List.length_append, List.length_cons, List.length_nil, List.length_replicate]; omega))
          refine TQ.op (yq (y_idx (k := k8_1) (ev_t rfl) (ev_t rfl) (by omega) slT_25 (ri_arg hrow) hb42)) rfl rfl rfl ?_
          refine TQ.op (yq (y_ldi (ev_t rfl) one_3 (ri_arg hrow) hb42)) rfl rfl rfl ?_
          refine TQ.op (yq (y_sub (ev_t rfl) (ev_t rfl) (by unfold In64; omega))) rfl rfl rfl ?_
          refine TQ.op (yq (y_move (ev_t rfl))) rfl rfl rfl ?_
          refine TQ.op (yq (y_move (ev_t rfl))) rfl rfl rfl ?_
          refine TQ.op (yq (y_add (ev_t rfl) ev_c (by unfold In64; omega))) rfl rfl rfl ?_
          have hb43 : (k8_1 + 1) < row.length := (by first | omega | (simp only [List.length_set, List.length_append, List.length_cons, List.length_nil, List.length_replicate]; omega))
          refine TQ.op (yq (y_idx (k := (k8_1 + 1)) (ev_t rfl) (ev_t rfl) (by omega) slT_25 (ri_arg hrow) hb43)) rfl rfl rfl ?_
          refine TQ.op (yq (y_ldi (ev_t rfl) one_3 (ri_arg hrow) hb43)) rfl rfl rfl ?_
          refine TQ.op (yq (y_move (ev_t rfl))) rfl rfl rfl ?_
          refine TQ.op (yq (y_sub (ev_t rfl) (ev_t rfl) (by unfold In64; omega))) rfl rfl rfl ?_
          refine TQ.op (y_call (vs := [(.int .i64 (r - (row.getD k8_1 0))), (.int .i64 ((row.getD (k8_1 + 1) 0) - r))]) (v := (.int .i64 (F_spec_l1Least (r - (row.getD k8_1 0)) ((row.getD (k8_1 + 1) 0) - r)))) en_106 ⟨(ev_t rfl), (ev_t rfl), trivial⟩ (fun w hw => spec_l1Least_ok w (r - (row.getD k8_1 0)) ((row.getD (k8_1 + 1) 0) - r))) rfl rfl rfl ?_
          refine TQ.op (yq (y_assign (ev_t rfl))) rfl rfl rfl ?_
          refine TQ.nil ?_
          refine TN.seq ?_
          refine TC.seq ?_
          refine TC.region ?_
          refine TL.op (yq (y_move (ev_t rfl))) rfl rfl rfl ?_
          refine TL.op (yq (y_move (ev_t rfl))) rfl rfl rfl ?_
          refine TL.op (yq (y_move (ev_t rfl))) rfl rfl rfl ?_
          refine TL.op (yq (y_move (ev_t rfl))) rfl rfl rfl ?_
          have hb44 : k8_1 < row.length := (by first | omega | (simp only [List.length_set, List.length_append, List.length_cons, List.length_nil, List.length_replicate]; omega))
          refine TL.op (yq (y_idx (k := k8_1) (ev_t rfl) (ev_t rfl) (by omega) slT_25 (ri_arg hrow) hb44)) rfl rfl rfl ?_
          refine TL.op (yq (y_ldi (ev_t rfl) one_3 (ri_arg hrow) hb44)) rfl rfl rfl ?_
          refine TL.op (yq (y_move (ev_t rfl))) rfl rfl rfl ?_
          refine TL.op (yq (y_add (ev_t rfl) (ev_t rfl) (by unfold In64; omega))) rfl rfl rfl ?_
          have hb45 : k8_1 < row.length := (by first | omega | (simp only [List.length_set, List.length_append, List.length_cons, List.length_nil, List.length_replicate]; omega))
          refine TL.op (yq (y_idx (k := k8_1) (ev_t rfl) (ev_t rfl) (by omega) slT_25 (ri_row 0 rfl) hb45)) rfl rfl rfl ?_
          refine TL.storeI 0 (ev_t rfl) (ev_t rfl) one_3 rfl hb45 ?_
          refine TL.nil ?_
          refine TN.seq ?_
          refine TC.seq ?_
          refine TC.region ?_
          refine TL.op (yq (y_move (ev_t rfl))) rfl rfl rfl ?_
          refine TL.op (yq (y_move (ev_t rfl))) rfl rfl rfl ?_
          refine TL.op (yq (y_add (ev_t rfl) ev_c (by unfold In64; omega))) rfl rfl rfl ?_
          refine TL.op (yq (y_move (ev_t rfl))) rfl rfl rfl ?_
          refine TL.op (yq (y_move (ev_t rfl))) rfl rfl rfl ?_
          refine TL.op (yq (y_add (ev_t rfl) ev_c (by unfold In64; omega))) rfl rfl rfl ?_
          have hb46 : (k8_1 + 1) < row.length := (by first | omega | (simp only [List.length_set, List.length_append, List.length_cons, List.length_nil, List.length_replicate]; omega))
          refine TL.op (yq (y_idx (k := (k8_1 + 1)) (ev_t rfl) (ev_t rfl) (by omega) slT_25 (ri_arg hrow) hb46)) rfl rfl rfl ?_
          refine TL.op (yq (y_ldi (ev_t rfl) one_3 (ri_arg hrow) hb46)) rfl rfl rfl ?_
          refine TL.op (yq (y_move (ev_t rfl))) rfl rfl rfl ?_
          refine TL.op (yq (y_sub (ev_t rfl) (ev_t rfl) (by unfold In64; omega))) rfl rfl rfl ?_
          have hb47 : (k8_1 + 1) < (row.set k8_1 ((row.getD k8_1 0) + (F_spec_l1Least (r - (row.getD k8_1 0)) ((row.getD (k8_1 + 1) 0) - r)))).length := (by first | omega | (simp only [List.length_set, List.length_append, List.length_cons, List.length_nil, List.length_replicate]; omega))
          refine TL.op (yq (y_idx (k := (k8_1 + 1)) (ev_t rfl) (ev_t rfl) (by omega) slT_25 (ri_row 0 rfl) hb47)) rfl rfl rfl ?_
          refine TL.storeI 0 (ev_t rfl) (ev_t rfl) one_3 rfl hb47 ?_
          refine TL.nil ?_
          refine TN.seq ?_
          refine TC.seq ?_
          refine TC.region ?_
          refine TL.op (yq (y_move (ev_t rfl))) rfl rfl rfl ?_
          refine TL.op (yq (y_move (ev_t rfl))) rfl rfl rfl ?_
          refine TL.op (yq (y_mul ev_c (ev_t rfl) (by unfold In64; omega))) rfl rfl rfl ?_
          refine TL.op (yq (y_assign (ev_t rfl))) rfl rfl rfl ?_
          refine TL.op (yq (y_assign (ev_t rfl))) rfl rfl rfl ?_
          refine TL.nil ?_
          refine TN.seq ?_
          refine TC.ret ?_
          subst hF
          exact TN.ret2 rfl (ev_t rfl) (ev_t rfl) (fun w' hw => ⟨r1_1, rfl, hw⟩)


end Go.Proofs.Ytcfjjnajeccbhaa
