/-
  Walks of functions of the program: each computes its plain function. No condition but the bounds that are typed.
-/
import Derived.Test.YtfhhfhiooehlcaaQ2
namespace Go.Proofs.Ytfhhfhiooehlcaa
open Go Go.RowKit
set_option linter.unusedVariables false

set_option maxRecDepth 4000 in
set_option maxHeartbeats 1000000 in
theorem spec_CoverStep_ok (w : World) (vrow : Value) (row : List Int) (hrow : RI w vrow row) (r : Int)  :
    Calls Try.prog 21 ([vrow, (.int .i64 r)] : List Value).toArray w (fun e w' => ∃ i : Value, e = .returned (.tuple #[i, (.int .i64 ((F_spec_CoverStep row r).2.1)), (.bool ((F_spec_CoverStep row r).2.2))]) ∧ Hp w [rowI 3 i ((F_spec_CoverStep row r).1)] w') := by
  obtain ⟨rz, hF⟩ : ∃ rz, (F_spec_CoverStep row r) = rz := ⟨_, rfl⟩
  rw [hF]
  unfold F_spec_CoverStep at hF
  have hlen_row := arg_len hrow
  refine calls_tc Try.func21 rfl rfl rfl ?_
  change TC _ _ _ _ (Hp w []) [(0, vrow), (1, (.int .i64 r))]
  refine TC.seq ?_
  refine TC.region ?_
  refine TL.op (yq (y_assign ev_c)) rfl rfl rfl ?_
  refine TL.op (yq (y_assign ev_c)) rfl rfl rfl ?_
  refine TL.op (yq (y_assign ev_c)) rfl rfl rfl ?_
  refine TL.nil ?_
  refine TN.seq ?_
  refine TC.seq ?_
  refine TC.seq ?_
  refine TC.region ?_
  refine TL.op (yq (y_move (ev_t rfl))) rfl rfl rfl ?_
  refine TL.op (y_call (vs := [vrow]) (v := (.bool (F_spec_l6Row row))) en_50 ⟨(ev_t rfl), trivial⟩ (fun w hw => spec_l6Row_ok w vrow row ((ri_arg hrow) w hw))) rfl rfl rfl ?_
  refine TL.op (yq (y_not (ev_t rfl))) rfl rfl rfl ?_
  refine TL.op (yq (y_move (ev_t rfl))) rfl rfl rfl ?_
  refine TL.opw (w_f rfl rfl rfl) (fun hg => yq (y_move (ev_t rfl))) rfl rfl ?_
  refine TL.opw (w_f rfl rfl rfl) (fun hg => y_call (vs := [(.int .i64 r), (.int .i64 0), (.int .i64 99)]) (v := (.bool ((decide (0 ≤ r)) && (decide (r ≤ 99))))) en_56 ⟨(ev_g rfl hg), ev_c, ev_c, trivial⟩ (fun w hw => spec_l1In_ok w r 0 99)) rfl rfl ?_
  refine TL.opw (w_f rfl rfl rfl) (fun hg => yq (y_not (ev_g rfl hg))) rfl rfl ?_
  refine TL.op (yq (y_or (ev_t rfl) (fun hq => (ev_g rfl hq)))) rfl rfl rfl ?_
  refine TL.nil ?_
  refine TN.seq ?_
  refine TC.cond (b := ((!(F_spec_l6Row row)) || (!((decide (0 ≤ r)) && (decide (r ≤ 99)))))) (ev_t rfl) (fun h3 => ?_) (fun h3 => ?_)
  · rw [bif_pos h3] at hF
    have q4 := ((or_t h3).imp (fun h => (not_t h)) (fun h => ((and_f (not_t h)).imp (fun h => (of_decide_eq_false h)) (fun h => (of_decide_eq_false h)))))
    refine TC.seq ?_
    refine TC.region ?_
    refine TL.buildI (zs := []) (qs := []) slT_34 rfl trivial rfl (by decide) rfl (fun v2_0 => ?_)
    refine TL.op (yq (y_assign (ev_t rfl))) rfl rfl rfl ?_
    refine TL.op (yq (y_assign ev_c)) rfl rfl rfl ?_
    refine TL.op (yq (y_assign ev_c)) rfl rfl rfl ?_
    refine TL.nil ?_
    refine TN.seq ?_
    refine TC.ret ?_
    refine TN.thenR ?_
    subst hF
    exact TN.ret3 rfl (ev_t rfl) (ev_t rfl) (ev_t rfl) (fun w' hw => ⟨v2_0, rfl, hw⟩)
  · rw [bif_neg h3] at hF
    have q4 := (and_imp (or_f h3) (fun h => (l6Row_t (not_f h))) (fun h => (and_imp (and_t (not_f h)) (fun h => (of_decide_eq_true h)) (fun h => (of_decide_eq_true h)))))
    refine TC.skip ?_
    refine TN.seq ?_
    refine TC.seq ?_
    refine TC.region ?_
    refine TL.op (yq (y_move (ev_t rfl))) rfl rfl rfl ?_
    refine TL.op (yq (y_move (ev_t rfl))) rfl rfl rfl ?_
    refine TL.callr (ι := Value) (vs := [vrow, (.int .i64 r)]) (fun i => (.tuple #[i, (.int .i64 ((F_spec_l6Cover row r).2))])) (fun i => [rowI 3 i ((F_spec_l6Cover row r).1)]) en_57 ⟨(ev_t rfl), (ev_t rfl), trivial⟩ rfl (fun w hw => spec_l6Cover_ok w vrow row ((ri_arg hrow) w hw) r (by first | assumption | omega | grind) (by first | assumption | omega | grind) (by first | assumption | omega | grind)) (fun r3_2 => ?_)
    refine TL.op (yq (y_move (ev_t rfl))) rfl rfl rfl ?_
    refine TL.op (yq (y_extract (ev_t rfl) rfl)) rfl rfl rfl ?_
    refine TL.op (yq (y_extract (ev_t rfl) rfl)) rfl rfl rfl ?_
    refine TL.op (yq (y_assign (ev_t rfl))) rfl rfl rfl ?_
    refine TL.op (yq (y_assign (ev_t rfl))) rfl rfl rfl ?_
    refine TL.nil ?_
    refine TN.seq ?_
    refine TC.seq ?_
    refine TC.region ?_
    refine TL.op (yq (y_move (ev_t rfl))) rfl rfl rfl ?_
    refine TL.op (yq (y_move (ev_t rfl))) rfl rfl rfl ?_
    refine TL.op (yq (y_assign (ev_t rfl))) rfl rfl rfl ?_
    refine TL.op (yq (y_assign (ev_t rfl))) rfl rfl rfl ?_
    refine TL.op (yq (y_assign ev_c)) rfl rfl rfl ?_
    refine TL.nil ?_
    refine TN.seq ?_
    refine TC.ret ?_
    subst hF
    exact TN.ret3 rfl (ev_t rfl) (ev_t rfl) (ev_t rfl) (fun w' hw => ⟨r3_2, rfl, hw⟩)

set_option maxRecDepth 4000 in
set_option maxHeartbeats 1000000 in
theorem spec_l6Sort_ok (w : World) (vlist : Value) (list : List Int) (hlist : RI w vlist list) (hp0 : list.length ≤ 100000) :
    Calls Try.prog 100 ([vlist] : List Value).toArray w (fun e w' => ∃ i : Value, e = .returned i ∧ Hp w [rowI 3 i (F_spec_l6Sort list)] w') := by
  obtain ⟨rz, hF⟩ : ∃ rz, (F_spec_l6Sort list) = rz := ⟨_, rfl⟩
  rw [hF]
  unfold F_spec_l6Sort at hF
  have hlen_list := arg_len hlist
  refine calls_tc Try.func100 rfl rfl rfl ?_
  change TC _ _ _ _ (Hp w []) [(0, vlist)]
  refine TC.seq ?_
  refine TC.region ?_
  refine TL.op (yq (y_assign ev_c)) rfl rfl rfl ?_
  refine TL.nil ?_
  refine TN.seq ?_
  refine TC.seq ?_
  refine TC.region ?_
  refine TL.buildI (zs := []) (qs := []) slT_34 rfl trivial rfl (by decide) rfl (fun v1_0 => ?_)
  refine TL.op (yq (y_assign (ev_t rfl))) rfl rfl rfl ?_
  refine TL.nil ?_
  refine TN.seq ?_
  refine TC.seq ?_
  refine TC.seq ?_
  refine TC.region ?_
  refine TL.op (yq (y_assign ev_c)) rfl rfl rfl ?_
  refine TL.nil ?_
  refine TN.seq ?_
  refine TC.block ?_
  obtain ⟨c21, hc22⟩ : ∃ c, F_spec_l6Sort_L1 list ((list.length - 0) + 1) (([] : List Int), 0) = c := ⟨_, rfl⟩
  rw [hc22] at hF
  refine TC.loop (ι := Nat × List Int × Nat × Value) (fun (fu1, out1, i1, vout1) => [(0, vlist), (3, vout1), (4, (.int .i64 (i1 : Int)))]) (fun (fu1, out1, i1, vout1) => Hp w [rowI 3 vout1 out1]) (fun (fu1, out1, i1, vout1) => (i1 ≤ list.length) ∧ (out1.length = i1) ∧ list.length - i1 < fu1 ∧ F_spec_l6Sort_L1 list fu1 (out1, i1) = c21) (fun (fu1, out1, i1, vout1) => fu1) ((list.length - 0) + 1, ([] : List Int), 0, v1_0) ⟨(by first | omega | (simp [-List.getD_eq_getElem?_getD] <;> omega)), (by first | omega | (simp [-List.getD_eq_getElem?_getD] <;> omega)), (by omega), hc22⟩ ⟨rfl, rfl, rfl, trivial⟩ (fun w hw => hw) ?_
  rintro ⟨fu1, out1, i1, vout1⟩ hJ1
  obtain ⟨hi1_0, hi1_1, hmu1, hL1⟩ : (i1 ≤ list.length) ∧ (out1.length = i1) ∧ list.length - i1 < fu1 ∧ F_spec_l6Sort_L1 list fu1 (out1, i1) = c21 := hJ1
  change TC _ _ _ _ (Hp w [rowI 3 vout1 out1]) [(0, vlist), (3, vout1), (4, (.int .i64 (i1 : Int)))]
  obtain ⟨mf1, rfl⟩ : ∃ m, fu1 = m + 1 := ⟨fu1 - 1, by omega⟩
  rw [F_spec_l6Sort_L1_s] at hL1
  refine TC.seq ?_
  refine TC.seq ?_
  refine TC.region ?_
  refine TL.op (yq (y_move (ev_t rfl))) rfl rfl rfl ?_
  refine TL.op (yq (y_move (ev_t rfl))) rfl rfl rfl ?_
  refine TL.op (yq (y_len (ev_t rfl) Try.underlying34 (fun w hw => ((ri_arg hlist) w hw).ln))) rfl rfl rfl ?_
  refine TL.op (yq (y_lss (ev_t rfl) (ev_t rfl))) rfl rfl rfl ?_
  refine TL.nil ?_
  refine TN.seq ?_
  refine TC.cond (b := decide ((i1 : Int) < (list.length : Int))) (ev_t rfl) (fun h23 => ?_) (fun h23 => ?_)
  · rw [bif_pos h23] at hL1
    have q24 := (of_decide_eq_true h23)
    refine TC.skip ?_
    refine TN.seq ?_
    refine TC.seq ?_
    refine TC.block ?_
    refine TC.seq ?_
    refine TC.region ?_
    refine TL.op (yq (y_assign ev_c)) rfl rfl rfl ?_
    refine TL.nil ?_
    refine TN.seq ?_
    refine TC.seq ?_
    refine TC.block ?_
    obtain ⟨c25, hc26⟩ : ∃ c, F_spec_l6Sort_L2 list out1 i1 ((out1.length - 0) + 1) 0 = c := ⟨_, rfl⟩
    rw [hc26] at hL1
    refine TC.loop (ι := Nat × Nat) (fun (fu2, k2) => [(0, vlist), (3, vout1), (4, (.int .i64 (i1 : Int))), (5, (.int .i64 (k2 : Int)))]) (fun (fu2, k2) => Hp w [rowI 3 vout1 out1]) (fun (fu2, k2) => (k2 ≤ out1.length) ∧ out1.length - k2 < fu2 ∧ F_spec_l6Sort_L2 list out1 i1 fu2 k2 = c25) (fun (fu2, k2) => fu2) ((out1.length - 0) + 1, 0) ⟨(by first | omega | (simp [-List.getD_eq_getElem?_getD] <;> omega)), (by omega), hc26⟩ ⟨rfl, rfl, rfl, rfl, trivial⟩ (fun w hw => hw) ?_
    rintro ⟨fu2, k2⟩ hJ2
    obtain ⟨hi2_0, hmu2, hL2⟩ : (k2 ≤ out1.length) ∧ out1.length - k2 < fu2 ∧ F_spec_l6Sort_L2 list out1 i1 fu2 k2 = c25 := hJ2
    change TC _ _ _ _ (Hp w [rowI 3 vout1 out1]) [(0, vlist), (3, vout1), (4, (.int .i64 (i1 : Int))), (5, (.int .i64 (k2 : Int)))]
    obtain ⟨mf2, rfl⟩ : ∃ m, fu2 = m + 1 := ⟨fu2 - 1, by omega⟩
    rw [F_spec_l6Sort_L2_s] at hL2
    refine TC.seq ?_
    refine TC.seq ?_
    refine TC.regionQ (by kernel_rfl) (by kernel_rfl) dr_hp ?_
    refine TQ.op (yq (y_move (ev_t rfl))) rfl rfl rfl ?_
    refine TQ.op (yq (y_move (ev_t rfl))) rfl rfl rfl ?_
    refine TQ.op (yq (y_len (ev_t rfl) Try.underlying34 (fun w hw => ((ri_row 0 rfl) w hw).ln))) rfl rfl rfl ?_
    refine TQ.op (yq (y_lss (ev_t rfl) (ev_t rfl))) rfl rfl rfl ?_
    refine TQ.op (yq (y_move (ev_t rfl))) rfl rfl rfl ?_
    refine TQ.opw (w_t rfl rfl rfl) (fun hg => yq (y_move (ev_t rfl))) rfl rfl ?_
    refine TQ.opw (w_t rfl rfl rfl) (fun hg => yq (y_move (ev_t rfl))) rfl rfl ?_
    refine TQ.opw (w_t rfl rfl rfl) (fun hg => yq (y_idx (k := k2) (ev_g rfl hg) (ev_g rfl hg) (by first | omega | simp) slT_34 (ri_row 0 rfl) (show k2 < out1.length by have hgf := (of_decide_eq_true hg); omega))) rfl rfl ?_
    refine TQ.opw (w_t rfl rfl rfl) (fun hg => yq (y_ldi (ev_g rfl hg) one_3 (ri_row 0 rfl) (show k2 < out1.length by have hgf := (of_decide_eq_true hg); omega))) rfl rfl ?_
    refine TQ.opw (w_t rfl rfl rfl) (fun hg => yq (y_move (ev_t rfl))) rfl rfl ?_
    refine TQ.opw (w_t rfl rfl rfl) (fun hg => yq (y_move (ev_t rfl))) rfl rfl ?_
    refine TQ.opw (w_t rfl rfl rfl) (fun hg => yq (y_idx (k := i1) (ev_g rfl hg) (ev_g rfl hg) (by first | omega | simp) slT_34 (ri_arg hlist) (show i1 < list.length by have hgf := (of_decide_eq_true hg); omega))) rfl rfl ?_
    refine TQ.opw (w_t rfl rfl rfl) (fun hg => yq (y_ldi (ev_g rfl hg) one_3 (ri_arg hlist) (show i1 < list.length by have hgf := (of_decide_eq_true hg); omega))) rfl rfl ?_
    refine TQ.opw (w_t rfl rfl rfl) (fun hg => yq (y_leq (ev_g rfl hg) (ev_g rfl hg))) rfl rfl ?_
    refine TQ.op (yq (y_and (ev_t rfl) (fun hq => (ev_g rfl hq)))) rfl rfl rfl ?_
    refine TQ.nil ?_
    refine TN.seq ?_
    refine TC.cond (b := ((decide ((k2 : Int) < (out1.length : Int))) && (decide ((out1.getD k2 0) ≤ (list.getD i1 0))))) (ev_t rfl) (fun h27 => ?_) (fun h27 => ?_)
    · rw [bif_pos h27] at hL2
      have q28 := (and_imp (and_t h27) (fun h => (of_decide_eq_true h)) (fun h => (of_decide_eq_true h)))
      refine TC.skip ?_
      refine TN.seq ?_
      refine TC.block ?_
      refine TC.region ?_
      refine TL.op (yq (y_move (ev_t rfl))) rfl rfl rfl ?_
      refine TL.op (yq (y_add (ev_t rfl) ev_c (by unfold In64; omega))) rfl rfl rfl ?_
      refine TL.op (yq (y_assign (ev_t rfl))) rfl rfl rfl ?_
      refine TL.nil ?_
      refine TN.blockN ?_
      exact TN.hand (mf2, (k2 + 1)) ⟨(by first | omega | (simp [-List.getD_eq_getElem?_getD] <;> omega)), (by omega), hL2⟩ (Nat.lt_succ_self _) ⟨rfl, rfl, rfl, rfl, trivial⟩ (fun w hw => hw)
    · rw [bif_neg h27] at hL2
      have q28 := ((and_f h27).imp (fun h => (of_decide_eq_false h)) (fun h => (of_decide_eq_false h)))
      refine TC.exit ?_
      refine TN.thenE ?_
      refine TN.thenE ?_
      rw [← hL2, elim_next] at hL1
      try dsimp only at hL1
      refine TN.blockH ?_
      refine TN.seq ?_
      refine TC.mid (fun a' w' => ∃ v8_14 : Value, Slots 46 [(0, vlist), (3, v8_14), (4, (.int .i64 (i1 : Int)))] a' ∧ Hp w [rowI 3 v8_14 (((([] : List Int) ++ ((out1.take k2).drop 0)) ++ ([(list.getD i1 0)])) ++ ((out1.take out1.length).drop k2))] w') ?_ ?_
      · refine TC.regionH 16 (Hp w [rowI 3 vout1 out1]) rfl (by kernel_rfl) dr_hp (fun w hw => hw) ?_
        refine TH.take 1 rfl (by kernel_rfl) (y_move (ev_t rfl)) rfl rfl rfl ?_
        refine TH.take 2 rfl (by kernel_rfl) (y_move (ev_t rfl)) rfl rfl rfl ?_
        have hs29 : 0 ≤ k2 := (by first | omega | (simp only [List.length_set, List.length_append, List.length_cons, List.length_nil, List.length_replicate]; omega) | (rw [sortI_length]; simp only [List.length_cons, List.length_nil]; omega))
        have hs30 : k2 ≤ out1.length := (by first | omega | (simp only [List.length_set, List.length_append, List.length_cons, List.length_nil, List.length_replicate]; omega) | (rw [sortI_length]; simp only [List.length_cons, List.length_nil]; omega))
        refine TH.take 3 rfl (by kernel_rfl) (y_slice_hi (ev_t rfl) (ev_t rfl) (hi := k2) (by omega) slT_34 (ri_row 0 rfl) hs30) rfl rfl rfl ?_
        refine TH.take 5 rfl (by kernel_rfl) (y_move (ev_t rfl)) rfl rfl rfl ?_
        refine TH.take 6 rfl (by kernel_rfl) (y_move (ev_t rfl)) rfl rfl rfl ?_
        have hb31 : i1 < list.length := (by first | omega | (simp only [List.length_set, List.length_append, List.length_cons, List.length_nil, List.length_replicate]; omega) | (rw [sortI_length]; simp only [List.length_cons, List.length_nil]; omega))
        refine TH.take 7 rfl (by kernel_rfl) (y_idx (k := i1) (ev_t rfl) (ev_t rfl) (by first | omega | simp) slT_34 (ri_arg hlist) hb31) rfl rfl rfl ?_
        refine TH.take 8 rfl (by kernel_rfl) (y_ldi (ev_t rfl) one_3 (ri_arg hlist) hb31) rfl rfl rfl ?_
        refine TH.take 11 rfl (by kernel_rfl) (y_move (ev_t rfl)) rfl rfl rfl ?_
        refine TH.take 12 rfl (by kernel_rfl) (y_move (ev_t rfl)) rfl rfl rfl ?_
        have hs32 : k2 ≤ out1.length := (by first | omega | (simp only [List.length_set, List.length_append, List.length_cons, List.length_nil, List.length_replicate]; omega) | (rw [sortI_length]; simp only [List.length_cons, List.length_nil]; omega))
        have hs33 : out1.length ≤ out1.length := (by first | omega | (simp only [List.length_set, List.length_append, List.length_cons, List.length_nil, List.length_replicate]; omega) | (rw [sortI_length]; simp only [List.length_cons, List.length_nil]; omega))
        refine TH.take 13 rfl (by kernel_rfl) (y_slice_lo (ev_t rfl) (ev_t rfl) (lo := k2) (by omega) slT_34 (ri_row 0 rfl) hs32) rfl rfl rfl ?_
        refine TH.loud2 0 9 rfl rfl (by kernel_rfl) ?_ ?_
        · refine TL.buildI (zs := []) (qs := []) slT_34 rfl trivial rfl (by decide) rfl (fun v8_0 => ?_)
          refine TL.nil ?_
          refine TH.back (fun w hw => Hp.sublist hw (.cons _ (.cons_cons _ .slnil))) ?_
          refine TH.loud2 4 9 rfl rfl (by kernel_rfl) ?_ ?_
          · refine TL.appendI 0 (ev_t rfl) (ev_t rfl) rfl slT_34 (fun w hw => ri_resl ((ri_row 1 rfl) w hw) hs29 hs30) (by first | omega | (simp [-List.getD_eq_getElem?_getD] <;> omega)) rfl (fun v8_4 => ?_)
            refine TL.nil ?_
            refine TH.back (fun w hw => Hp.sublist hw (.cons _ (.cons_cons _ .slnil))) ?_
            refine TH.loud 9 rfl (by kernel_rfl) ?_
            refine TL.buildI (zs := [.tmp 38]) (qs := [(list.getD i1 0)]) slT_34 rfl ⟨(ev_t rfl), trivial⟩ rfl (by decide) rfl (fun v8_9 => ?_)
            refine TL.nil ?_
            refine TH.back (fun w hw => Hp.sublist hw (.cons _ (.cons _ (.cons_cons _ .slnil)))) ?_
            refine TH.loud 10 rfl (by kernel_rfl) ?_
            refine TL.appendI 1 (ev_t rfl) (ev_t rfl) rfl slT_34 (ri_row 0 rfl) (by first | omega | (simp [-List.getD_eq_getElem?_getD] <;> omega)) rfl (fun v8_10 => ?_)
            refine TL.nil ?_
            refine TH.back (fun w hw => Hp.sublist hw (.cons _ (.cons _ (.cons_cons _ .slnil)))) ?_
            refine TH.loud 14 rfl (by kernel_rfl) ?_
            refine TL.appendI 1 (ev_t rfl) (ev_t rfl) rfl slT_34 (fun w hw => ri_resl ((ri_row 2 rfl) w hw) hs32 hs33) (by first | omega | (simp [-List.getD_eq_getElem?_getD] <;> omega)) rfl (fun v8_14 => ?_)
            refine TL.nil ?_
            refine TH.back (fun w hw => Hp.sublist hw (.cons _ (.cons _ (.cons_cons _ .slnil)))) ?_
            refine TH.take 15 rfl (by kernel_rfl) (y_assign (ev_t rfl)) rfl rfl rfl ?_
            refine TH.done (by kernel_rfl) ?_
            exact fun a' w' hs hw => ⟨v8_14, hs.sub ⟨rfl, rfl, rfl, trivial⟩, Hp.sublist hw (.cons _ (.cons_cons _ (.cons _ .slnil)))⟩
          · refine TL.buildI (zs := [.tmp 38]) (qs := [(list.getD i1 0)]) slT_34 rfl ⟨(ev_t rfl), trivial⟩ rfl (by decide) rfl (fun v8_9 => ?_)
            refine TL.nil ?_
            refine TH.back (fun w hw => Hp.sublist hw (.cons _ (.cons _ (.cons_cons _ .slnil)))) ?_
            refine TH.loud 4 rfl (by kernel_rfl) ?_
            refine TL.appendI 1 (ev_t rfl) (ev_t rfl) rfl slT_34 (fun w hw => ri_resl ((ri_row 2 rfl) w hw) hs29 hs30) (by first | omega | (simp [-List.getD_eq_getElem?_getD] <;> omega)) rfl (fun v8_4 => ?_)
            refine TL.nil ?_
            refine TH.back (fun w hw => Hp.sublist hw (.cons _ (.cons _ (.cons_cons _ .slnil)))) ?_
            refine TH.loud 10 rfl (by kernel_rfl) ?_
            refine TL.appendI 1 (ev_t rfl) (ev_t rfl) rfl slT_34 (ri_row 0 rfl) (by first | omega | (simp [-List.getD_eq_getElem?_getD] <;> omega)) rfl (fun v8_10 => ?_)
            refine TL.nil ?_
            refine TH.back (fun w hw => Hp.sublist hw (.cons _ (.cons _ (.cons_cons _ .slnil)))) ?_
            refine TH.loud 14 rfl (by kernel_rfl) ?_
            refine TL.appendI 1 (ev_t rfl) (ev_t rfl) rfl slT_34 (fun w hw => ri_resl ((ri_row 2 rfl) w hw) hs32 hs33) (by first | omega | (simp [-List.getD_eq_getElem?_getD] <;> omega)) rfl (fun v8_14 => ?_)
            refine TL.nil ?_
            refine TH.back (fun w hw => Hp.sublist hw (.cons _ (.cons _ (.cons_cons _ .slnil)))) ?_
            refine TH.take 15 rfl (by kernel_rfl) (y_assign (ev_t rfl)) rfl rfl rfl ?_
            refine TH.done (by kernel_rfl) ?_
            exact fun a' w' hs hw => ⟨v8_14, hs.sub ⟨rfl, rfl, rfl, trivial⟩, Hp.sublist hw (.cons _ (.cons_cons _ (.cons _ .slnil)))⟩
        · refine TL.buildI (zs := [.tmp 38]) (qs := [(list.getD i1 0)]) slT_34 rfl ⟨(ev_t rfl), trivial⟩ rfl (by decide) rfl (fun v8_9 => ?_)
          refine TL.nil ?_
          refine TH.back (fun w hw => Hp.sublist hw (.cons _ (.cons_cons _ .slnil))) ?_
          refine TH.loud 0 rfl (by kernel_rfl) ?_
          refine TL.buildI (zs := []) (qs := []) slT_34 rfl trivial rfl (by decide) rfl (fun v8_0 => ?_)
          refine TL.nil ?_
          refine TH.back (fun w hw => Hp.sublist hw (.cons _ (.cons _ (.cons_cons _ .slnil)))) ?_
          refine TH.loud 4 rfl (by kernel_rfl) ?_
          refine TL.appendI 0 (ev_t rfl) (ev_t rfl) rfl slT_34 (fun w hw => ri_resl ((ri_row 2 rfl) w hw) hs29 hs30) (by first | omega | (simp [-List.getD_eq_getElem?_getD] <;> omega)) rfl (fun v8_4 => ?_)
          refine TL.nil ?_
          refine TH.back (fun w hw => Hp.sublist hw (.cons _ (.cons _ (.cons_cons _ .slnil)))) ?_
          refine TH.loud 10 rfl (by kernel_rfl) ?_
          refine TL.appendI 0 (ev_t rfl) (ev_t rfl) rfl slT_34 (ri_row 1 rfl) (by first | omega | (simp [-List.getD_eq_getElem?_getD] <;> omega)) rfl (fun v8_10 => ?_)
          refine TL.nil ?_
          refine TH.back (fun w hw => Hp.sublist hw (.cons _ (.cons _ (.cons_cons _ .slnil)))) ?_
          refine TH.loud 14 rfl (by kernel_rfl) ?_
          refine TL.appendI 0 (ev_t rfl) (ev_t rfl) rfl slT_34 (fun w hw => ri_resl ((ri_row 2 rfl) w hw) hs32 hs33) (by first | omega | (simp [-List.getD_eq_getElem?_getD] <;> omega)) rfl (fun v8_14 => ?_)
          refine TL.nil ?_
          refine TH.back (fun w hw => Hp.sublist hw (.cons _ (.cons _ (.cons_cons _ .slnil)))) ?_
          refine TH.take 15 rfl (by kernel_rfl) (y_assign (ev_t rfl)) rfl rfl rfl ?_
          refine TH.done (by kernel_rfl) ?_
          exact fun a' w' hs hw => ⟨v8_14, hs.sub ⟨rfl, rfl, rfl, trivial⟩, Hp.sublist hw (.cons_cons _ (.cons _ (.cons _ .slnil)))⟩
      · rintro a' w' ⟨v8_14, hs', hw'⟩
        refine (?_ : TN _ .normal 46 (Hp w [rowI 3 v8_14 (((([] : List Int) ++ ((out1.take k2).drop 0)) ++ ([(list.getD i1 0)])) ++ ((out1.take out1.length).drop k2))]) [(0, vlist), (3, v8_14), (4, (.int .i64 (i1 : Int)))]) a' w' hs' hw'
        clear hs' hw'
        refine TN.blockN ?_
        refine TN.seq ?_
        refine TC.region ?_
        refine TL.op (yq (y_move (ev_t rfl))) rfl rfl rfl ?_
        refine TL.op (yq (y_add (ev_t rfl) ev_c (by unfold In64; omega))) rfl rfl rfl ?_
        refine TL.op (yq (y_assign (ev_t rfl))) rfl rfl rfl ?_
        refine TL.nil ?_
        exact TN.hand (mf1, (((([] : List Int) ++ ((out1.take k2).drop 0)) ++ ([(list.getD i1 0)])) ++ ((out1.take out1.length).drop k2)), (i1 + 1), v8_14) ⟨(by first | omega | (simp [-List.getD_eq_getElem?_getD] <;> omega)), (by first | omega | (simp [-List.getD_eq_getElem?_getD] <;> omega)), (by omega), hL1⟩ (Nat.lt_succ_self _) ⟨rfl, rfl, rfl, trivial⟩ (fun w hw => hw)
  · rw [bif_neg h23] at hL1
    have q24 := (of_decide_eq_false h23)
    refine TC.exit ?_
    refine TN.thenE ?_
    refine TN.thenE ?_
    rw [← hL1, elim_next] at hF
    try dsimp only at hF
    refine TN.blockH ?_
    refine TN.seq ?_
    refine TC.seq ?_
    refine TC.region ?_
    refine TL.op (yq (y_move (ev_t rfl))) rfl rfl rfl ?_
    refine TL.op (yq (y_assign (ev_t rfl))) rfl rfl rfl ?_
    refine TL.nil ?_
    refine TN.seq ?_
    refine TC.ret ?_
    subst hF
    exact TN.ret1 rfl (ev_t rfl) (fun w' hw => ⟨vout1, rfl, hw⟩)

set_option maxRecDepth 4000 in
set_option maxHeartbeats 1000000 in
theorem spec_l1Cur_next_ok (w0 w : World) (fr : List Ck) (gc : Nat) (vc : Value) (code : List Int) (hcode : RB w0 vc code) (at_ : Int) (seed : Int) (hw : Hp w0 (.blk gc 61 [vc, (.int .i64 at_), (.int .u64 seed)] :: fr) w) (hp0 : 0 ≤ at_) (hp1 : at_ ≤ 4000000000) (hp2 : 0 ≤ seed) (hp3 : seed < 18446744073709551616) :
    Calls Try.prog 79 ([(.pointer (some ⟨gc, 0, none⟩))] : List Value).toArray w (fun e w' => True ∧ ∃ _i : Unit, e = .returned (.int .i64 ((F_spec_l1Cur_next code at_ seed).1)) ∧ Hp w0 ([.blk gc 61 [vc, (.int .i64 ((F_spec_l1Cur_next code at_ seed).2.1)), (.int .u64 ((F_spec_l1Cur_next code at_ seed).2.2))]] ++ fr) w') := by
  obtain ⟨rz, hF⟩ : ∃ rz, (F_spec_l1Cur_next code at_ seed) = rz := ⟨_, rfl⟩
  rw [hF]
  unfold F_spec_l1Cur_next at hF
  have hlen_code := argB_len hcode
  refine calls_tcm Try.func79 rfl rfl rfl hw ?_
  change TC _ _ _ _ (Hp w0 ([.blk gc 61 [vc, (.int .i64 at_), (.int .u64 seed)]] ++ fr)) [(0, (.pointer (some ⟨gc, 0, none⟩)))]
  refine TC.seq ?_
  refine TC.region ?_
  refine TL.op (yq (y_assign ev_c)) rfl rfl rfl ?_
  refine TL.nil ?_
  refine TN.seq ?_
  refine TC.seq ?_
  refine TC.region ?_
  refine TL.op (yq (y_assign ev_c)) rfl rfl rfl ?_
  refine TL.nil ?_
  refine TN.seq ?_
  refine TC.seq ?_
  refine TC.seq ?_
  refine TC.regionQ (by kernel_rfl) (by kernel_rfl) dr_hp ?_
  refine TQ.op (yq (y_move (ev_t rfl))) rfl rfl rfl ?_
  refine TQ.op (yq (y_nilp (ev_t rfl))) rfl rfl rfl ?_
  refine TQ.op (yq (y_fa (fa_61_1 gc) (ev_t rfl))) rfl rfl rfl ?_
  refine TQ.op (yq (y_ldb 0 (ev_t rfl) one_3 rfl rfl)) rfl rfl rfl ?_
  refine TQ.op (yq (y_move (ev_t rfl))) rfl rfl rfl ?_
  refine TQ.op (yq (y_nilp (ev_t rfl))) rfl rfl rfl ?_
  refine TQ.op (yq (y_fa (fa_61_0 gc) (ev_t rfl))) rfl rfl rfl ?_
  refine TQ.op (yq (y_ldb 0 (ev_t rfl) one_22 rfl rfl)) rfl rfl rfl ?_
  refine TQ.op (yq (y_len (ev_t rfl) Try.underlying22 (fun w hw => ((rd_arg hcode.1) w hw).ln))) rfl rfl rfl ?_
  refine TQ.op (yq (y_lss (ev_t rfl) (ev_t rfl))) rfl rfl rfl ?_
  refine TQ.nil ?_
  refine TN.seq ?_
  refine TC.cond (b := decide (at_ < (code.length : Int))) (ev_t rfl) (fun h9 => ?_) (fun h9 => ?_)
  · rw [bif_pos h9] at hF
    have q10 := (of_decide_eq_true h9)
    refine TC.regionQ (by kernel_rfl) (by kernel_rfl) dr_hp ?_
    refine TQ.op (yq (y_move (ev_t rfl))) rfl rfl rfl ?_
    refine TQ.op (yq (y_nilp (ev_t rfl))) rfl rfl rfl ?_
    refine TQ.op (yq (y_fa (fa_61_0 gc) (ev_t rfl))) rfl rfl rfl ?_
    refine TQ.op (yq (y_ldb 0 (ev_t rfl) one_22 rfl rfl)) rfl rfl rfl ?_
    refine TQ.op (yq (y_move (ev_t rfl))) rfl rfl rfl ?_
    refine TQ.op (yq (y_nilp (ev_t rfl))) rfl rfl rfl ?_
    refine TQ.op (yq (y_fa (fa_61_1 gc) (ev_t rfl))) rfl rfl rfl ?_
    refine TQ.op (yq (y_ldb 0 (ev_t rfl) one_3 rfl rfl)) rfl rfl rfl ?_
    have hb11 : (at_).toNat < code.length := (by first | omega | (simp only [List.length_set, List.length_append, List.length_cons, List.length_nil, List.length_replicate]; omega) | (rw [sortI_length]; simp only [List.length_cons, List.length_nil]; omega))
    refine TQ.op (yq (y_idx (k := (at_).toNat) (ev_t rfl) (ev_t rfl) (by first | omega | simp) slT_22 (rd_arg hcode.1) hb11)) rfl rfl rfl ?_
    have hu12 := hcode.2 ((at_).toNat)
    refine TQ.op (yq (y_ld8 (ev_t rfl) one_5 (rd_arg hcode.1) hb11)) rfl rfl rfl ?_
    refine TQ.op (yq (y_conv_i64 (ev_t rfl) Try.underlying5 Try.underlying3 (by first | omega | (simp only [List.length_set, List.length_append, List.length_cons, List.length_nil, List.length_replicate]; omega) | (rw [sortI_length]; simp only [List.length_cons, List.length_nil]; omega)))) rfl rfl rfl ?_
    refine TQ.op (yq (y_assign (ev_t rfl))) rfl rfl rfl ?_
    refine TQ.nil ?_
    refine TN.seq ?_
    refine TC.seq ?_
    refine TC.region ?_
    refine TL.op (yq (y_move (ev_t rfl))) rfl rfl rfl ?_
    refine TL.op (yq (y_nilp (ev_t rfl))) rfl rfl rfl ?_
    refine TL.op (yq (y_fa (fa_61_1 gc) (ev_t rfl))) rfl rfl rfl ?_
    refine TL.op (yq (y_ldb 0 (ev_t rfl) one_3 rfl rfl)) rfl rfl rfl ?_
    refine TL.op (yq (y_add (ev_t rfl) ev_c (by unfold In64; omega))) rfl rfl rfl ?_
    refine TL.op (yq (y_nilp (ev_t rfl))) rfl rfl rfl ?_
    refine TL.op (yq (y_fa (fa_61_1 gc) (ev_t rfl))) rfl rfl rfl ?_
    refine TL.storeB 0 (ev_t rfl) (ev_t rfl) one_3 rfl (by first | decide | simp) (fun w hw => rfl) ?_
    refine TL.nil ?_
    refine TN.seq ?_
    refine TC.seq ?_
    refine TC.region ?_
    refine TL.op (yq (y_move (ev_t rfl))) rfl rfl rfl ?_
    refine TL.op (yq (y_move (ev_t rfl))) rfl rfl rfl ?_
    refine TL.op (yq (y_nilp (ev_t rfl))) rfl rfl rfl ?_
    refine TL.op (yq (y_fa (fa_61_2 gc) (ev_t rfl))) rfl rfl rfl ?_
    refine TL.op (yq (y_ldb 0 (ev_t rfl) one_59 rfl rfl)) rfl rfl rfl ?_
    refine TL.op (yq (y_mulu (ev_t rfl) ev_c)) rfl rfl rfl ?_
    refine TL.op (yq (y_move (ev_t rfl))) rfl rfl rfl ?_
    refine TL.op (yq (y_conv_u64 (ev_t rfl) Try.underlying3 Try.underlying59 (by first | omega | (simp only [List.length_set, List.length_append, List.length_cons, List.length_nil, List.length_replicate]; omega) | (rw [sortI_length]; simp only [List.length_cons, List.length_nil]; omega)))) rfl rfl rfl ?_
    refine TL.op (yq (y_addu (ev_t rfl) (ev_t rfl))) rfl rfl rfl ?_
    refine TL.op (yq (y_addu (ev_t rfl) ev_c)) rfl rfl rfl ?_
    refine TL.op (yq (y_nilp (ev_t rfl))) rfl rfl rfl ?_
    refine TL.op (yq (y_fa (fa_61_2 gc) (ev_t rfl))) rfl rfl rfl ?_
    refine TL.storeB 0 (ev_t rfl) (ev_t rfl) one_59 rfl (by first | decide | simp) (fun w hw => rfl) ?_
    refine TL.nil ?_
    refine TN.seq ?_
    refine TC.seq ?_
    refine TC.seq ?_
    refine TC.regionQ (by kernel_rfl) (by kernel_rfl) dr_hp ?_
    refine TQ.op (yq (y_move (ev_t rfl))) rfl rfl rfl ?_
    refine TQ.op (yq (y_nilp (ev_t rfl))) rfl rfl rfl ?_
    refine TQ.op (yq (y_fa (fa_61_1 gc) (ev_t rfl))) rfl rfl rfl ?_
    refine TQ.op (yq (y_ldb 0 (ev_t rfl) one_3 rfl rfl)) rfl rfl rfl ?_
    refine TQ.op (yq (y_move (ev_t rfl))) rfl rfl rfl ?_
    refine TQ.op (yq (y_nilp (ev_t rfl))) rfl rfl rfl ?_
    refine TQ.op (yq (y_fa (fa_61_0 gc) (ev_t rfl))) rfl rfl rfl ?_
    refine TQ.op (yq (y_ldb 0 (ev_t rfl) one_22 rfl rfl)) rfl rfl rfl ?_
    refine TQ.op (yq (y_len (ev_t rfl) Try.underlying22 (fun w hw => ((rd_arg hcode.1) w hw).ln))) rfl rfl rfl ?_
    refine TQ.op (yq (y_leq (ev_t rfl) (ev_t rfl))) rfl rfl rfl ?_
    refine TQ.nil ?_
    refine TN.seq ?_
    refine TC.cond (b := decide (at_ + 1 ≤ (code.length : Int))) (ev_t rfl) (fun h13 => ?_) (fun h13 => ?_)
    · rw [bif_pos h13] at hF
      have q14 := (of_decide_eq_true h13)
      refine TC.seq ?_
      refine TC.region ?_
      refine TL.op (yq (y_move (ev_t rfl))) rfl rfl rfl ?_
      refine TL.op (yq (y_assign (ev_t rfl))) rfl rfl rfl ?_
      refine TL.nil ?_
      refine TN.seq ?_
      refine TC.ret ?_
      refine TN.thenR ?_
      subst hF
      exact TN.ret1 rfl (ev_t rfl) (fun w' hw => ⟨trivial, (), rfl, hw⟩)
    · rw [bif_neg h13] at hF
      have q14 := (of_decide_eq_false h13)
      refine TC.skip ?_
      refine TN.seq ?_
      refine TC.seq ?_
      refine TC.region ?_
      refine TL.op (yq (y_move (ev_t rfl))) rfl rfl rfl ?_
      refine TL.op (yq (y_nilp (ev_t rfl))) rfl rfl rfl ?_
      refine TL.op (yq (y_fa (fa_61_2 gc) (ev_t rfl))) rfl rfl rfl ?_
      refine TL.op (yq (y_ldb 0 (ev_t rfl) one_59 rfl rfl)) rfl rfl rfl ?_
      refine TL.op (yq (y_shr40 (ev_t rfl) ev_c (by omega))) rfl rfl rfl ?_
      refine TL.op (yq (y_and255 (ev_t rfl) ev_c (by omega) (by omega))) rfl rfl rfl ?_
      refine TL.op (yq (y_conv_i64 (ev_t rfl) Try.underlying59 Try.underlying3 (by first | omega | (simp only [List.length_set, List.length_append, List.length_cons, List.length_nil, List.length_replicate]; omega) | (rw [sortI_length]; simp only [List.length_cons, List.length_nil]; omega)))) rfl rfl rfl ?_
      refine TL.op (yq (y_assign (ev_t rfl))) rfl rfl rfl ?_
      refine TL.nil ?_
      refine TN.seq ?_
      refine TC.ret ?_
      subst hF
      exact TN.ret1 rfl (ev_t rfl) (fun w' hw => ⟨trivial, (), rfl, hw⟩)
  · rw [bif_neg h9] at hF
    have q10 := (of_decide_eq_false h9)
    refine TC.skip ?_
    refine TN.seq ?_
    refine TC.seq ?_
    refine TC.region ?_
    refine TL.op (yq (y_move (ev_t rfl))) rfl rfl rfl ?_
    refine TL.op (yq (y_nilp (ev_t rfl))) rfl rfl rfl ?_
    refine TL.op (yq (y_fa (fa_61_1 gc) (ev_t rfl))) rfl rfl rfl ?_
    refine TL.op (yq (y_ldb 0 (ev_t rfl) one_3 rfl rfl)) rfl rfl rfl ?_
    refine TL.op (yq (y_add (ev_t rfl) ev_c (by unfold In64; omega))) rfl rfl rfl ?_
    refine TL.op (yq (y_nilp (ev_t rfl))) rfl rfl rfl ?_
    refine TL.op (yq (y_fa (fa_61_1 gc) (ev_t rfl))) rfl rfl rfl ?_
    refine TL.storeB 0 (ev_t rfl) (ev_t rfl) one_3 rfl (by first | decide | simp) (fun w hw => rfl) ?_
    refine TL.nil ?_
    refine TN.seq ?_
    refine TC.seq ?_
    refine TC.region ?_
    refine TL.op (yq (y_move (ev_t rfl))) rfl rfl rfl ?_
    refine TL.op (yq (y_move (ev_t rfl))) rfl rfl rfl ?_
    refine TL.op (yq (y_nilp (ev_t rfl))) rfl rfl rfl ?_
    refine TL.op (yq (y_fa (fa_61_2 gc) (ev_t rfl))) rfl rfl rfl ?_
    refine TL.op (yq (y_ldb 0 (ev_t rfl) one_59 rfl rfl)) rfl rfl rfl ?_
    refine TL.op (yq (y_mulu (ev_t rfl) ev_c)) rfl rfl rfl ?_
    refine TL.op (yq (y_move (ev_t rfl))) rfl rfl rfl ?_
    refine TL.op (yq (y_conv_u64 (ev_t rfl) Try.underlying3 Try.underlying59 (by first | omega | (simp only [List.length_set, List.length_append, List.length_cons, List.length_nil, List.length_replicate]; omega) | (rw [sortI_length]; simp only [List.length_cons, List.length_nil]; omega)))) rfl rfl rfl ?_
    refine TL.op (yq (y_addu (ev_t rfl) (ev_t rfl))) rfl rfl rfl ?_
    refine TL.op (yq (y_addu (ev_t rfl) ev_c)) rfl rfl rfl ?_
    refine TL.op (yq (y_nilp (ev_t rfl))) rfl rfl rfl ?_
    refine TL.op (yq (y_fa (fa_61_2 gc) (ev_t rfl))) rfl rfl rfl ?_
    refine TL.storeB 0 (ev_t rfl) (ev_t rfl) one_59 rfl (by first | decide | simp) (fun w hw => rfl) ?_
    refine TL.nil ?_
    refine TN.seq ?_
    refine TC.seq ?_
    refine TC.seq ?_
    refine TC.regionQ (by kernel_rfl) (by kernel_rfl) dr_hp ?_
    refine TQ.op (yq (y_move (ev_t rfl))) rfl rfl rfl ?_
    refine TQ.op (yq (y_nilp (ev_t rfl))) rfl rfl rfl ?_
    refine TQ.op (yq (y_fa (fa_61_1 gc) (ev_t rfl))) rfl rfl rfl ?_
    refine TQ.op (yq (y_ldb 0 (ev_t rfl) one_3 rfl rfl)) rfl rfl rfl ?_
    refine TQ.op (yq (y_move (ev_t rfl))) rfl rfl rfl ?_
    refine TQ.op (yq (y_nilp (ev_t rfl))) rfl rfl rfl ?_
    refine TQ.op (yq (y_fa (fa_61_0 gc) (ev_t rfl))) rfl rfl rfl ?_
    refine TQ.op (yq (y_ldb 0 (ev_t rfl) one_22 rfl rfl)) rfl rfl rfl ?_
    refine TQ.op (yq (y_len (ev_t rfl) Try.underlying22 (fun w hw => ((rd_arg hcode.1) w hw).ln))) rfl rfl rfl ?_
    refine TQ.op (yq (y_leq (ev_t rfl) (ev_t rfl))) rfl rfl rfl ?_
    refine TQ.nil ?_
    refine TN.seq ?_
    refine TC.cond (b := decide (at_ + 1 ≤ (code.length : Int))) (ev_t rfl) (fun h15 => ?_) (fun h15 => ?_)
    · rw [bif_pos h15] at hF
      have q16 := (of_decide_eq_true h15)
      refine TC.seq ?_
      refine TC.region ?_
      refine TL.op (yq (y_move (ev_t rfl))) rfl rfl rfl ?_
      refine TL.op (yq (y_assign (ev_t rfl))) rfl rfl rfl ?_
      refine TL.nil ?_
      refine TN.seq ?_
      refine TC.ret ?_
      refine TN.thenR ?_
      subst hF
      exact TN.ret1 rfl (ev_t rfl) (fun w' hw => ⟨trivial, (), rfl, hw⟩)
    · rw [bif_neg h15] at hF
      have q16 := (of_decide_eq_false h15)
      refine TC.skip ?_
      refine TN.seq ?_
      refine TC.seq ?_
      refine TC.region ?_
      refine TL.op (yq (y_move (ev_t rfl))) rfl rfl rfl ?_
      refine TL.op (yq (y_nilp (ev_t rfl))) rfl rfl rfl ?_
      refine TL.op (yq (y_fa (fa_61_2 gc) (ev_t rfl))) rfl rfl rfl ?_
      refine TL.op (yq (y_ldb 0 (ev_t rfl) one_59 rfl rfl)) rfl rfl rfl ?_
      refine TL.op (yq (y_shr40 (ev_t rfl) ev_c (by omega))) rfl rfl rfl ?_
      refine TL.op (yq (y_and255 (ev_t rfl) ev_c (by omega) (by omega))) rfl rfl rfl ?_
      refine TL.op (yq (y_conv_i64 (ev_t rfl) Try.underlying59 Try.underlying3 (by first | omega | (simp only [List.length_set, List.length_append, List.length_cons, List.length_nil, List.length_replicate]; omega) | (rw [sortI_length]; simp only [List.length_cons, List.length_nil]; omega)))) rfl rfl rfl ?_
      refine TL.op (yq (y_assign (ev_t rfl))) rfl rfl rfl ?_
      refine TL.nil ?_
      refine TN.seq ?_
      refine TC.ret ?_
      subst hF
      exact TN.ret1 rfl (ev_t rfl) (fun w' hw => ⟨trivial, (), rfl, hw⟩)

set_option maxRecDepth 4000 in
set_option maxHeartbeats 1000000 in
theorem spec_l1Cur_pick_ok (w0 w : World) (fr : List Ck) (gc : Nat) (vc : Value) (code : List Int) (hcode : RB w0 vc code) (at_ : Int) (seed : Int) (hw : Hp w0 (.blk gc 61 [vc, (.int .i64 at_), (.int .u64 seed)] :: fr) w) (n : Int) (hp0 : 0 ≤ at_) (hp1 : at_ ≤ 3000000000) (hp2 : 0 ≤ seed) (hp3 : seed < 18446744073709551616) :
    Calls Try.prog 43 ([(.pointer (some ⟨gc, 0, none⟩)), (.int .i64 n)] : List Value).toArray w (fun e w' => True ∧ ∃ _i : Unit, e = .returned (.int .i64 ((F_spec_l1Cur_pick code at_ seed n).1)) ∧ Hp w0 ([.blk gc 61 [vc, (.int .i64 ((F_spec_l1Cur_pick code at_ seed n).2.1)), (.int .u64 ((F_spec_l1Cur_pick code at_ seed n).2.2))]] ++ fr) w') := by
  obtain ⟨rz, hF⟩ : ∃ rz, (F_spec_l1Cur_pick code at_ seed n) = rz := ⟨_, rfl⟩
  rw [hF]
  unfold F_spec_l1Cur_pick at hF
  have hlen_code := argB_len hcode
  refine calls_tcm Try.func43 rfl rfl rfl hw ?_
  change TC _ _ _ _ (Hp w0 ([.blk gc 61 [vc, (.int .i64 at_), (.int .u64 seed)]] ++ fr)) [(0, (.pointer (some ⟨gc, 0, none⟩))), (1, (.int .i64 n))]
  refine TC.seq ?_
  refine TC.region ?_
  refine TL.op (yq (y_assign ev_c)) rfl rfl rfl ?_
  refine TL.nil ?_
  refine TN.seq ?_
  refine TC.seq ?_
  refine TC.seq ?_
  refine TC.region ?_
  refine TL.op (yq (y_move (ev_t rfl))) rfl rfl rfl ?_
  refine TL.op (yq (y_leq (ev_t rfl) ev_c)) rfl rfl rfl ?_
  refine TL.nil ?_
  refine TN.seq ?_
  refine TC.cond (b := decide (n ≤ 1)) (ev_t rfl) (fun h9 => ?_) (fun h9 => ?_)
  · rw [bif_pos h9] at hF
    have q10 := (of_decide_eq_true h9)
    refine TC.seq ?_
    refine TC.region ?_
    refine TL.op (yq (y_assign ev_c)) rfl rfl rfl ?_
    refine TL.nil ?_
    refine TN.seq ?_
    refine TC.ret ?_
    refine TN.thenR ?_
    subst hF
    exact TN.ret1 rfl (ev_t rfl) (fun w' hw => ⟨trivial, (), rfl, hw⟩)
  · rw [bif_neg h9] at hF
    have q10 := (of_decide_eq_false h9)
    refine TC.skip ?_
    refine TN.seq ?_
    refine TC.seq ?_
    refine TC.region ?_
    refine TL.op (yq (y_move (ev_t rfl))) rfl rfl rfl ?_
    refine TL.callmX (ι := Unit) (p := True) 0 (vs := [(.pointer (some ⟨gc, 0, none⟩))]) (fun _ => (.int .i64 ((F_spec_l1Cur_next code at_ seed).1))) (fun _ => .blk gc 61 [vc, (.int .i64 (((F_spec_l1Cur_next code at_ seed).2).1)), (.int .u64 (((F_spec_l1Cur_next code at_ seed).2).2))]) (fun _ => []) en_79 ⟨(ev_t rfl), trivial⟩ rfl rfl (fun w1 _ hw => spec_l1Cur_next_ok w0 w1 _ gc vc code hcode at_ seed hw (by first | assumption | omega | grind) (by first | assumption | omega | grind) (by first | assumption | omega | grind) (by first | assumption | omega | grind)) (fun hpo11 _ => ?_)
    replace hpo11 := next_post hcode.2 code at_ seed
    obtain ⟨q3_1, hq12⟩ : ∃ q, (F_spec_l1Cur_next code at_ seed) = q := ⟨_, rfl⟩
    rw [hq12] at hF hpo11 ⊢
    try dsimp only at hF
    refine TL.op (yq (y_assign (ev_t rfl))) rfl rfl rfl ?_
    refine TL.nil ?_
    refine TN.seq ?_
    refine TC.seq ?_
    refine TC.seq ?_
    refine TC.region ?_
    refine TL.op (yq (y_move (ev_t rfl))) rfl rfl rfl ?_
    refine TL.op (yq (y_gtr (ev_t rfl) ev_c)) rfl rfl rfl ?_
    refine TL.nil ?_
    refine TN.seq ?_
    refine TC.cond (b := decide (200 < n)) (ev_t rfl) (fun h13 => ?_) (fun h13 => ?_)
    · rw [bif_pos h13] at hF
      have q14 := (of_decide_eq_true h13)
      refine TC.region ?_
      refine TL.op (yq (y_move (ev_t rfl))) rfl rfl rfl ?_
      refine TL.op (yq (y_mul (ev_t rfl) ev_c (by unfold In64; omega))) rfl rfl rfl ?_
      refine TL.op (yq (y_move (ev_t rfl))) rfl rfl rfl ?_
      refine TL.callmX (ι := Unit) (p := True) 0 (vs := [(.pointer (some ⟨gc, 0, none⟩))]) (fun _ => (.int .i64 ((F_spec_l1Cur_next code ((q3_1.2).1) ((q3_1.2).2)).1))) (fun _ => .blk gc 61 [vc, (.int .i64 (((F_spec_l1Cur_next code ((q3_1.2).1) ((q3_1.2).2)).2).1)), (.int .u64 (((F_spec_l1Cur_next code ((q3_1.2).1) ((q3_1.2).2)).2).2))]) (fun _ => []) en_79 ⟨(ev_t rfl), trivial⟩ rfl rfl (fun w1 _ hw => spec_l1Cur_next_ok w0 w1 _ gc vc code hcode ((q3_1.2).1) ((q3_1.2).2) hw (by first | assumption | omega | grind) (by first | assumption | omega | grind) (by first | assumption | omega | grind) (by first | assumption | omega | grind)) (fun hpo15 _ => ?_)
      replace hpo15 := next_post hcode.2 code ((q3_1.2).1) ((q3_1.2).2)
      obtain ⟨q5_3, hq16⟩ : ∃ q, (F_spec_l1Cur_next code ((q3_1.2).1) ((q3_1.2).2)) = q := ⟨_, rfl⟩
      rw [hq16] at hF hpo15 ⊢
      try dsimp only at hF
      refine TL.op (yq (y_add (ev_t rfl) (ev_t rfl) (by unfold In64; omega))) rfl rfl rfl ?_
      refine TL.op (yq (y_assign (ev_t rfl))) rfl rfl rfl ?_
      refine TL.nil ?_
      refine TN.seq ?_
      refine TC.seq ?_
      refine TC.region ?_
      refine TL.op (yq (y_move (ev_t rfl))) rfl rfl rfl ?_
      refine TL.op (yq (y_move (ev_t rfl))) rfl rfl rfl ?_
      refine TL.op (yq (y_rem (ev_t rfl) (ev_t rfl) (by first | omega | (simp only [Int.natCast_ediv] at *; omega)) (by first | omega | (simp only [Int.natCast_ediv] at *; omega)))) rfl rfl rfl ?_
      refine TL.op (yq (y_assign (ev_t rfl))) rfl rfl rfl ?_
      refine TL.nil ?_
      refine TN.seq ?_
      refine TC.ret ?_
      subst hF
      exact TN.ret1 rfl (ev_t rfl) (fun w' hw => ⟨trivial, (), rfl, hw⟩)
    · rw [bif_neg h13] at hF
      have q14 := (of_decide_eq_false h13)
      refine TC.skip ?_
      refine TN.seq ?_
      refine TC.seq ?_
      refine TC.region ?_
      refine TL.op (yq (y_move (ev_t rfl))) rfl rfl rfl ?_
      refine TL.op (yq (y_move (ev_t rfl))) rfl rfl rfl ?_
      refine TL.op (yq (y_rem (ev_t rfl) (ev_t rfl) (by first | omega | (simp only [Int.natCast_ediv] at *; omega)) (by first | omega | (simp only [Int.natCast_ediv] at *; omega)))) rfl rfl rfl ?_
      refine TL.op (yq (y_assign (ev_t rfl))) rfl rfl rfl ?_
      refine TL.nil ?_
      refine TN.seq ?_
      refine TC.ret ?_
      subst hF
      exact TN.ret1 rfl (ev_t rfl) (fun w' hw => ⟨trivial, (), rfl, hw⟩)

set_option maxRecDepth 4000 in
set_option maxHeartbeats 1000000 in
theorem spec_l1Cur_one_ok (w0 w : World) (fr : List Ck) (gc : Nat) (vc : Value) (code : List Int) (hcode : RB w0 vc code) (at_ : Int) (seed : Int) (hw : Hp w0 (.blk gc 61 [vc, (.int .i64 at_), (.int .u64 seed)] :: fr) w) (n : Int) (hp0 : 0 ≤ at_) (hp1 : at_ ≤ 2000000000) (hp2 : 0 ≤ seed) (hp3 : seed < 18446744073709551616) :
    Calls Try.prog 44 ([(.pointer (some ⟨gc, 0, none⟩)), (.int .i64 n)] : List Value).toArray w (fun e w' => True ∧ ∃ _i : Unit, e = .returned (.bool ((F_spec_l1Cur_one code at_ seed n).1)) ∧ Hp w0 ([.blk gc 61 [vc, (.int .i64 ((F_spec_l1Cur_one code at_ seed n).2.1)), (.int .u64 ((F_spec_l1Cur_one code at_ seed n).2.2))]] ++ fr) w') := by
  obtain ⟨rz, hF⟩ : ∃ rz, (F_spec_l1Cur_one code at_ seed n) = rz := ⟨_, rfl⟩
  rw [hF]
  unfold F_spec_l1Cur_one at hF
  have hlen_code := argB_len hcode
  refine calls_tcm Try.func44 rfl rfl rfl hw ?_
  change TC _ _ _ _ (Hp w0 ([.blk gc 61 [vc, (.int .i64 at_), (.int .u64 seed)]] ++ fr)) [(0, (.pointer (some ⟨gc, 0, none⟩))), (1, (.int .i64 n))]
  refine TC.seq ?_
  refine TC.region ?_
  refine TL.op (yq (y_assign ev_c)) rfl rfl rfl ?_
  refine TL.nil ?_
  refine TN.seq ?_
  refine TC.seq ?_
  refine TC.region ?_
  refine TL.op (yq (y_move (ev_t rfl))) rfl rfl rfl ?_
  refine TL.op (yq (y_move (ev_t rfl))) rfl rfl rfl ?_
  refine TL.callmX (ι := Unit) (p := True) 0 (vs := [(.pointer (some ⟨gc, 0, none⟩)), (.int .i64 n)]) (fun _ => (.int .i64 ((F_spec_l1Cur_pick code at_ seed n).1))) (fun _ => .blk gc 61 [vc, (.int .i64 (((F_spec_l1Cur_pick code at_ seed n).2).1)), (.int .u64 (((F_spec_l1Cur_pick code at_ seed n).2).2))]) (fun _ => []) en_43 ⟨(ev_t rfl), (ev_t rfl), trivial⟩ rfl rfl (fun w1 _ hw => spec_l1Cur_pick_ok w0 w1 _ gc vc code hcode at_ seed hw n (by first | assumption | omega | grind) (by first | assumption | omega | grind) (by first | assumption | omega | grind) (by first | assumption | omega | grind)) (fun hpo3 _ => ?_)
  replace hpo3 := pick_post hcode.2 code at_ seed n (by omega)
  obtain ⟨q1_2, hq4⟩ : ∃ q, (F_spec_l1Cur_pick code at_ seed n) = q := ⟨_, rfl⟩
  rw [hq4] at hF hpo3 ⊢
  try dsimp only at hF
  refine TL.op (yq (y_eql (ev_t rfl) ev_c)) rfl rfl rfl ?_
  refine TL.op (yq (y_assign (ev_t rfl))) rfl rfl rfl ?_
  refine TL.nil ?_
  refine TN.seq ?_
  refine TC.ret ?_
  subst hF
  exact TN.ret1 rfl (ev_t rfl) (fun w' hw => ⟨trivial, (), rfl, hw⟩)

set_option maxRecDepth 4000 in
set_option maxHeartbeats 1000000 in
theorem spec_l1Cur_among_ok (w0 w : World) (fr : List Ck) (gc : Nat) (vc : Value) (code : List Int) (hcode : RB w0 vc code) (at_ : Int) (seed : Int) (hw : Hp w0 (.blk gc 61 [vc, (.int .i64 at_), (.int .u64 seed)] :: fr) w) (vlist : Value) (list : List Int) (hlist : ∀ (w' : World) (c : Ck), Hp w0 (c :: fr) w' → RI w' vlist list) (hp0 : 0 ≤ at_) (hp1 : at_ ≤ 1900000000) (hp2 : 0 ≤ seed) (hp3 : seed < 18446744073709551616) (hp4 : 1 ≤ list.length) (hp5 : list.length ≤ 1000) :
    Calls Try.prog 93 ([(.pointer (some ⟨gc, 0, none⟩)), vlist] : List Value).toArray w (fun e w' => (at_ ≤ ((F_spec_l1Cur_among code at_ seed list).2).1 ∧ ((F_spec_l1Cur_among code at_ seed list).2).1 ≤ at_ + 2 ∧ 0 ≤ ((F_spec_l1Cur_among code at_ seed list).2).2 ∧ ((F_spec_l1Cur_among code at_ seed list).2).2 < 18446744073709551616) ∧ ∃ _i : Unit, e = .returned (.int .i64 ((F_spec_l1Cur_among code at_ seed list).1)) ∧ Hp w0 ([.blk gc 61 [vc, (.int .i64 ((F_spec_l1Cur_among code at_ seed list).2.1)), (.int .u64 ((F_spec_l1Cur_among code at_ seed list).2.2))]] ++ fr) w') := by
  obtain ⟨rz, hF⟩ : ∃ rz, (F_spec_l1Cur_among code at_ seed list) = rz := ⟨_, rfl⟩
  rw [hF]
  unfold F_spec_l1Cur_among at hF
  have hlen_code := argB_len hcode
  have hlen_list := arg_len (hlist w _ hw)
  refine calls_tcm Try.func93 rfl rfl rfl hw ?_
  change TC _ _ _ _ (Hp w0 ([.blk gc 61 [vc, (.int .i64 at_), (.int .u64 seed)]] ++ fr)) [(0, (.pointer (some ⟨gc, 0, none⟩))), (1, vlist)]
  refine TC.seq ?_
  refine TC.region ?_
  refine TL.op (yq (y_assign ev_c)) rfl rfl rfl ?_
  refine TL.nil ?_
  refine TN.seq ?_
  refine TC.seq ?_
  refine TC.region ?_
  refine TL.op (yq (y_move (ev_t rfl))) rfl rfl rfl ?_
  refine TL.op (yq (y_move (ev_t rfl))) rfl rfl rfl ?_
  refine TL.op (yq (y_move (ev_t rfl))) rfl rfl rfl ?_
  refine TL.op (yq (y_len (ev_t rfl) Try.underlying34 (fun w hw => ((fun w hw => hlist w _ (hw)) w hw).ln))) rfl rfl rfl ?_
  refine TL.callmX (ι := Unit) (p := True) 0 (vs := [(.pointer (some ⟨gc, 0, none⟩)), (.int .i64 (list.length : Int))]) (fun _ => (.int .i64 ((F_spec_l1Cur_pick code at_ seed (list.length : Int)).1))) (fun _ => .blk gc 61 [vc, (.int .i64 (((F_spec_l1Cur_pick code at_ seed (list.length : Int)).2).1)), (.int .u64 (((F_spec_l1Cur_pick code at_ seed (list.length : Int)).2).2))]) (fun _ => []) en_43 ⟨(ev_t rfl), (ev_t rfl), trivial⟩ rfl rfl (fun w1 _ hw => spec_l1Cur_pick_ok w0 w1 _ gc vc code hcode at_ seed hw (list.length : Int) (by first | assumption | omega | grind) (by first | assumption | omega | grind) (by first | assumption | omega | grind) (by first | assumption | omega | grind)) (fun hpo4 _ => ?_)
  replace hpo4 := pick_post hcode.2 code at_ seed (list.length : Int) (by omega)
  obtain ⟨q1_4, hq5⟩ : ∃ q, (F_spec_l1Cur_pick code at_ seed (list.length : Int)) = q := ⟨_, rfl⟩
  rw [hq5] at hF hpo4 ⊢
  try dsimp only at hF
  have hb6 : (q1_4.1).toNat < list.length := (by first | omega | (simp only [List.length_set, List.length_append, List.length_cons, List.length_nil, List.length_replicate]; omega) | (rw [sortI_length]; simp only [List.length_cons, List.length_nil]; omega))
  refine TL.op (yq (y_idx (k := (q1_4.1).toNat) (ev_t rfl) (ev_t rfl) (by first | omega | simp) slT_34 (fun w hw => hlist w _ (hw)) hb6)) rfl rfl rfl ?_
  refine TL.op (yq (y_ldi (ev_t rfl) one_3 (fun w hw => hlist w _ (hw)) hb6)) rfl rfl rfl ?_
  refine TL.op (yq (y_assign (ev_t rfl))) rfl rfl rfl ?_
  refine TL.nil ?_
  refine TN.seq ?_
  refine TC.ret ?_
  subst hF
  exact TN.ret1 rfl (ev_t rfl) (fun w' hw => ⟨(by dsimp only; omega), (), rfl, hw⟩)

end Go.Proofs.Ytfhhfhiooehlcaa
