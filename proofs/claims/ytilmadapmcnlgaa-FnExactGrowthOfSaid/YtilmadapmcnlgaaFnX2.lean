/-
  Walks of functions of the program: each computes its plain function. No condition but the bounds that are typed.
-/
import Derived.Test.YtilmadapmcnlgaaFnX1
namespace Go.Proofs.Ytilmadapmcnlgaa
open Go Go.RowKit

set_option maxRecDepth 4000 in
set_option maxHeartbeats 1000000 in
theorem spec_l6Sort_ok (w : World) (vlist : Value) (list : List Int) (hlist : RI w vlist list) (hp0 : list.length ≤ 100000) :
    Calls Try.prog 129 ([vlist] : List Value).toArray w (fun e w' => ∃ i : Value, e = .returned i ∧ Hp w [rowI 3 i (F_spec_l6Sort list)] w') := by
  obtain ⟨rz, hF⟩ : ∃ rz, (F_spec_l6Sort list) = rz := ⟨_, rfl⟩
  rw [hF]
  unfold F_spec_l6Sort at hF
  have hlen_list := arg_len hlist
  refine calls_tc Try.func129 rfl rfl rfl ?_
  change TC _ _ _ _ (Hp w []) [(0, vlist)]
  refine TC.seq ?_
  refine TC.region ?_
  refine TL.op (yq (y_assign ev_c)) rfl rfl rfl ?_
  refine TL.nil ?_
  refine TN.seq ?_
  refine TC.seq ?_
  refine TC.region ?_
  refine TL.buildI (zs := []) (qs := []) slT_25 rfl trivial rfl (by decide) rfl (fun v1_0 => ?_)
  refine TL.op (yq (y_assign (ev_t rfl))) rfl rfl rfl ?_
  refine TL.nil ?_
  refine TN.seq ?_
  refine TC.seq ?_
  refine TC.seq ?_
  refine TC.region ?_
  refine TL.op (yq (y_assign ev_c)) rfl rfl rfl ?_
  refine TL.nil ?_
  refine TN.seq ?_
  refine TC.block ?_
  obtain ⟨c21, hc22⟩ : ∃ c, F_spec_l6Sort_L1 list ((list.length - 0) + 1) (([] : List Int), 0) = c := ⟨_, rfl⟩
  rw [hc22] at hF
  refine TC.loop (ι := Nat × List Int × Nat × Value) (fun (fu1, out1, i1, vout1) => [(0, vlist), (3, vout1), (4, (.int .i64 (i1 : Int)))]) (fun (fu1, out1, i1, vout1) => Hp w [rowI 3 vout1 out1]) (fun (fu1, out1, i1, vout1) => (i1 ≤ list.length) ∧ (out1.length = i1) ∧ list.length - i1 < fu1 ∧ F_spec_l6Sort_L1 list fu1 (out1, i1) = c21) (fun (fu1, out1, i1, vout1) => fu1) ((list.length - 0) + 1, ([] : List Int), 0, v1_0) ⟨(by first | omega | (simp [-List.getD_eq_getElem?_getD] <;> omega)), (by first | omega | (simp [-List.getD_eq_getElem?_getD] <;> omega)), (by omega), hc22⟩ ⟨rfl, rfl, rfl, trivial⟩ (fun w hw => hw) ?_
  rintro ⟨fu1, out1, i1, vout1⟩ hJ1
  obtain ⟨hi1_0, hi1_1, hmu1, hL1⟩ : (i1 ≤ list.length) ∧ (out1.length = i1) ∧ list.length - i1 < fu1 ∧ F_spec_l6Sort_L1 list fu1 (out1, i1) = c21 := hJ1
  change TC _ _ _ _ (Hp w [rowI 3 vout1 out1]) [(0, vlist), (3, vout1), (4, (.int .i64 (i1 : Int)))]
  obtain ⟨mf1, rfl⟩ : ∃ m, fu1 = m + 1 := ⟨fu1 - 1, by omega⟩
  rw [F_spec_l6Sort_L1_s] at hL1
  refine TC.seq ?_
  refine TC.seq ?_
  refine TC.region ?_
  refine TL.op (yq (y_move (ev_t rfl))) rfl rfl rfl ?_
  refine TL.op (yq (y_move (ev_t rfl))) rfl rfl rfl ?_
  refine TL.op (yq (y_len (ev_t rfl) Try.underlying25 (fun w hw => ((ri_arg hlist) w hw).ln))) rfl rfl rfl ?_
  refine TL.op (yq (y_lss (ev_t rfl) (ev_t rfl))) rfl rfl rfl ?_
  refine TL.nil ?_
  refine TN.seq ?_
  refine TC.cond (b := decide ((i1 : Int) < (list.length : Int))) (ev_t rfl) (fun h23 => ?_) (fun h23 => ?_)
  · rw [bif_pos h23] at hL1
    have q24 := (of_decide_eq_true h23)
    refine TC.skip ?_
    refine TN.seq ?_
    refine TC.seq ?_
    refine TC.block ?_
    refine TC.seq ?_
    refine TC.region ?_
    refine TL.op (yq (y_assign ev_c)) rfl rfl rfl ?_
    refine TL.nil ?_
    refine TN.seq ?_
    refine TC.seq ?_
    refine TC.block ?_
    obtain ⟨c25, hc26⟩ : ∃ c, F_spec_l6Sort_L2 list out1 i1 ((out1.length - 0) + 1) 0 = c := ⟨_, rfl⟩
    rw [hc26] at hL1
    refine TC.loop (ι := Nat × Nat) (fun (fu2, k2) => [(0, vlist), (3, vout1), (4, (.int .i64 (i1 : Int))), (5, (.int .i64 (k2 : Int)))]) (fun (fu2, k2) => Hp w [rowI 3 vout1 out1]) (fun (fu2, k2) => (k2 ≤ out1.length) ∧ out1.length - k2 < fu2 ∧ F_spec_l6Sort_L2 list out1 i1 fu2 k2 = c25) (fun (fu2, k2) => fu2) ((out1.length - 0) + 1, 0) ⟨(by first | omega | (simp [-List.getD_eq_getElem?_getD] <;> omega)), (by omega), hc26⟩ ⟨rfl, rfl, rfl, rfl, trivial⟩ (fun w hw => hw) ?_
    rintro ⟨fu2, k2⟩ hJ2
    obtain ⟨hi2_0, hmu2, hL2⟩ : (k2 ≤ out1.length) ∧ out1.length - k2 < fu2 ∧ F_spec_l6Sort_L2 list out1 i1 fu2 k2 = c25 := hJ2
    change TC _ _ _ _ (Hp w [rowI 3 vout1 out1]) [(0, vlist), (3, vout1), (4, (.int .i64 (i1 : Int))), (5, (.int .i64 (k2 : Int)))]
    obtain ⟨mf2, rfl⟩ : ∃ m, fu2 = m + 1 := ⟨fu2 - 1, by omega⟩
    rw [F_spec_l6Sort_L2_s] at hL2
    refine TC.seq ?_
    refine TC.seq ?_
    refine TC.regionQ (by kernel_rfl) (by kernel_rfl) dr_hp ?_
    refine TQ.op (yq (y_move (ev_t rfl))) rfl rfl rfl ?_
    refine TQ.op (yq (y_move (ev_t rfl))) rfl rfl rfl ?_
    refine TQ.op (yq (y_len (ev_t rfl) Try.underlying25 (fun w hw => ((ri_row 0 rfl) w hw).ln))) rfl rfl rfl ?_
    refine TQ.op (yq (y_lss (ev_t rfl) (ev_t rfl))) rfl rfl rfl ?_
    refine TQ.op (yq (y_move (ev_t rfl))) rfl rfl rfl ?_
    refine TQ.opw (w_t rfl rfl rfl) (fun hg => yq (y_move (ev_t rfl))) rfl rfl ?_
    refine TQ.opw (w_t rfl rfl rfl) (fun hg => yq (y_move (ev_t rfl))) rfl rfl ?_
    refine TQ.opw (w_t rfl rfl rfl) (fun hg => yq (y_idx (k := k2) (ev_g rfl hg) (ev_g rfl hg) (by first | omega | simp) slT_25 (ri_row 0 rfl) (show k2 < out1.length by have hgf := (of_decide_eq_true hg); omega))) rfl rfl ?_
    refine TQ.opw (w_t rfl rfl rfl) (fun hg => yq (y_ldi (ev_g rfl hg) one_3 (ri_row 0 rfl) (show k2 < out1.length by have hgf := (of_decide_eq_true hg); omega))) rfl rfl ?_
    refine TQ.opw (w_t rfl rfl rfl) (fun hg => yq (y_move (ev_t rfl))) rfl rfl ?_
    refine TQ.opw (w_t rfl rfl rfl) (fun hg => yq (y_move (ev_t rfl))) rfl rfl ?_
    refine TQ.opw (w_t rfl rfl rfl) (fun hg => yq (y_idx (k := i1) (ev_g rfl hg) (ev_g rfl hg) (by first | omega | simp) slT_25 (ri_arg hlist) (show i1 < list.length by have hgf := (of_decide_eq_true hg); omega))) rfl rfl ?_
    refine TQ.opw (w_t rfl rfl rfl) (fun hg => yq (y_ldi (ev_g rfl hg) one_3 (ri_arg hlist) (show i1 < list.length by have hgf := (of_decide_eq_true hg); omega))) rfl rfl ?_
    refine TQ.opw (w_t rfl rfl rfl) (fun hg => yq (y_leq (ev_g rfl hg) (ev_g rfl hg))) rfl rfl ?_
    refine TQ.op (yq (y_and (ev_t rfl) (fun hq => (ev_g rfl hq)))) rfl rfl rfl ?_
    refine TQ.nil ?_
    refine TN.seq ?_
    refine TC.cond (b := ((decide ((k2 : Int) < (out1.length : Int))) && (decide ((out1.getD k2 0) ≤ (list.getD i1 0))))) (ev_t rfl) (fun h27 => ?_) (fun h27 => ?_)
    · rw [bif_pos h27] at hL2
      have q28 := (and_imp (and_t h27) (fun h => (of_decide_eq_true h)) (fun h => (of_decide_eq_true h)))
      refine TC.skip ?_
      refine TN.seq ?_
      refine TC.block ?_
      refine TC.region ?_
      refine TL.op (yq (y_move (ev_t rfl))) rfl rfl rfl ?_
      refine TL.op (yq (y_add (ev_t rfl) ev_c (by unfold In64; omega))) rfl rfl rfl ?_
      refine TL.op (yq (y_assign (ev_t rfl))) rfl rfl rfl ?_
      refine TL.nil ?_
      refine TN.blockN ?_
      exact TN.hand (mf2, (k2 + 1)) ⟨(by first | omega | (simp [-List.getD_eq_getElem?_getD] <;> omega)), (by omega), hL2⟩ (Nat.lt_succ_self _) ⟨rfl, rfl, rfl, rfl, trivial⟩ (fun w hw => hw)
    · rw [bif_neg h27] at hL2
      have q28 := ((and_f h27).imp (fun h => (of_decide_eq_false h)) (fun h => (of_decide_eq_false h)))
      refine TC.exit ?_
      refine TN.thenE ?_
      refine TN.thenE ?_
      rw [← hL2, elim_next] at hL1
      try dsimp only at hL1
      refine TN.blockH ?_
      refine TN.seq ?_
      refine TC.mid (fun a' w' => ∃ v8_14 : Value, Slots 46 [(0, vlist), (3, v8_14), (4, (.int .i64 (i1 : Int)))] a' ∧ Hp w [rowI 3 v8_14 (((([] : List Int) ++ ((out1.take k2).drop 0)) ++ ([(list.getD i1 0)])) ++ ((out1.take out1.length).drop k2))] w') ?_ ?_
      · refine TC.regionH 16 (Hp w [rowI 3 vout1 out1]) rfl (by kernel_rfl) dr_hp (fun w hw => hw) ?_
        refine TH.take 1 rfl (by kernel_rfl) (y_move (ev_t rfl)) rfl rfl rfl ?_
        refine TH.take 2 rfl (by kernel_rfl) (y_move (ev_t rfl)) rfl rfl rfl ?_
        have hs29 : 0 ≤ k2 := (by first | omega | (simp only [List.length_set, List.length_append, List.length_cons, List.length_nil, List.length_replicate]; omega) | (rw [sortI_length]; simp only [List.length_cons, List.length_nil]; omega))
        have hs30 : k2 ≤ out1.length := (by first | omega | (simp only [List.length_set, List.length_append, List.length_cons, List.length_nil, List.length_replicate]; omega) | (rw [sortI_length]; simp only [List.length_cons, List.length_nil]; omega))
        refine TH.take 3 rfl (by kernel_rfl) (y_slice_hi (ev_t rfl) (ev_t rfl) (hi := k2) (by omega) slT_25 (ri_row 0 rfl) hs30) rfl rfl rfl ?_
        refine TH.take 5 rfl (by kernel_rfl) (y_move (ev_t rfl)) rfl rfl rfl ?_
        refine TH.take 6 rfl (by kernel_rfl) (y_move (ev_t rfl)) rfl rfl rfl ?_
        have hb31 : i1 < list.length := (by first | omega | (simp only [List.length_set, List.length_append, List.length_cons, List.length_nil, List.length_replicate]; omega) | (rw [sortI_length]; simp only [List.length_cons, List.length_nil]; omega))
        refine TH.take 7 rfl (by kernel_rfl) (y_idx (k := i1) (ev_t rfl) (ev_t rfl) (by first | omega | simp) slT_25 (ri_arg hlist) hb31) rfl rfl rfl ?_
        refine TH.take 8 rfl (by kernel_rfl) (y_ldi (ev_t rfl) one_3 (ri_arg hlist) hb31) rfl rfl rfl ?_
        refine TH.take 11 rfl (by kernel_rfl) (y_move (ev_t rfl)) rfl rfl rfl ?_
        refine TH.take 12 rfl (by kernel_rfl) (y_move (ev_t rfl)) rfl rfl rfl ?_
        have hs32 : k2 ≤ out1.length := (by first | omega | (simp only [List.length_set, List.length_append, List.length_cons, List.length_nil, List.length_replicate]; omega) | (rw [sortI_length]; simp only [List.length_cons, List.length_nil]; omega))
        have hs33 : out1.length ≤ out1.length := (by first | omega | (simp only [List.length_set, List.length_append, List.length_cons, List.length_nil, List.length_replicate]; omega) | (rw [sortI_length]; simp only [List.length_cons, List.length_nil]; omega))
        refine TH.take 13 rfl (by kernel_rfl) (y_slice_lo (ev_t rfl) (ev_t rfl) (lo := k2) (by omega) slT_25 (ri_row 0 rfl) hs32) rfl rfl rfl ?_
        refine TH.loud2 0 9 rfl rfl (by kernel_rfl) ?_ ?_
        · refine TL.buildI (zs := []) (qs := []) slT_25 rfl trivial rfl (by decide) rfl (fun v8_0 => ?_)
          refine TL.nil ?_
          refine TH.back (fun w hw => Hp.sublist hw (.cons _ (.cons_cons _ .slnil))) ?_
          refine TH.loud2 4 9 rfl rfl (by kernel_rfl) ?_ ?_
          · refine TL.appendI 0 (ev_t rfl) (ev_t rfl) rfl slT_25 (fun w hw => ri_resl ((ri_row 1 rfl) w hw) hs29 hs30) (by first | omega | (simp [-List.getD_eq_getElem?_getD] <;> omega)) rfl (fun v8_4 => ?_)
            refine TL.nil ?_
            refine TH.back (fun w hw => Hp.sublist hw (.cons _ (.cons_cons _ .slnil))) ?_
            refine TH.loud 9 rfl (by kernel_rfl) ?_
            refine TL.buildI (zs := [.tmp 38]) (qs := [(list.getD i1 0)]) slT_25 rfl ⟨(ev_t rfl), trivial⟩ rfl (by decide) rfl (fun v8_9 => ?_)
            refine TL.nil ?_
            refine TH.back (fun w hw => Hp.sublist hw (.cons _ (.cons _ (.cons_cons _ .slnil)))) ?_
            refine TH.loud 10 rfl (by kernel_rfl) ?_
            refine TL.appendI 1 (ev_t rfl) (ev_t rfl) rfl slT_25 (ri_row 0 rfl) (by first | omega | (simp [-List.getD_eq_getElem?_getD] <;> omega)) rfl (fun v8_10 => ?_)
            refine TL.nil ?_
            refine TH.back (fun w hw => Hp.sublist hw (.cons _ (.cons _ (.cons_cons _ .slnil)))) ?_
            refine TH.loud 14 rfl (by kernel_rfl) ?_
            refine TL.appendI 1 (ev_t rfl) (ev_t rfl) rfl slT_25 (fun w hw => ri_resl ((ri_row 2 rfl) w hw) hs32 hs33) (by first | omega | (simp [-List.getD_eq_getElem?_getD] <;> omega)) rfl (fun v8_14 => ?_)
            refine TL.nil ?_
            refine TH.back (fun w hw => Hp.sublist hw (.cons _ (.cons _ (.cons_cons _ .slnil)))) ?_
            refine TH.take 15 rfl (by kernel_rfl) (y_assign (ev_t rfl)) rfl rfl rfl ?_
            refine TH.done (by kernel_rfl) ?_
            exact fun a' w' hs hw => ⟨v8_14, hs.sub ⟨rfl, rfl, rfl, trivial⟩, Hp.sublist hw (.cons _ (.cons_cons _ (.cons _ .slnil)))⟩
          · refine TL.buildI (zs := [.tmp 38]) (qs := [(list.getD i1 0)]) slT_25 rfl ⟨(ev_t rfl), trivial⟩ rfl (by decide) rfl (fun v8_9 => ?_)
            refine TL.nil ?_
            refine TH.back (fun w hw => Hp.sublist hw (.cons _ (.cons _ (.cons_cons _ .slnil)))) ?_
            refine TH.loud 4 rfl (by kernel_rfl) ?_
            refine TL.appendI 1 (ev_t rfl) (ev_t rfl) rfl slT_25 (fun w hw => ri_resl ((ri_row 2 rfl) w hw) hs29 hs30) (by first | omega | (simp [-List.getD_eq_getElem?_getD] <;> omega)) rfl (fun v8_4 => ?_)
            refine TL.nil ?_
            refine TH.back (fun w hw => Hp.sublist hw (.cons _ (.cons _ (.cons_cons _ .slnil)))) ?_
            refine TH.loud 10 rfl (by kernel_rfl) ?_
            refine TL.appendI 1 (ev_t rfl) (ev_t rfl) rfl slT_25 (ri_row 0 rfl) (by first | omega | (simp [-List.getD_eq_getElem?_getD] <;> omega)) rfl (fun v8_10 => ?_)
            refine TL.nil ?_
            refine TH.back (fun w hw => Hp.sublist hw (.cons _ (.cons _ (.cons_cons _ .slnil)))) ?_
            refine TH.loud 14 rfl (by kernel_rfl) ?_
            refine TL.appendI 1 (ev_t rfl) (ev_t rfl) rfl slT_25 (fun w hw => ri_resl ((ri_row 2 rfl) w hw) hs32 hs33) (by first | omega | (simp [-List.getD_eq_getElem?_getD] <;> omega)) rfl (fun v8_14 => ?_)
            refine TL.nil ?_
            refine TH.back (fun w hw => Hp.sublist hw (.cons _ (.cons _ (.cons_cons _ .slnil)))) ?_
            refine TH.take 15 rfl (by kernel_rfl) (y_assign (ev_t rfl)) rfl rfl rfl ?_
            refine TH.done (by kernel_rfl) ?_
            exact fun a' w' hs hw => ⟨v8_14, hs.sub ⟨rfl, rfl, rfl, trivial⟩, Hp.sublist hw (.cons _ (.cons_cons _ (.cons _ .slnil)))⟩
        · refine TL.buildI (zs := [.tmp 38]) (qs := [(list.getD i1 0)]) slT_25 rfl ⟨(ev_t rfl), trivial⟩ rfl (by decide) rfl (fun v8_9 => ?_)
          refine TL.nil ?_
          refine TH.back (fun w hw => Hp.sublist hw (.cons _ (.cons_cons _ .slnil))) ?_
          refine TH.loud 0 rfl (by kernel_rfl) ?_
          refine TL.buildI (zs := []) (qs := []) slT_25 rfl trivial rfl (by decide) rfl (fun v8_0 => ?_)
          refine TL.nil ?_
          refine TH.back (fun w hw => Hp.sublist hw (.cons _ (.cons _ (.cons_cons _ .slnil)))) ?_
          refine TH.loud 4 rfl (by kernel_rfl) ?_
          refine TL.appendI 0 (ev_t rfl) (ev_t rfl) rfl slT_25 (fun w hw => ri_resl ((ri_row 2 rfl) w hw) hs29 hs30) (by first | omega | (simp [-List.getD_eq_getElem?_getD] <;> omega)) rfl (fun v8_4 => ?_)
          refine TL.nil ?_
          refine TH.back (fun w hw => Hp.sublist hw (.cons _ (.cons _ (.cons_cons _ .slnil)))) ?_
          refine TH.loud 10 rfl (by kernel_rfl) ?_
          refine TL.appendI 0 (ev_t rfl) (ev_t rfl) rfl slT_25 (ri_row 1 rfl) (by first | omega | (simp [-List.getD_eq_getElem?_getD] <;> omega)) rfl (fun v8_10 => ?_)
          refine TL.nil ?_
          refine TH.back (fun w hw => Hp.sublist hw (.cons _ (.cons _ (.cons_cons _ .slnil)))) ?_
          refine TH.loud 14 rfl (by kernel_rfl) ?_
          refine TL.appendI 0 (ev_t rfl) (ev_t rfl) rfl slT_25 (fun w hw => ri_resl ((ri_row 2 rfl) w hw) hs32 hs33) (by first | omega | (simp [-List.getD_eq_getElem?_getD] <;> omega)) rfl (fun v8_14 => ?_)
          refine TL.nil ?_
          refine TH.back (fun w hw => Hp.sublist hw (.cons _ (.cons _ (.cons_cons _ .slnil)))) ?_
          refine TH.take 15 rfl (by kernel_rfl) (y_assign (ev_t rfl)) rfl rfl rfl ?_
          refine TH.done (by kernel_rfl) ?_
          exact fun a' w' hs hw => ⟨v8_14, hs.sub ⟨rfl, rfl, rfl, trivial⟩, Hp.sublist hw (.cons_cons _ (.cons _ (.cons _ .slnil)))⟩
      · rintro a' w' ⟨v8_14, hs', hw'⟩
        refine (?_ : TN _ .normal 46 (Hp w [rowI 3 v8_14 (((([] : List Int) ++ ((out1.take k2).drop 0)) ++ ([(list.getD i1 0)])) ++ ((out1.take out1.length).drop k2))]) [(0, vlist), (3, v8_14), (4, (.int .i64 (i1 : Int)))]) a' w' hs' hw'
        clear hs' hw'
        refine TN.blockN ?_
        refine TN.seq ?_
        refine TC.region ?_
        refine TL.op (yq (y_move (ev_t rfl))) rfl rfl rfl ?_
        refine TL.op (yq (y_add (ev_t rfl) ev_c (by unfold In64; omega))) rfl rfl rfl ?_
        refine TL.op (yq (y_assign (ev_t rfl))) rfl rfl rfl ?_
        refine TL.nil ?_
        exact TN.hand (mf1, (((([] : List Int) ++ ((out1.take k2).drop 0)) ++ ([(list.getD i1 0)])) ++ ((out1.take out1.length).drop k2)), (i1 + 1), v8_14) ⟨(by first | omega | (simp [-List.getD_eq_getElem?_getD] <;> omega)), (by first | omega | (simp [-List.getD_eq_getElem?_getD] <;> omega)), (by omega), hL1⟩ (Nat.lt_succ_self _) ⟨rfl, rfl, rfl, trivial⟩ (fun w hw => hw)
  · rw [bif_neg h23] at hL1
    have q24 := (of_decide_eq_false h23)
    refine TC.exit ?_
    refine TN.thenE ?_
    refine TN.thenE ?_
    rw [← hL1, elim_next] at hF
    try dsimp only at hF
    refine TN.blockH ?_
    refine TN.seq ?_
    refine TC.seq ?_
    refine TC.region ?_
    refine TL.op (yq (y_move (ev_t rfl))) rfl rfl rfl ?_
    refine TL.op (yq (y_assign (ev_t rfl))) rfl rfl rfl ?_
    refine TL.nil ?_
    refine TN.seq ?_
    refine TC.ret ?_
    subst hF
    exact TN.ret1 rfl (ev_t rfl) (fun w' hw => ⟨vout1, rfl, hw⟩)

set_option maxRecDepth 4000 in
set_option maxHeartbeats 1000000 in
theorem spec_l1Same_ok (w : World) (va : Value) (a : List Int) (ha : RI w va a) (vb : Value) (b : List Int) (hb : RI w vb b)  :
    Calls Try.prog 110 ([va, vb] : List Value).toArray w (Ret (.bool (F_spec_l1Same a b)) (Hp w [])) := by
  obtain ⟨rz, hF⟩ : ∃ rz, (F_spec_l1Same a b) = rz := ⟨_, rfl⟩
  rw [hF]
  unfold F_spec_l1Same at hF
  have hlen_a := arg_len ha
  have hlen_b := arg_len hb
  refine calls_tc Try.func110 rfl rfl rfl ?_
  change TC _ _ _ _ (Hp w []) [(0, va), (1, vb)]
  refine TC.seq ?_
  refine TC.region ?_
  refine TL.op (yq (y_assign ev_c)) rfl rfl rfl ?_
  refine TL.nil ?_
  refine TN.seq ?_
  refine TC.seq ?_
  refine TC.seq ?_
  refine TC.region ?_
  refine TL.op (yq (y_move (ev_t rfl))) rfl rfl rfl ?_
  refine TL.op (yq (y_len (ev_t rfl) Try.underlying25 (fun w hw => ((ri_arg ha) w hw).ln))) rfl rfl rfl ?_
  refine TL.op (yq (y_move (ev_t rfl))) rfl rfl rfl ?_
  refine TL.op (yq (y_len (ev_t rfl) Try.underlying25 (fun w hw => ((ri_arg hb) w hw).ln))) rfl rfl rfl ?_
  refine TL.op (yq (y_neq (ev_t rfl) (ev_t rfl))) rfl rfl rfl ?_
  refine TL.nil ?_
  refine TN.seq ?_
  refine TC.cond (b := !decide ((a.length : Int) = (b.length : Int))) (ev_t rfl) (fun h15 => ?_) (fun h15 => ?_)
  · rw [bif_pos h15] at hF
    have q16 := (of_decide_eq_false (not_t h15))
    refine TC.seq ?_
    refine TC.region ?_
    refine TL.op (yq (y_assign ev_c)) rfl rfl rfl ?_
    refine TL.nil ?_
    refine TN.seq ?_
    refine TC.ret ?_
    refine TN.thenR ?_
    subst hF
    exact TN.ret1 rfl (ev_t rfl) (fun w' hw => ⟨rfl, hw⟩)
  · rw [bif_neg h15] at hF
    have q16 := (of_decide_eq_true (not_f h15))
    refine TC.skip ?_
    refine TN.seq ?_
    refine TC.seq ?_
    refine TC.seq ?_
    refine TC.region ?_
    refine TL.op (yq (y_assign ev_c)) rfl rfl rfl ?_
    refine TL.nil ?_
    refine TN.seq ?_
    refine TC.block ?_
    obtain ⟨c17, hc18⟩ : ∃ c, F_spec_l1Same_L1 a b ((a.length - 0) + 1) 0 = c := ⟨_, rfl⟩
    rw [hc18] at hF
    refine TC.loop (ι := Nat × Nat) (fun (fu1, i1) => [(0, va), (1, vb), (5, (.int .i64 (i1 : Int)))]) (fun (fu1, i1) => Hp w []) (fun (fu1, i1) => (i1 ≤ a.length) ∧ a.length - i1 < fu1 ∧ F_spec_l1Same_L1 a b fu1 i1 = c17) (fun (fu1, i1) => fu1) ((a.length - 0) + 1, 0) ⟨(by first | omega | (simp [-List.getD_eq_getElem?_getD] <;> omega)), (by omega), hc18⟩ ⟨rfl, rfl, rfl, trivial⟩ (fun w hw => hw) ?_
    rintro ⟨fu1, i1⟩ hJ1
    obtain ⟨hi1_0, hmu1, hL1⟩ : (i1 ≤ a.length) ∧ a.length - i1 < fu1 ∧ F_spec_l1Same_L1 a b fu1 i1 = c17 := hJ1
    change TC _ _ _ _ (Hp w []) [(0, va), (1, vb), (5, (.int .i64 (i1 : Int)))]
    obtain ⟨mf1, rfl⟩ : ∃ m, fu1 = m + 1 := ⟨fu1 - 1, by omega⟩
    rw [F_spec_l1Same_L1_s] at hL1
    refine TC.seq ?_
    refine TC.seq ?_
    refine TC.region ?_
    refine TL.op (yq (y_move (ev_t rfl))) rfl rfl rfl ?_
    refine TL.op (yq (y_move (ev_t rfl))) rfl rfl rfl ?_
    refine TL.op (yq (y_len (ev_t rfl) Try.underlying25 (fun w hw => ((ri_arg ha) w hw).ln))) rfl rfl rfl ?_
    refine TL.op (yq (y_lss (ev_t rfl) (ev_t rfl))) rfl rfl rfl ?_
    refine TL.nil ?_
    refine TN.seq ?_
    refine TC.cond (b := decide ((i1 : Int) < (a.length : Int))) (ev_t rfl) (fun h19 => ?_) (fun h19 => ?_)
    · rw [bif_pos h19] at hL1
      have q20 := (of_decide_eq_true h19)
      refine TC.skip ?_
      refine TN.seq ?_
      refine TC.seq ?_
      refine TC.block ?_
      refine TC.seq ?_
      refine TC.regionQ (by kernel_rfl) (by kernel_rfl) dr_hp ?_
      refine TQ.op (yq (y_move (ev_t rfl))) rfl rfl rfl ?_
      refine TQ.op (yq (y_move (ev_t rfl))) rfl rfl rfl ?_
      have hb21 : i1 < a.length := (by first | omega | (simp only [List.length_set, List.length_append, List.length_cons, List.length_nil, List.length_replicate]; omega) | (rw [sortI_length]; simp only [List.length_cons, List.length_nil]; omega))
      refine TQ.op (yq (y_idx (k := i1) (ev_t rfl) (ev_t rfl) (by first | omega | simp) slT_25 (ri_arg ha) hb21)) rfl rfl rfl ?_
      refine TQ.op (yq (y_ldi (ev_t rfl) one_3 (ri_arg ha) hb21)) rfl rfl rfl ?_
      refine TQ.op (yq (y_move (ev_t rfl))) rfl rfl rfl ?_
      refine TQ.op (yq (y_move (ev_t rfl))) rfl rfl rfl ?_
      have hb22 : i1 < b.length := (by first | omega | (simp only [List.length_set, List.length_append, List.length_cons, List.length_nil, List.length_replicate]; omega) | (rw [sortI_length]; simp only [List.length_cons, List.length_nil]; omega))
      refine TQ.op (yq (y_idx (k := i1) (ev_t rfl) (ev_t rfl) (by first | omega | simp) slT_25 (ri_arg hb) hb22)) rfl rfl rfl ?_
      refine TQ.op (yq (y_ldi (ev_t rfl) one_3 (ri_arg hb) hb22)) rfl rfl rfl ?_
      refine TQ.op (yq (y_neq (ev_t rfl) (ev_t rfl))) rfl rfl rfl ?_
      refine TQ.nil ?_
      refine TN.seq ?_
      refine TC.cond (b := !decide ((a.getD i1 0) = (b.getD i1 0))) (ev_t rfl) (fun h23 => ?_) (fun h23 => ?_)
      · rw [bif_pos h23] at hL1
        have q24 := (of_decide_eq_false (not_t h23))
        refine TC.seq ?_
        refine TC.region ?_
        refine TL.op (yq (y_assign ev_c)) rfl rfl rfl ?_
        refine TL.nil ?_
        refine TN.seq ?_
        refine TC.ret ?_
        refine TN.blockR ?_
        refine TN.thenR ?_
        refine TN.thenR ?_
        rw [← hL1, elim_ret] at hF
        refine TN.blockR ?_
        refine TN.thenR ?_
        subst hF
        exact TN.ret1 rfl (ev_t rfl) (fun w' hw => ⟨rfl, hw⟩)
      · rw [bif_neg h23] at hL1
        have q24 := (of_decide_eq_true (not_f h23))
        refine TC.skip ?_
        refine TN.blockN ?_
        refine TN.seq ?_
        refine TC.region ?_
        refine TL.op (yq (y_move (ev_t rfl))) rfl rfl rfl ?_
        refine TL.op (yq (y_add (ev_t rfl) ev_c (by unfold In64; omega))) rfl rfl rfl ?_
        refine TL.op (yq (y_assign (ev_t rfl))) rfl rfl rfl ?_
        refine TL.nil ?_
        exact TN.hand (mf1, (i1 + 1)) ⟨(by first | omega | (simp [-List.getD_eq_getElem?_getD] <;> omega)), (by omega), hL1⟩ (Nat.lt_succ_self _) ⟨rfl, rfl, rfl, trivial⟩ (fun w hw => hw)
    · rw [bif_neg h19] at hL1
      have q20 := (of_decide_eq_false h19)
      refine TC.exit ?_
      refine TN.thenE ?_
      refine TN.thenE ?_
      rw [← hL1, elim_next] at hF
      try dsimp only at hF
      refine TN.blockH ?_
      refine TN.seq ?_
      refine TC.seq ?_
      refine TC.region ?_
      refine TL.op (yq (y_assign ev_c)) rfl rfl rfl ?_
      refine TL.nil ?_
      refine TN.seq ?_
      refine TC.ret ?_
      subst hF
      exact TN.ret1 rfl (ev_t rfl) (fun w' hw => ⟨rfl, hw⟩)

set_option maxRecDepth 4000 in
set_option maxHeartbeats 1000000 in
theorem spec_l7Index_ok (w : World) (vconfigs : Value) (uconfigs : List Value) (configs : List (List Int)) (hconfigs : RII w vconfigs uconfigs configs) (vx : Value) (x : List Int) (hx : RI w vx x)  :
    Calls Try.prog 69 ([vconfigs, vx] : List Value).toArray w (Ret (.int .i64 (F_spec_l7Index configs x)) (Hp w [])) := by
  obtain ⟨rz, hF⟩ : ∃ rz, (F_spec_l7Index configs x) = rz := ⟨_, rfl⟩
  rw [hF]
  unfold F_spec_l7Index at hF
  have hlen_configs := argT_len hconfigs
  have hlen_x := arg_len hx
  refine calls_tc Try.func69 rfl rfl rfl ?_
  change TC _ _ _ _ (Hp w []) [(0, vconfigs), (1, vx)]
  refine TC.seq ?_
  refine TC.region ?_
  refine TL.op (yq (y_assign ev_c)) rfl rfl rfl ?_
  refine TL.nil ?_
  refine TN.seq ?_
  refine TC.seq ?_
  refine TC.seq ?_
  refine TC.region ?_
  refine TL.op (yq (y_assign ev_c)) rfl rfl rfl ?_
  refine TL.nil ?_
  refine TN.seq ?_
  refine TC.block ?_
  obtain ⟨c13, hc14⟩ : ∃ c, F_spec_l7Index_L1 configs x ((configs.length - 0) + 1) 0 = c := ⟨_, rfl⟩
  rw [hc14] at hF
  refine TC.loop (ι := Nat × Nat) (fun (fu1, i1) => [(0, vconfigs), (1, vx), (5, (.int .i64 (i1 : Int)))]) (fun (fu1, i1) => Hp w []) (fun (fu1, i1) => (i1 ≤ configs.length) ∧ configs.length - i1 < fu1 ∧ F_spec_l7Index_L1 configs x fu1 i1 = c13) (fun (fu1, i1) => fu1) ((configs.length - 0) + 1, 0) ⟨(by first | omega | (simp [-List.getD_eq_getElem?_getD] <;> omega)), (by omega), hc14⟩ ⟨rfl, rfl, rfl, trivial⟩ (fun w hw => hw) ?_
  rintro ⟨fu1, i1⟩ hJ1
  obtain ⟨hi1_0, hmu1, hL1⟩ : (i1 ≤ configs.length) ∧ configs.length - i1 < fu1 ∧ F_spec_l7Index_L1 configs x fu1 i1 = c13 := hJ1
  change TC _ _ _ _ (Hp w []) [(0, vconfigs), (1, vx), (5, (.int .i64 (i1 : Int)))]
  obtain ⟨mf1, rfl⟩ : ∃ m, fu1 = m + 1 := ⟨fu1 - 1, by omega⟩
  rw [F_spec_l7Index_L1_s] at hL1
  refine TC.seq ?_
  refine TC.seq ?_
  refine TC.region ?_
  refine TL.op (yq (y_move (ev_t rfl))) rfl rfl rfl ?_
  refine TL.op (yq (y_move (ev_t rfl))) rfl rfl rfl ?_
  refine TL.op (yq (y_len (ev_t rfl) Try.underlying22 (fun w hw => ((fun w hw => ((rii_arg hconfigs) w hw).1) w hw).ln))) rfl rfl rfl ?_
  refine TL.op (yq (y_lss (ev_t rfl) (ev_t rfl))) rfl rfl rfl ?_
  refine TL.nil ?_
  refine TN.seq ?_
  refine TC.cond (b := decide ((i1 : Int) < (configs.length : Int))) (ev_t rfl) (fun h15 => ?_) (fun h15 => ?_)
  · rw [bif_pos h15] at hL1
    have q16 := (of_decide_eq_true h15)
    refine TC.skip ?_
    refine TN.seq ?_
    refine TC.seq ?_
    refine TC.block ?_
    refine TC.seq ?_
    refine TC.region ?_
    refine TL.op (yq (y_move (ev_t rfl))) rfl rfl rfl ?_
    refine TL.op (yq (y_move (ev_t rfl))) rfl rfl rfl ?_
    have hb17 : i1 < configs.length := (by first | omega | (simp only [List.length_set, List.length_append, List.length_cons, List.length_nil, List.length_replicate]; omega) | (rw [sortI_length]; simp only [List.length_cons, List.length_nil]; omega))
    refine TL.op (yq (y_idx (k := i1) (ev_t rfl) (ev_t rfl) (by first | omega | simp) slT_22 (fun w hw => ((rii_arg hconfigs) w hw).1) hb17)) rfl rfl rfl ?_
    have ha18 := hconfigs.row (i := i1) hb17
    refine TL.op (yq (y_ldA (ev_t rfl) one_25 (rii_arg hconfigs) hb17)) rfl rfl rfl ?_
    refine TL.op (yq (y_move (ev_t rfl))) rfl rfl rfl ?_
    refine TL.op (y_call (vs := [(uconfigs.getD i1 undef), vx]) (v := (.bool (F_spec_l1Same (configs.getD i1 []) x))) en_110 ⟨(ev_t rfl), (ev_t rfl), trivial⟩ (fun w hw => spec_l1Same_ok w (uconfigs.getD i1 undef) (configs.getD i1 []) ((ri_arg ha18) w hw) vx x ((ri_arg hx) w hw))) rfl rfl rfl ?_
    refine TL.nil ?_
    refine TN.seq ?_
    refine TC.cond (b := (F_spec_l1Same (configs.getD i1 []) x)) (ev_t rfl) (fun h19 => ?_) (fun h19 => ?_)
    · rw [bif_pos h19] at hL1
      have q20 := h19
      refine TC.seq ?_
      refine TC.region ?_
      refine TL.op (yq (y_move (ev_t rfl))) rfl rfl rfl ?_
      refine TL.op (yq (y_assign (ev_t rfl))) rfl rfl rfl ?_
      refine TL.nil ?_
      refine TN.seq ?_
      refine TC.ret ?_
      refine TN.blockR ?_
      refine TN.thenR ?_
      refine TN.thenR ?_
      rw [← hL1, elim_ret] at hF
      refine TN.blockR ?_
      refine TN.thenR ?_
      subst hF
      exact TN.ret1 rfl (ev_t rfl) (fun w' hw => ⟨rfl, hw⟩)
    · rw [bif_neg h19] at hL1
      have q20 := h19
      refine TC.skip ?_
      refine TN.blockN ?_
      refine TN.seq ?_
      refine TC.region ?_
      refine TL.op (yq (y_move (ev_t rfl))) rfl rfl rfl ?_
      refine TL.op (yq (y_add (ev_t rfl) ev_c (by unfold In64; omega))) rfl rfl rfl ?_
      refine TL.op (yq (y_assign (ev_t rfl))) rfl rfl rfl ?_
      refine TL.nil ?_
      exact TN.hand (mf1, (i1 + 1)) ⟨(by first | omega | (simp [-List.getD_eq_getElem?_getD] <;> omega)), (by omega), hL1⟩ (Nat.lt_succ_self _) ⟨rfl, rfl, rfl, trivial⟩ (fun w hw => hw)
  · rw [bif_neg h15] at hL1
    have q16 := (of_decide_eq_false h15)
    refine TC.exit ?_
    refine TN.thenE ?_
    refine TN.thenE ?_
    rw [← hL1, elim_next] at hF
    try dsimp only at hF
    refine TN.blockH ?_
    refine TN.seq ?_
    refine TC.seq ?_
    refine TC.region ?_
    refine TL.op (yq (y_assign ev_c)) rfl rfl rfl ?_
    refine TL.nil ?_
    refine TN.seq ?_
    refine TC.ret ?_
    subst hF
    exact TN.ret1 rfl (ev_t rfl) (fun w' hw => ⟨rfl, hw⟩)

set_option maxRecDepth 4000 in
set_option maxHeartbeats 1000000 in
theorem spec_l7Start_ok (w : World) (vm : Value) (um : List Value) (m : List (List Int)) (hm : RII w vm um m) (k : Int) (va : Value) (a : List Int) (ha : RI w va a) (hp0 : Ks m k) (hp1 : Cf m.length a) (hp2 : (a.length : Int) = k) :
    Calls Try.prog 66 ([(.agg #[vm]), (.int .i64 k), va] : List Value).toArray w (fun e w' => ∃ i : Value, e = .returned i ∧ Hp w [rowI 3 i (F_spec_l7Start m k a)] w') := by
  obtain ⟨rz, hF⟩ : ∃ rz, (F_spec_l7Start m k a) = rz := ⟨_, rfl⟩
  rw [hF]
  unfold F_spec_l7Start at hF
  have hTab := hp0.tab
  have hn6 := hTab.n6
  have hk3 := hp0.k3
  have h56 := hp0.s56
  have hlen_m := argT_len hm
  have hlen_a := arg_len ha
  refine calls_tc Try.func66 rfl rfl rfl ?_
  change TC _ _ _ _ (Hp w []) [(0, (.agg #[vm])), (1, (.int .i64 k)), (2, va)]
  refine TC.seq ?_
  refine TC.region ?_
  refine TL.box (ev_t rfl) rfl (fun g0_0 => ?_)
  refine TL.op (yq (y_assign ev_c)) rfl rfl rfl ?_
  refine TL.nil ?_
  refine TN.seq ?_
  refine TC.seq ?_
  refine TC.region ?_
  refine TL.op (yq (y_fa (fa_29_0 g0_0) (ev_t rfl))) rfl rfl rfl ?_
  refine TL.op (yq (y_ldb 0 (ev_t rfl) one_22 rfl rfl)) rfl rfl rfl ?_
  refine TL.op (yq (y_len (ev_t rfl) Try.underlying22 (fun w hw => ((fun w hw => ((rii_arg hm) w hw).1) w hw).ln))) rfl rfl rfl ?_
  refine TL.op (yq (y_move (ev_t rfl))) rfl rfl rfl ?_
  refine TL.callr (ι := Value × List Value) (vs := [(.int .i64 (m.length : Int)), (.int .i64 k)]) (fun i => i.1) (fun i => [tabI 25 3 i.1 i.2 (F_spec_l6Configs (m.length : Int) k)]) en_54 ⟨(ev_t rfl), (ev_t rfl), trivial⟩ rfl (fun w hw => spec_l6Configs_ok w (m.length : Int) k (by first | assumption | omega | grind) (by first | assumption | omega | grind)) (fun r1_4 => ?_)
  refine TL.op (yq (y_assign (ev_t rfl))) rfl rfl rfl ?_
  refine TL.nil ?_
  refine TN.seq ?_
  refine TC.seq ?_
  refine TC.region ?_
  refine TL.buildI (zs := []) (qs := []) slT_25 rfl trivial rfl (by decide) rfl (fun v2_0 => ?_)
  refine TL.op (yq (y_assign (ev_t rfl))) rfl rfl rfl ?_
  refine TL.nil ?_
  refine TN.seq ?_
  refine TC.seq ?_
  refine TC.seq ?_
  refine TC.region ?_
  refine TL.op (yq (y_assign ev_c)) rfl rfl rfl ?_
  refine TL.nil ?_
  refine TN.seq ?_
  refine TC.block ?_
  obtain ⟨c10, hc11⟩ : ∃ c, F_spec_l7Start_L1 m k a ((((F_spec_l6Configs (m.length : Int) k).length) - 0) + 1) (([] : List Int), 0) = c := ⟨_, rfl⟩
  rw [hc11] at hF
  refine TC.loop (ι := Nat × List Int × Nat × Value) (fun (fu1, out1, i1, vout1) => [(2, va), (3, (.pointer (some ⟨g0_0, 0, none⟩))), (7, r1_4.1), (8, vout1), (9, (.int .i64 (i1 : Int)))]) (fun (fu1, out1, i1, vout1) => Hp w [rowI 3 vout1 out1, tabI 25 3 r1_4.1 r1_4.2 (F_spec_l6Configs (m.length : Int) k), .blk g0_0 29 [vm]]) (fun (fu1, out1, i1, vout1) => (i1 ≤ ((F_spec_l6Configs (m.length : Int) k).length)) ∧ (out1.length = i1) ∧ ((F_spec_l6Configs (m.length : Int) k).length) - i1 < fu1 ∧ F_spec_l7Start_L1 m k a fu1 (out1, i1) = c10) (fun (fu1, out1, i1, vout1) => fu1) ((((F_spec_l6Configs (m.length : Int) k).length) - 0) + 1, ([] : List Int), 0, v2_0) ⟨(by first | omega | (simp [-List.getD_eq_getElem?_getD] <;> omega)), (by first | omega | (simp [-List.getD_eq_getElem?_getD] <;> omega)), (by omega), hc11⟩ ⟨rfl, rfl, rfl, rfl, rfl, trivial⟩ (fun w hw => hw) ?_
  rintro ⟨fu1, out1, i1, vout1⟩ hJ1
  obtain ⟨hi1_0, hi1_1, hmu1, hL1⟩ : (i1 ≤ ((F_spec_l6Configs (m.length : Int) k).length)) ∧ (out1.length = i1) ∧ ((F_spec_l6Configs (m.length : Int) k).length) - i1 < fu1 ∧ F_spec_l7Start_L1 m k a fu1 (out1, i1) = c10 := hJ1
  change TC _ _ _ _ (Hp w [rowI 3 vout1 out1, tabI 25 3 r1_4.1 r1_4.2 (F_spec_l6Configs (m.length : Int) k), .blk g0_0 29 [vm]]) [(2, va), (3, (.pointer (some ⟨g0_0, 0, none⟩))), (7, r1_4.1), (8, vout1), (9, (.int .i64 (i1 : Int)))]
  obtain ⟨mf1, rfl⟩ : ∃ m, fu1 = m + 1 := ⟨fu1 - 1, by omega⟩
  rw [F_spec_l7Start_L1_s] at hL1
  have hcf := hp0.scf i1
  have hcf1 := fun h => (hcf h).1
  have hcf2 := fun h => (hcf h).2
  have hmv := fun h => l6Move_le hp0.tp hp1 (hcf h).1
  refine TC.seq ?_
  refine TC.seq ?_
  refine TC.region ?_
  refine TL.op (yq (y_move (ev_t rfl))) rfl rfl rfl ?_
  refine TL.op (yq (y_move (ev_t rfl))) rfl rfl rfl ?_
  refine TL.op (yq (y_len (ev_t rfl) Try.underlying22 (fun w hw => ((fun w hw => ((rii_tab 1 rfl) w hw).1) w hw).ln))) rfl rfl rfl ?_
  refine TL.op (yq (y_lss (ev_t rfl) (ev_t rfl))) rfl rfl rfl ?_
  refine TL.nil ?_
  refine TN.seq ?_
  refine TC.cond (b := decide ((i1 : Int) < ((F_spec_l6Configs (m.length : Int) k).length : Int))) (ev_t rfl) (fun h12 => ?_) (fun h12 => ?_)
  · rw [bif_pos h12] at hL1
    have q13 := (of_decide_eq_true h12)
    refine TC.skip ?_
    refine TN.seq ?_
    refine TC.seq ?_
    refine TC.block ?_
    refine TC.regionH 11 (Hp w [tabI 25 3 r1_4.1 r1_4.2 (F_spec_l6Configs (m.length : Int) k), .blk g0_0 29 [vm]]) rfl (by kernel_rfl) dr_hp (fun w hw => Hp.sublist hw (.cons _ (.cons_cons _ (.cons_cons _ .slnil)))) ?_
    refine TH.take 0 rfl (by kernel_rfl) (y_move (ev_t rfl)) rfl rfl rfl ?_
    refine TH.take 1 rfl (by kernel_rfl) (y_ldagg (cs := [vm]) 1 (ev_t rfl) agg_29 rfl) rfl rfl rfl ?_
    refine TH.take 2 rfl (by kernel_rfl) (y_move (ev_t rfl)) rfl rfl rfl ?_
    refine TH.take 3 rfl (by kernel_rfl) (y_move (ev_t rfl)) rfl rfl rfl ?_
    refine TH.take 4 rfl (by kernel_rfl) (y_move (ev_t rfl)) rfl rfl rfl ?_
    have hb15 : i1 < (F_spec_l6Configs (m.length : Int) k).length := (by first | omega | (simp only [List.length_set, List.length_append, List.length_cons, List.length_nil, List.length_replicate]; omega) | (rw [sortI_length]; simp only [List.length_cons, List.length_nil]; omega))
    refine TH.take 5 rfl (by kernel_rfl) (y_idx (k := i1) (ev_t rfl) (ev_t rfl) (by first | omega | simp) slT_22 (fun w hw => ((rii_tab 0 rfl) w hw).1) hb15) rfl rfl rfl ?_
    refine TH.take 6 rfl (by kernel_rfl) (y_ldT 0 (ev_t rfl) one_25 rfl hb15) rfl rfl rfl ?_
    refine TH.loud 7 rfl (by kernel_rfl) ?_
    refine TL.op (y_call (vs := [(.agg #[vm]), va, (r1_4.2.getD i1 undef)]) (v := (.int .i64 (F_spec_l6Move m a ((F_spec_l6Configs (m.length : Int) k).getD i1 [])))) en_76 ⟨(ev_t rfl), (ev_t rfl), (ev_t rfl), trivial⟩ (fun w hw => spec_l6Move_ok w vm um m ((rii_arg hm) w hw) va a ((ri_arg ha) w hw) (r1_4.2.getD i1 undef) ((F_spec_l6Configs (m.length : Int) k).getD i1 []) ((ri_tab 1 i1 rfl hb15) w hw) (by first | assumption | omega | grind) (by first | assumption | omega | grind) (by first | assumption | omega | grind) (by first | assumption | omega | grind))) rfl rfl rfl ?_
    refine TL.nil ?_
    refine TH.back (fun w hw => Hp.sublist hw (.cons _ (.cons_cons _ (.cons_cons _ .slnil)))) ?_
    refine TH.loud 8 rfl (by kernel_rfl) ?_
    refine TL.buildI (zs := [.tmp 29]) (qs := [(F_spec_l6Move m a ((F_spec_l6Configs (m.length : Int) k).getD i1 []))]) slT_25 rfl ⟨(ev_t rfl), trivial⟩ rfl (by decide) rfl (fun v6_8 => ?_)
    refine TL.nil ?_
    refine TH.back (fun w hw => Hp.sublist hw (.cons _ (.cons _ (.cons_cons _ (.cons_cons _ .slnil))))) ?_
    refine TH.loud 9 rfl (by kernel_rfl) ?_
    refine TL.appendI 1 (ev_t rfl) (ev_t rfl) rfl slT_25 (ri_row 0 rfl) (by first | omega | (simp [-List.getD_eq_getElem?_getD] <;> omega)) rfl (fun v6_9 => ?_)
    refine TL.nil ?_
    refine TH.back (fun w hw => Hp.sublist hw (.cons _ (.cons _ (.cons_cons _ (.cons_cons _ .slnil))))) ?_
    refine TH.take 10 rfl (by kernel_rfl) (y_assign (ev_t rfl)) rfl rfl rfl ?_
    refine TH.done (by kernel_rfl) ?_
    refine TN.blockN ?_
    refine TN.seq ?_
    refine TC.region ?_
    refine TL.op (yq (y_move (ev_t rfl))) rfl rfl rfl ?_
    refine TL.op (yq (y_add (ev_t rfl) ev_c (by unfold In64; omega))) rfl rfl rfl ?_
    refine TL.op (yq (y_assign (ev_t rfl))) rfl rfl rfl ?_
    refine TL.nil ?_
    exact TN.hand (mf1, (out1 ++ ([(F_spec_l6Move m a ((F_spec_l6Configs (m.length : Int) k).getD i1 []))])), (i1 + 1), v6_9) ⟨(by first | omega | (simp [-List.getD_eq_getElem?_getD] <;> omega)), (by first | omega | (simp [-List.getD_eq_getElem?_getD] <;> omega)), (by omega), hL1⟩ (Nat.lt_succ_self _) ⟨rfl, rfl, rfl, rfl, rfl, trivial⟩ (fun w hw => Hp.sublist hw (.cons _ (.cons_cons _ (.cons_cons _ (.cons_cons _ .slnil)))))
  · rw [bif_neg h12] at hL1
    have q13 := (of_decide_eq_false h12)
    refine TC.exit ?_
    refine TN.thenE ?_
    refine TN.thenE ?_
    rw [← hL1, elim_next] at hF
    try dsimp only at hF
    refine TN.blockH ?_
    refine TN.seq ?_
    refine TC.seq ?_
    refine TC.region ?_
    refine TL.op (yq (y_move (ev_t rfl))) rfl rfl rfl ?_
    refine TL.op (yq (y_assign (ev_t rfl))) rfl rfl rfl ?_
    refine TL.nil ?_
    refine TN.seq ?_
    refine TC.ret ?_
    subst hF
    exact TN.ret1 rfl (ev_t rfl) (fun w' hw => ⟨vout1, rfl, Hp.sublist hw (.cons_cons _ (.cons _ (.cons _ .slnil)))⟩)

set_option maxRecDepth 4000 in
set_option maxHeartbeats 1000000 in
theorem spec_StartWork_ok (w : World) (vm : Value) (um : List Value) (m : List (List Int)) (hm : RII w vm um m) (va : Value) (a : List Int) (ha : RI w va a)  :
    Calls Try.prog 32 ([(.agg #[vm]), va] : List Value).toArray w (fun e w' => ∃ i : Value, e = .returned (.tuple #[i, (.bool ((F_spec_StartWork m a).2))]) ∧ Hp w [rowI 3 i ((F_spec_StartWork m a).1)] w') := by
  obtain ⟨rz, hF⟩ : ∃ rz, (F_spec_StartWork m a) = rz := ⟨_, rfl⟩
  rw [hF]
  unfold F_spec_StartWork at hF
  have hlen_m := argT_len hm
  have hlen_a := arg_len ha
  refine calls_tc Try.func32 rfl rfl rfl ?_
  change TC _ _ _ _ (Hp w []) [(0, (.agg #[vm])), (1, va)]
  refine TC.seq ?_
  refine TC.region ?_
  refine TL.box (ev_t rfl) rfl (fun g0_0 => ?_)
  refine TL.op (yq (y_assign ev_c)) rfl rfl rfl ?_
  refine TL.op (yq (y_assign ev_c)) rfl rfl rfl ?_
  refine TL.nil ?_
  refine TN.seq ?_
  refine TC.seq ?_
  refine TC.seq ?_
  refine TC.region ?_
  refine TL.op (yq (y_ldagg (cs := [vm]) 0 (ev_t rfl) agg_29 rfl)) rfl rfl rfl ?_
  refine TL.op (y_call (vs := [(.agg #[vm])]) (v := (.bool (F_spec_l6Good m))) en_64 ⟨(ev_t rfl), trivial⟩ (fun w hw => spec_l6Good_ok w vm um m ((rii_arg hm) w hw))) rfl rfl rfl ?_
  refine TL.op (yq (y_not (ev_t rfl))) rfl rfl rfl ?_
  refine TL.op (yq (y_move (ev_t rfl))) rfl rfl rfl ?_
  refine TL.opw (w_f rfl rfl rfl) (fun hg => yq (y_fa (fa_29_0 g0_0) (ev_t rfl))) rfl rfl ?_
  refine TL.opw (w_f rfl rfl rfl) (fun hg => yq (y_ldb 0 (ev_g rfl hg) one_22 rfl rfl)) rfl rfl ?_
  refine TL.opw (w_f rfl rfl rfl) (fun hg => yq (y_len (ev_g rfl hg) Try.underlying22 (fun w hw => ((fun w hw => ((rii_arg hm) w hw).1) w hw).ln))) rfl rfl ?_
  refine TL.opw (w_f rfl rfl rfl) (fun hg => yq (y_move (ev_t rfl))) rfl rfl ?_
  refine TL.opw (w_f rfl rfl rfl) (fun hg => y_call (vs := [(.int .i64 (m.length : Int)), va]) (v := (.bool (F_spec_l6Config (m.length : Int) a))) en_65 ⟨(ev_g rfl hg), (ev_g rfl hg), trivial⟩ (fun w hw => spec_l6Config_ok w (m.length : Int) va a ((ri_arg ha) w hw) (by have hgf := (l6Good_t (not_f (not_t hg))); first | assumption | omega | (have hq := hgf.n6; omega) | (have hq := hgf.1.n6; omega) | grind) (by have hgf := (l6Good_t (not_f (not_t hg))); first | assumption | omega | (have hq := hgf.n6; omega) | (have hq := hgf.1.n6; omega) | grind))) rfl rfl ?_
  refine TL.opw (w_f rfl rfl rfl) (fun hg => yq (y_not (ev_g rfl hg))) rfl rfl ?_
  refine TL.op (yq (y_or (ev_t rfl) (fun hq => (ev_g rfl hq)))) rfl rfl rfl ?_
  refine TL.nil ?_
  refine TN.seq ?_
  refine TC.cond (b := ((!(F_spec_l6Good m)) || (!(F_spec_l6Config (m.length : Int) a)))) (ev_t rfl) (fun h3 => ?_) (fun h3 => ?_)
  · rw [bif_pos h3] at hF
    have q4 := ((or_t h3).imp (fun h => (not_t h)) (fun h => (not_t h)))
    refine TC.seq ?_
    refine TC.region ?_
    refine TL.buildI (zs := []) (qs := []) slT_25 rfl trivial rfl (by decide) rfl (fun v2_0 => ?_)
    refine TL.op (yq (y_assign (ev_t rfl))) rfl rfl rfl ?_
    refine TL.op (yq (y_assign ev_c)) rfl rfl rfl ?_
    refine TL.nil ?_
    refine TN.seq ?_
    refine TC.ret ?_
    refine TN.thenR ?_
    subst hF
    exact TN.ret2 rfl (ev_t rfl) (ev_t rfl) (fun w' hw => ⟨v2_0, rfl, Hp.sublist hw (.cons_cons _ (.cons _ .slnil))⟩)
  · rw [bif_neg h3] at hF
    have q4 := (and_imp (or_f h3) (fun h => (l6Good_t (not_f h))) (fun h => (l6Config_t (not_f h))))
    have hgk := good_ks (by assumption)
    have hgk1 := hgk.1
    have hgk2 := hgk.2
    refine TC.skip ?_
    refine TN.seq ?_
    refine TC.seq ?_
    refine TC.region ?_
    refine TL.op (yq (y_ldagg (cs := [vm]) 0 (ev_t rfl) agg_29 rfl)) rfl rfl rfl ?_
    refine TL.op (yq (y_move (ev_t rfl))) rfl rfl rfl ?_
    refine TL.op (yq (y_len (ev_t rfl) Try.underlying25 (fun w hw => ((ri_arg ha) w hw).ln))) rfl rfl rfl ?_
    refine TL.op (yq (y_move (ev_t rfl))) rfl rfl rfl ?_
    refine TL.callr (ι := Value) (vs := [(.agg #[vm]), (.int .i64 (a.length : Int)), va]) (fun i => i) (fun i => [rowI 3 i (F_spec_l7Start m (a.length : Int) a)]) en_66 ⟨(ev_t rfl), (ev_t rfl), (ev_t rfl), trivial⟩ rfl (fun w hw => spec_l7Start_ok w vm um m ((rii_arg hm) w hw) (a.length : Int) va a ((ri_arg ha) w hw) (by first | assumption | omega | grind) (by first | assumption | omega | grind) (by first | assumption | omega | grind)) (fun r3_4 => ?_)
    refine TL.op (yq (y_assign (ev_t rfl))) rfl rfl rfl ?_
    refine TL.op (yq (y_assign ev_c)) rfl rfl rfl ?_
    refine TL.nil ?_
    refine TN.seq ?_
    refine TC.ret ?_
    subst hF
    exact TN.ret2 rfl (ev_t rfl) (ev_t rfl) (fun w' hw => ⟨r3_4, rfl, Hp.sublist hw (.cons_cons _ (.cons _ .slnil))⟩)

set_option maxRecDepth 4000 in
set_option maxHeartbeats 1000000 in
theorem spec_l4With_ok (w : World) (vlist : Value) (list : List Int) (hlist : RI w vlist list) (at_ : Int) (y : Int) (hp0 : 0 ≤ at_ ∧ at_ < list.length) (hp1 : list.length ≤ 1000000) :
    Calls Try.prog 130 ([vlist, (.int .i64 at_), (.int .i64 y)] : List Value).toArray w (fun e w' => ∃ i : Value, e = .returned i ∧ Hp w [rowI 3 i (F_spec_l4With list at_ y)] w') := by
  obtain ⟨rz, hF⟩ : ∃ rz, (F_spec_l4With list at_ y) = rz := ⟨_, rfl⟩
  rw [hF]
  unfold F_spec_l4With at hF
  have hlen_list := arg_len hlist
  refine calls_tc Try.func130 rfl rfl rfl ?_
  change TC _ _ _ _ (Hp w []) [(0, vlist), (1, (.int .i64 at_)), (2, (.int .i64 y))]
  refine TC.seq ?_
  refine TC.region ?_
  refine TL.op (yq (y_assign ev_c)) rfl rfl rfl ?_
  refine TL.nil ?_
  refine TN.seq ?_
  refine TC.seq ?_
  refine TC.region ?_
  refine TL.op (yq (y_move (ev_t rfl))) rfl rfl rfl ?_
  refine TL.callr (ι := Value) (vs := [vlist]) (fun i => i) (fun i => [rowI 3 i list]) en_91 ⟨(ev_t rfl), trivial⟩ rfl (fun w hw => spec_l1Own_ok w vlist list ((ri_arg hlist) w hw) (by first | assumption | omega | grind)) (fun r1_1 => ?_)
  refine TL.op (yq (y_assign (ev_t rfl))) rfl rfl rfl ?_
  refine TL.nil ?_
  refine TN.seq ?_
  refine TC.seq ?_
  refine TC.region ?_
  refine TL.op (yq (y_move (ev_t rfl))) rfl rfl rfl ?_
  refine TL.op (yq (y_move (ev_t rfl))) rfl rfl rfl ?_
  refine TL.op (yq (y_move (ev_t rfl))) rfl rfl rfl ?_
  have hb2 : (at_).toNat < list.length := (by first | omega | (simp only [List.length_set, List.length_append, List.length_cons, List.length_nil, List.length_replicate]; omega) | (rw [sortI_length]; simp only [List.length_cons, List.length_nil]; omega))
  refine TL.op (yq (y_idx (k := (at_).toNat) (ev_t rfl) (ev_t rfl) (by first | omega | simp) slT_25 (ri_row 0 rfl) hb2)) rfl rfl rfl ?_
  refine TL.storeI 0 (ev_t rfl) (ev_t rfl) one_3 rfl hb2 ?_
  refine TL.nil ?_
  refine TN.seq ?_
  refine TC.seq ?_
  refine TC.region ?_
  refine TL.op (yq (y_move (ev_t rfl))) rfl rfl rfl ?_
  refine TL.op (yq (y_assign (ev_t rfl))) rfl rfl rfl ?_
  refine TL.nil ?_
  refine TN.seq ?_
  refine TC.ret ?_
  subst hF
  exact TN.ret1 rfl (ev_t rfl) (fun w' hw => ⟨r1_1, rfl, hw⟩)

set_option maxRecDepth 4000 in
set_option maxHeartbeats 1000000 in
theorem spec_l7Swap_ok (w : World) (vx : Value) (x : List Int) (hx : RI w vx x) (at_ : Int) (r : Int) (hp0 : 0 ≤ at_ ∧ at_ < x.length) (hp1 : x.length ≤ 1000) :
    Calls Try.prog 112 ([vx, (.int .i64 at_), (.int .i64 r)] : List Value).toArray w (fun e w' => ∃ i : Value, e = .returned i ∧ Hp w [rowI 3 i (F_spec_l7Swap x at_ r)] w') := by
  obtain ⟨rz, hF⟩ : ∃ rz, (F_spec_l7Swap x at_ r) = rz := ⟨_, rfl⟩
  rw [hF]
  unfold F_spec_l7Swap at hF
  have hl4 : (F_spec_l4With x at_ r).length = x.length := by unfold F_spec_l4With; simp
  have hlen_x := arg_len hx
  refine calls_tc Try.func112 rfl rfl rfl ?_
  change TC _ _ _ _ (Hp w []) [(0, vx), (1, (.int .i64 at_)), (2, (.int .i64 r))]
  refine TC.seq ?_
  refine TC.region ?_
  refine TL.op (yq (y_assign ev_c)) rfl rfl rfl ?_
  refine TL.nil ?_
  refine TN.seq ?_
  refine TC.seq ?_
  refine TC.region ?_
  refine TL.op (yq (y_move (ev_t rfl))) rfl rfl rfl ?_
  refine TL.op (yq (y_move (ev_t rfl))) rfl rfl rfl ?_
  refine TL.op (yq (y_move (ev_t rfl))) rfl rfl rfl ?_
  refine TL.callr (ι := Value) (vs := [vx, (.int .i64 at_), (.int .i64 r)]) (fun i => i) (fun i => [rowI 3 i (F_spec_l4With x at_ r)]) en_130 ⟨(ev_t rfl), (ev_t rfl), (ev_t rfl), trivial⟩ rfl (fun w hw => spec_l4With_ok w vx x ((ri_arg hx) w hw) at_ r (by first | assumption | omega | grind) (by first | assumption | omega | grind)) (fun r1_3 => ?_)
  refine TL.callr (ι := Value) (vs := [r1_3]) (fun i => i) (fun i => [rowI 3 i (F_spec_l6Sort (F_spec_l4With x at_ r))]) en_129 ⟨(ev_t rfl), trivial⟩ rfl (fun w hw => spec_l6Sort_ok w r1_3 (F_spec_l4With x at_ r) ((ri_row 0 rfl) w hw) (by first | assumption | omega | grind)) (fun r1_4 => ?_)
  refine TL.op (yq (y_assign (ev_t rfl))) rfl rfl rfl ?_
  refine TL.nil ?_
  refine TN.seq ?_
  refine TC.ret ?_
  subst hF
  exact TN.ret1 rfl (ev_t rfl) (fun w' hw => ⟨r1_4, rfl, Hp.sublist hw (.cons_cons _ (.cons _ .slnil))⟩)

set_option maxRecDepth 4000 in
set_option maxHeartbeats 1000000 in
theorem spec_l7Next_ok (w : World) (vm : Value) (um : List Value) (m : List (List Int)) (hm : RII w vm um m) (k : Int) (vwk : Value) (wk : List Int) (hwk : RI w vwk wk) (r : Int) (hp0 : Ks m k) (hp1 : wk.length = (F_spec_l6Configs (m.length : Int) k).length) (hp2 : ∀ i, 0 ≤ wk.getD i 0 ∧ wk.getD i 0 ≤ 1073741824) (hp3 : 0 ≤ r ∧ r < m.length) :
    Calls Try.prog 71 ([(.agg #[vm]), (.int .i64 k), vwk, (.int .i64 r)] : List Value).toArray w (fun e w' => ∃ i : Value, e = .returned i ∧ Hp w [rowI 3 i (F_spec_l7Next m k wk r)] w') := by
  obtain ⟨rz, hF⟩ : ∃ rz, (F_spec_l7Next m k wk r) = rz := ⟨_, rfl⟩
  rw [hF]
  unfold F_spec_l7Next at hF
  have hTab := hp0.tab
  have hn6 := hTab.n6
  have hk3 := hp0.k3
  have hk1 := hp0.k1
  have h56 := hp0.s56
  have hlen_m := argT_len hm
  have hlen_wk := arg_len hwk
  refine calls_tc Try.func71 rfl rfl rfl ?_
  change TC _ _ _ _ (Hp w []) [(0, (.agg #[vm])), (1, (.int .i64 k)), (2, vwk), (3, (.int .i64 r))]
  refine TC.seq ?_
  refine TC.region ?_
  refine TL.box (ev_t rfl) rfl (fun g0_0 => ?_)
  refine TL.op (yq (y_assign ev_c)) rfl rfl rfl ?_
  refine TL.nil ?_
  refine TN.seq ?_
  refine TC.seq ?_
  refine TC.region ?_
  refine TL.op (yq (y_fa (fa_29_0 g0_0) (ev_t rfl))) rfl rfl rfl ?_
  refine TL.op (yq (y_ldb 0 (ev_t rfl) one_22 rfl rfl)) rfl rfl rfl ?_
  refine TL.op (yq (y_len (ev_t rfl) Try.underlying22 (fun w hw => ((fun w hw => ((rii_arg hm) w hw).1) w hw).ln))) rfl rfl rfl ?_
  refine TL.op (yq (y_move (ev_t rfl))) rfl rfl rfl ?_
  refine TL.callr (ι := Value × List Value) (vs := [(.int .i64 (m.length : Int)), (.int .i64 k)]) (fun i => i.1) (fun i => [tabI 25 3 i.1 i.2 (F_spec_l6Configs (m.length : Int) k)]) en_54 ⟨(ev_t rfl), (ev_t rfl), trivial⟩ rfl (fun w hw => spec_l6Configs_ok w (m.length : Int) k (by first | assumption | omega | grind) (by first | assumption | omega | grind)) (fun r1_4 => ?_)
  refine TL.op (yq (y_assign (ev_t rfl))) rfl rfl rfl ?_
  refine TL.nil ?_
  refine TN.seq ?_
  refine TC.seq ?_
  refine TC.region ?_
  refine TL.buildI (zs := []) (qs := []) slT_25 rfl trivial rfl (by decide) rfl (fun v2_0 => ?_)
  refine TL.op (yq (y_assign (ev_t rfl))) rfl rfl rfl ?_
  refine TL.nil ?_
  refine TN.seq ?_
  refine TC.seq ?_
  refine TC.seq ?_
  refine TC.region ?_
  refine TL.op (yq (y_assign ev_c)) rfl rfl rfl ?_
  refine TL.nil ?_
  refine TN.seq ?_
  refine TC.block ?_
  obtain ⟨c39, hc40⟩ : ∃ c, F_spec_l7Next_L1 m k wk r ((((F_spec_l6Configs (m.length : Int) k).length) - 0) + 1) (([] : List Int), 0) = c := ⟨_, rfl⟩
  rw [hc40] at hF
  refine TC.loop (ι := Nat × List Int × Nat × Value) (fun (fu1, k10_1, k11_1, vk10_1) => [(1, (.int .i64 k)), (2, vwk), (3, (.int .i64 r)), (4, (.pointer (some ⟨g0_0, 0, none⟩))), (9, r1_4.1), (10, vk10_1), (11, (.int .i64 (k11_1 : Int)))]) (fun (fu1, k10_1, k11_1, vk10_1) => Hp w [rowI 3 vk10_1 k10_1, tabI 25 3 r1_4.1 r1_4.2 (F_spec_l6Configs (m.length : Int) k), .blk g0_0 29 [vm]]) (fun (fu1, k10_1, k11_1, vk10_1) => (k11_1 ≤ ((F_spec_l6Configs (m.length : Int) k).length)) ∧ (k10_1.length = k11_1) ∧ ((F_spec_l6Configs (m.length : Int) k).length) - k11_1 < fu1 ∧ F_spec_l7Next_L1 m k wk r fu1 (k10_1, k11_1) = c39) (fun (fu1, k10_1, k11_1, vk10_1) => fu1) ((((F_spec_l6Configs (m.length : Int) k).length) - 0) + 1, ([] : List Int), 0, v2_0) ⟨(by first | omega | (simp [-List.getD_eq_getElem?_getD] <;> omega)), (by first | omega | (simp [-List.getD_eq_getElem?_getD] <;> omega)), (by omega), hc40⟩ ⟨rfl, rfl, rfl, rfl, rfl, rfl, rfl, trivial⟩ (fun w hw => hw) ?_
  rintro ⟨fu1, k10_1, k11_1, vk10_1⟩ hJ1
  obtain ⟨hi1_0, hi1_1, hmu1, hL1⟩ : (k11_1 ≤ ((F_spec_l6Configs (m.length : Int) k).length)) ∧ (k10_1.length = k11_1) ∧ ((F_spec_l6Configs (m.length : Int) k).length) - k11_1 < fu1 ∧ F_spec_l7Next_L1 m k wk r fu1 (k10_1, k11_1) = c39 := hJ1
  change TC _ _ _ _ (Hp w [rowI 3 vk10_1 k10_1, tabI 25 3 r1_4.1 r1_4.2 (F_spec_l6Configs (m.length : Int) k), .blk g0_0 29 [vm]]) [(1, (.int .i64 k)), (2, vwk), (3, (.int .i64 r)), (4, (.pointer (some ⟨g0_0, 0, none⟩))), (9, r1_4.1), (10, vk10_1), (11, (.int .i64 (k11_1 : Int)))]
  obtain ⟨mf1, rfl⟩ : ∃ m, fu1 = m + 1 := ⟨fu1 - 1, by omega⟩
  rw [F_spec_l7Next_L1_s] at hL1
  have hcf := hp0.scf k11_1
  refine TC.seq ?_
  refine TC.seq ?_
  refine TC.region ?_
  refine TL.op (yq (y_move (ev_t rfl))) rfl rfl rfl ?_
  refine TL.op (yq (y_move (ev_t rfl))) rfl rfl rfl ?_
  refine TL.op (yq (y_len (ev_t rfl) Try.underlying22 (fun w hw => ((fun w hw => ((rii_tab 1 rfl) w hw).1) w hw).ln))) rfl rfl rfl ?_
  refine TL.op (yq (y_lss (ev_t rfl) (ev_t rfl))) rfl rfl rfl ?_
  refine TL.nil ?_
  refine TN.seq ?_
  refine TC.cond (b := decide ((k11_1 : Int) < ((F_spec_l6Configs (m.length : Int) k).length : Int))) (ev_t rfl) (fun h41 => ?_) (fun h41 => ?_)
  · rw [bif_pos h41] at hL1
    have q42 := (of_decide_eq_true h41)
    refine TC.skip ?_
    refine TN.seq ?_
    refine TC.seq ?_
    refine TC.block ?_
    refine TC.seq ?_
    refine TC.region ?_
    refine TL.op (yq (y_assign ev_c)) rfl rfl rfl ?_
    refine TL.nil ?_
    refine TN.seq ?_
    refine TC.seq ?_
    refine TC.seq ?_
    refine TC.region ?_
    refine TL.op (yq (y_assign ev_c)) rfl rfl rfl ?_
    refine TL.nil ?_
    refine TN.seq ?_
    refine TC.block ?_
    obtain ⟨c43, hc44⟩ : ∃ c, F_spec_l7Next_L2 m k wk r k11_1 ((((k).toNat) - 0) + 1) ((-1), 0) = c := ⟨_, rfl⟩
    rw [hc44] at hL1
    refine TC.loop (ι := Nat × Int × Nat) (fun (fu2, k12_2, k13_2) => [(1, (.int .i64 k)), (2, vwk), (3, (.int .i64 r)), (4, (.pointer (some ⟨g0_0, 0, none⟩))), (9, r1_4.1), (10, vk10_1), (11, (.int .i64 (k11_1 : Int))), (12, (.int .i64 k12_2)), (13, (.int .i64 (k13_2 : Int)))]) (fun (fu2, k12_2, k13_2) => Hp w [rowI 3 vk10_1 k10_1, tabI 25 3 r1_4.1 r1_4.2 (F_spec_l6Configs (m.length : Int) k), .blk g0_0 29 [vm]]) (fun (fu2, k12_2, k13_2) => (k13_2 ≤ ((k).toNat)) ∧ (-1 ≤ k12_2) ∧ (k12_2 ≤ 1073741923) ∧ ((k).toNat) - k13_2 < fu2 ∧ F_spec_l7Next_L2 m k wk r k11_1 fu2 (k12_2, k13_2) = c43) (fun (fu2, k12_2, k13_2) => fu2) ((((k).toNat) - 0) + 1, -1, 0) ⟨(by first | omega | (simp [-List.getD_eq_getElem?_getD] <;> omega)), (by first | omega | (simp [-List.getD_eq_getElem?_getD] <;> omega)), (by first | omega | (simp [-List.getD_eq_getElem?_getD] <;> omega)), (by omega), hc44⟩ ⟨rfl, rfl, rfl, rfl, rfl, rfl, rfl, rfl, rfl, trivial⟩ (fun w hw => hw) ?_
    rintro ⟨fu2, k12_2, k13_2⟩ hJ2
    obtain ⟨hi2_0, hi2_1, hi2_2, hmu2, hL2⟩ : (k13_2 ≤ ((k).toNat)) ∧ (-1 ≤ k12_2) ∧ (k12_2 ≤ 1073741923) ∧ ((k).toNat) - k13_2 < fu2 ∧ F_spec_l7Next_L2 m k wk r k11_1 fu2 (k12_2, k13_2) = c43 := hJ2
    change TC _ _ _ _ (Hp w [rowI 3 vk10_1 k10_1, tabI 25 3 r1_4.1 r1_4.2 (F_spec_l6Configs (m.length : Int) k), .blk g0_0 29 [vm]]) [(1, (.int .i64 k)), (2, vwk), (3, (.int .i64 r)), (4, (.pointer (some ⟨g0_0, 0, none⟩))), (9, r1_4.1), (10, vk10_1), (11, (.int .i64 (k11_1 : Int))), (12, (.int .i64 k12_2)), (13, (.int .i64 (k13_2 : Int)))]
    obtain ⟨mf2, rfl⟩ : ∃ m, fu2 = m + 1 := ⟨fu2 - 1, by omega⟩
    rw [F_spec_l7Next_L2_s] at hL2
    have hcf1 := (hcf (by omega)).1
    have hcf2 := (hcf (by omega)).2
    have hn3 := hcf1.n3
    have hsw := hp0.sswap k11_1 k13_2 hp3.1 hp3.2 (by omega)
    have hwx := hp2 (F_spec_l7Index (F_spec_l6Configs (m.length : Int) k) (F_spec_l7Swap ((F_spec_l6Configs (m.length : Int) k).getD k11_1 []) (k13_2 : Int) r)).toNat
    have hpe := hcf1.el k13_2
    have hrw := hTab.rows (((F_spec_l6Configs (m.length : Int) k).getD k11_1 []).getD k13_2 0).toNat
    have hme := hTab.el (((F_spec_l6Configs (m.length : Int) k).getD k11_1 []).getD k13_2 0).toNat r.toNat
    refine TC.seq ?_
    refine TC.seq ?_
    refine TC.region ?_
    refine TL.op (yq (y_move (ev_t rfl))) rfl rfl rfl ?_
    refine TL.op (yq (y_move (ev_t rfl))) rfl rfl rfl ?_
    refine TL.op (yq (y_lss (ev_t rfl) (ev_t rfl))) rfl rfl rfl ?_
    refine TL.nil ?_
    refine TN.seq ?_
    refine TC.cond (b := decide ((k13_2 : Int) < k)) (ev_t rfl) (fun h45 => ?_) (fun h45 => ?_)
    · rw [bif_pos h45] at hL2
      have q46 := (of_decide_eq_true h45)
      refine TC.skip ?_
      refine TN.seq ?_
      refine TC.seq ?_
      refine TC.block ?_
      refine TC.seq ?_
      refine TC.regionH 28 (Hp w [rowI 3 vk10_1 k10_1, tabI 25 3 r1_4.1 r1_4.2 (F_spec_l6Configs (m.length : Int) k), .blk g0_0 29 [vm]]) rfl (by kernel_rfl) dr_hp (fun w hw => hw) ?_
      refine TH.take 0 rfl (by kernel_rfl) (y_move (ev_t rfl)) rfl rfl rfl ?_
      refine TH.take 1 rfl (by kernel_rfl) (y_move (ev_t rfl)) rfl rfl rfl ?_
      refine TH.take 2 rfl (by kernel_rfl) (y_move (ev_t rfl)) rfl rfl rfl ?_
      refine TH.take 3 rfl (by kernel_rfl) (y_move (ev_t rfl)) rfl rfl rfl ?_
      have hb47 : k11_1 < (F_spec_l6Configs (m.length : Int) k).length := (by first | omega | (simp only [List.length_set, List.length_append, List.length_cons, List.length_nil, List.length_replicate]; omega) | (rw [sortI_length]; simp only [List.length_cons, List.length_nil]; omega))
      refine TH.take 4 rfl (by kernel_rfl) (y_idx (k := k11_1) (ev_t rfl) (ev_t rfl) (by first | omega | simp) slT_22 (fun w hw => ((rii_tab 1 rfl) w hw).1) hb47) rfl rfl rfl ?_
      refine TH.take 5 rfl (by kernel_rfl) (y_ldT 1 (ev_t rfl) one_25 rfl hb47) rfl rfl rfl ?_
      refine TH.take 6 rfl (by kernel_rfl) (y_move (ev_t rfl)) rfl rfl rfl ?_
      refine TH.take 7 rfl (by kernel_rfl) (y_move (ev_t rfl)) rfl rfl rfl ?_
      refine TH.take 12 rfl (by kernel_rfl) (y_fa (fa_29_0 g0_0) (ev_t rfl)) rfl rfl rfl ?_
      refine TH.take 13 rfl (by kernel_rfl) (y_ldb 2 (ev_t rfl) one_22 rfl rfl) rfl rfl rfl ?_
      refine TH.take 14 rfl (by kernel_rfl) (y_move (ev_t rfl)) rfl rfl rfl ?_
      refine TH.take 15 rfl (by kernel_rfl) (y_move (ev_t rfl)) rfl rfl rfl ?_
      have hb48 : k11_1 < (F_spec_l6Configs (m.length : Int) k).length := (by first | omega | (simp only [List.length_set, List.length_append, List.length_cons, List.length_nil, List.length_replicate]; omega) | (rw [sortI_length]; simp only [List.length_cons, List.length_nil]; omega))
      refine TH.take 16 rfl (by kernel_rfl) (y_idx (k := k11_1) (ev_t rfl) (ev_t rfl) (by first | omega | simp) slT_22 (fun w hw => ((rii_tab 1 rfl) w hw).1) hb48) rfl rfl rfl ?_
      refine TH.take 17 rfl (by kernel_rfl) (y_ldT 1 (ev_t rfl) one_25 rfl hb48) rfl rfl rfl ?_
      refine TH.take 18 rfl (by kernel_rfl) (y_move (ev_t rfl)) rfl rfl rfl ?_
      have hb49 : k13_2 < ((F_spec_l6Configs (m.length : Int) k).getD k11_1 []).length := (by first | omega | (simp only [List.length_set, List.length_append, List.length_cons, List.length_nil, List.length_replicate]; omega) | (rw [sortI_length]; simp only [List.length_cons, List.length_nil]; omega))
      refine TH.take 19 rfl (by kernel_rfl) (y_idx (k := k13_2) (ev_t rfl) (ev_t rfl) (by first | omega | simp) slT_25 (ri_tab 1 k11_1 rfl hb48) hb49) rfl rfl rfl ?_
      refine TH.take 20 rfl (by kernel_rfl) (y_ldi (ev_t rfl) one_3 (ri_tab 1 k11_1 rfl hb48) hb49) rfl rfl rfl ?_
      have hb50 : ((((F_spec_l6Configs (m.length : Int) k).getD k11_1 []).getD k13_2 0)).toNat < m.length := (by first | omega | (simp only [List.length_set, List.length_append, List.length_cons, List.length_nil, List.length_replicate]; omega) | (rw [sortI_length]; simp only [List.length_cons, List.length_nil]; omega))
      refine TH.take 21 rfl (by kernel_rfl) (y_idx (k := ((((F_spec_l6Configs (m.length : Int) k).getD k11_1 []).getD k13_2 0)).toNat) (ev_t rfl) (ev_t rfl) (by first | omega | simp) slT_22 (fun w hw => ((rii_arg hm) w hw).1) hb50) rfl rfl rfl ?_
      have ha51 := hm.row (i := ((((F_spec_l6Configs (m.length : Int) k).getD k11_1 []).getD k13_2 0)).toNat) hb50
      refine TH.take 22 rfl (by kernel_rfl) (y_ldA (ev_t rfl) one_25 (rii_arg hm) hb50) rfl rfl rfl ?_
      refine TH.take 23 rfl (by kernel_rfl) (y_move (ev_t rfl)) rfl rfl rfl ?_
      have hb52 : (r).toNat < (m.getD (((((F_spec_l6Configs (m.length : Int) k).getD k11_1 []).getD k13_2 0)).toNat) []).length := (by first | omega | (simp only [List.length_set, List.length_append, List.length_cons, List.length_nil, List.length_replicate]; omega) | (rw [sortI_length]; simp only [List.length_cons, List.length_nil]; omega))
      refine TH.take 24 rfl (by kernel_rfl) (y_idx (k := (r).toNat) (ev_t rfl) (ev_t rfl) (by first | omega | simp) slT_25 (ri_arg ha51) hb52) rfl rfl rfl ?_
      refine TH.take 25 rfl (by kernel_rfl) (y_ldi (ev_t rfl) one_3 (ri_arg ha51) hb52) rfl rfl rfl ?_
      refine TH.loud 8 rfl (by kernel_rfl) ?_
      refine TL.callr (ι := Value) (vs := [(r1_4.2.getD k11_1 undef), (.int .i64 (k13_2 : Int)), (.int .i64 r)]) (fun i => i) (fun i => [rowI 3 i (F_spec_l7Swap ((F_spec_l6Configs (m.length : Int) k).getD k11_1 []) (k13_2 : Int) r)]) en_112 ⟨(ev_t rfl), (ev_t rfl), (ev_t rfl), trivial⟩ rfl (fun w hw => spec_l7Swap_ok w (r1_4.2.getD k11_1 undef) ((F_spec_l6Configs (m.length : Int) k).getD k11_1 []) ((ri_tab 1 k11_1 rfl hb47) w hw) (k13_2 : Int) r (by first | assumption | omega | grind) (by first | assumption | omega | grind)) (fun r10_8 => ?_)
      refine TL.nil ?_
      refine TH.back (fun w hw => Hp.sublist hw (.cons _ (.cons_cons _ (.cons_cons _ (.cons_cons _ .slnil))))) ?_
      refine TH.loud 9 rfl (by kernel_rfl) ?_
      refine TL.op (y_call (vs := [r1_4.1, r10_8]) (v := (.int .i64 (F_spec_l7Index (F_spec_l6Configs (m.length : Int) k) (F_spec_l7Swap ((F_spec_l6Configs (m.length : Int) k).getD k11_1 []) (k13_2 : Int) r)))) en_69 ⟨(ev_t rfl), (ev_t rfl), trivial⟩ (fun w hw => spec_l7Index_ok w r1_4.1 r1_4.2 (F_spec_l6Configs (m.length : Int) k) ((rii_tab 2 rfl) w hw) r10_8 (F_spec_l7Swap ((F_spec_l6Configs (m.length : Int) k).getD k11_1 []) (k13_2 : Int) r) ((ri_row 0 rfl) w hw))) rfl rfl rfl ?_
      refine TL.nil ?_
      refine TH.back (fun w hw => Hp.sublist hw (.cons _ (.cons_cons _ (.cons_cons _ (.cons_cons _ .slnil))))) ?_
      have hb53 : ((F_spec_l7Index (F_spec_l6Configs (m.length : Int) k) (F_spec_l7Swap ((F_spec_l6Configs (m.length : Int) k).getD k11_1 []) (k13_2 : Int) r))).toNat < wk.length := (by first | omega | (simp only [List.length_set, List.length_append, List.length_cons, List.length_nil, List.length_replicate]; omega) | (rw [sortI_length]; simp only [List.length_cons, List.length_nil]; omega))
      refine TH.take 10 rfl (by kernel_rfl) (y_idx (k := ((F_spec_l7Index (F_spec_l6Configs (m.length : Int) k) (F_spec_l7Swap ((F_spec_l6Configs (m.length : Int) k).getD k11_1 []) (k13_2 : Int) r))).toNat) (ev_t rfl) (ev_t rfl) (by first | omega | simp) slT_25 (ri_arg hwk) hb53) rfl rfl rfl ?_
      refine TH.take 11 rfl (by kernel_rfl) (y_ldi (ev_t rfl) one_3 (ri_arg hwk) hb53) rfl rfl rfl ?_
      refine TH.take 26 rfl (by kernel_rfl) (y_add (ev_t rfl) (ev_t rfl) (by unfold In64; omega)) rfl rfl rfl ?_
      refine TH.take 27 rfl (by kernel_rfl) (y_assign (ev_t rfl)) rfl rfl rfl ?_
      refine TH.done (by kernel_rfl) ?_
      refine TN.seq ?_
      refine TC.seq ?_
      refine TC.region ?_
      refine TL.op (yq (y_move (ev_t rfl))) rfl rfl rfl ?_
      refine TL.op (yq (y_lss (ev_t rfl) ev_c)) rfl rfl rfl ?_
      refine TL.op (yq (y_move (ev_t rfl))) rfl rfl rfl ?_
      refine TL.opw (w_f rfl rfl rfl) (fun hg => yq (y_move (ev_t rfl))) rfl rfl ?_
      refine TL.opw (w_f rfl rfl rfl) (fun hg => yq (y_move (ev_t rfl))) rfl rfl ?_
      refine TL.opw (w_f rfl rfl rfl) (fun hg => yq (y_lss (ev_g rfl hg) (ev_g rfl hg))) rfl rfl ?_
      refine TL.op (yq (y_or (ev_t rfl) (fun hq => (ev_g rfl hq)))) rfl rfl rfl ?_
      refine TL.nil ?_
      refine TN.seq ?_
      refine TC.cond (b := ((decide (k12_2 < 0)) || (decide ((wk.getD (((F_spec_l7Index (F_spec_l6Configs (m.length : Int) k) (F_spec_l7Swap ((F_spec_l6Configs (m.length : Int) k).getD k11_1 []) (k13_2 : Int) r))).toNat) 0) + ((m.getD (((((F_spec_l6Configs (m.length : Int) k).getD k11_1 []).getD k13_2 0)).toNat) []).getD ((r).toNat) 0) < k12_2)))) (ev_t rfl) (fun h54 => ?_) (fun h54 => ?_)
      · rw [bif_pos h54] at hL2
        have q55 := ((or_t h54).imp (fun h => (of_decide_eq_true h)) (fun h => (of_decide_eq_true h)))
        refine TC.region ?_
        refine TL.op (yq (y_move (ev_t rfl))) rfl rfl rfl ?_
        refine TL.op (yq (y_assign (ev_t rfl))) rfl rfl rfl ?_
        refine TL.nil ?_
        refine TN.blockN ?_
        refine TN.seq ?_
        refine TC.region ?_
        refine TL.op (yq (y_move (ev_t rfl))) rfl rfl rfl ?_
        refine TL.op (yq (y_add (ev_t rfl) ev_c (by unfold In64; omega))) rfl rfl rfl ?_
        refine TL.op (yq (y_assign (ev_t rfl))) rfl rfl rfl ?_
        refine TL.nil ?_
        exact TN.hand (mf2, (wk.getD (((F_spec_l7Index (F_spec_l6Configs (m.length : Int) k) (F_spec_l7Swap ((F_spec_l6Configs (m.length : Int) k).getD k11_1 []) (k13_2 : Int) r))).toNat) 0) + ((m.getD (((((F_spec_l6Configs (m.length : Int) k).getD k11_1 []).getD k13_2 0)).toNat) []).getD ((r).toNat) 0), (k13_2 + 1)) ⟨(by first | omega | (simp [-List.getD_eq_getElem?_getD] <;> omega)), (by first | omega | (simp [-List.getD_eq_getElem?_getD] <;> omega)), (by first | omega | (simp [-List.getD_eq_getElem?_getD] <;> omega)), (by omega), hL2⟩ (Nat.lt_succ_self _) ⟨rfl, rfl, rfl, rfl, rfl, rfl, rfl, rfl, rfl, trivial⟩ (fun w hw => Hp.sublist hw (.cons _ (.cons_cons _ (.cons_cons _ (.cons_cons _ .slnil)))))
      · rw [bif_neg h54] at hL2
        have q55 := (and_imp (or_f h54) (fun h => (of_decide_eq_false h)) (fun h => (of_decide_eq_false h)))
        refine TC.skip ?_
        refine TN.blockN ?_
        refine TN.seq ?_
        refine TC.region ?_
        refine TL.op (yq (y_move (ev_t rfl))) rfl rfl rfl ?_
        refine TL.op (yq (y_add (ev_t rfl) ev_c (by unfold In64; omega))) rfl rfl rfl ?_
        refine TL.op (yq (y_assign (ev_t rfl))) rfl rfl rfl ?_
        refine TL.nil ?_
        exact TN.hand (mf2, k12_2, (k13_2 + 1)) ⟨(by first | omega | (simp [-List.getD_eq_getElem?_getD] <;> omega)), (by first | omega | (simp [-List.getD_eq_getElem?_getD] <;> omega)), (by first | omega | (simp [-List.getD_eq_getElem?_getD] <;> omega)), (by omega), hL2⟩ (Nat.lt_succ_self _) ⟨rfl, rfl, rfl, rfl, rfl, rfl, rfl, rfl, rfl, trivial⟩ (fun w hw => Hp.sublist hw (.cons _ (.cons_cons _ (.cons_cons _ (.cons_cons _ .slnil)))))
    · rw [bif_neg h45] at hL2
      have q46 := (of_decide_eq_false h45)
      refine TC.exit ?_
      refine TN.thenE ?_
      refine TN.thenE ?_
      rw [← hL2, elim_next] at hL1
      try dsimp only at hL1
      refine TN.blockH ?_
      refine TN.seq ?_
      refine TC.region ?_
      refine TL.op (yq (y_move (ev_t rfl))) rfl rfl rfl ?_
      refine TL.op (yq (y_move (ev_t rfl))) rfl rfl rfl ?_
      refine TL.buildI (zs := [.tmp 68]) (qs := [k12_2]) slT_25 rfl ⟨(ev_t rfl), trivial⟩ rfl (by decide) rfl (fun v13_2 => ?_)
      refine TL.appendI 1 (ev_t rfl) (ev_t rfl) rfl slT_25 (ri_row 0 rfl) (by first | omega | (simp [-List.getD_eq_getElem?_getD] <;> omega)) rfl (fun v13_3 => ?_)
      refine TL.op (yq (y_assign (ev_t rfl))) rfl rfl rfl ?_
      refine TL.nil ?_
      refine TN.blockN ?_
      refine TN.seq ?_
      refine TC.region ?_
      refine TL.op (yq (y_move (ev_t rfl))) rfl rfl rfl ?_
      refine TL.op (yq (y_add (ev_t rfl) ev_c (by unfold In64; omega))) rfl rfl rfl ?_
      refine TL.op (yq (y_assign (ev_t rfl))) rfl rfl rfl ?_
      refine TL.nil ?_
      exact TN.hand (mf1, (k10_1 ++ ([k12_2])), (k11_1 + 1), v13_3) ⟨(by first | omega | (simp [-List.getD_eq_getElem?_getD] <;> omega)), (by first | omega | (simp [-List.getD_eq_getElem?_getD] <;> omega)), (by omega), hL1⟩ (Nat.lt_succ_self _) ⟨rfl, rfl, rfl, rfl, rfl, rfl, rfl, trivial⟩ (fun w hw => Hp.sublist hw (.cons _ (.cons_cons _ (.cons_cons _ (.cons_cons _ .slnil)))))
  · rw [bif_neg h41] at hL1
    have q42 := (of_decide_eq_false h41)
    refine TC.exit ?_
    refine TN.thenE ?_
    refine TN.thenE ?_
    rw [← hL1, elim_next] at hF
    try dsimp only at hF
    refine TN.blockH ?_
    refine TN.seq ?_
    refine TC.seq ?_
    refine TC.region ?_
    refine TL.op (yq (y_move (ev_t rfl))) rfl rfl rfl ?_
    refine TL.op (yq (y_assign (ev_t rfl))) rfl rfl rfl ?_
    refine TL.nil ?_
    refine TN.seq ?_
    refine TC.ret ?_
    subst hF
    exact TN.ret1 rfl (ev_t rfl) (fun w' hw => ⟨vk10_1, rfl, Hp.sublist hw (.cons_cons _ (.cons _ (.cons _ .slnil)))⟩)

set_option maxRecDepth 4000 in
set_option maxHeartbeats 1000000 in
theorem spec_l7Given_ok (w : World) (vm : Value) (um : List Value) (m : List (List Int)) (hm : RII w vm um m) (k : Int) (vwk : Value) (wk : List Int) (hwk : RI w vwk wk) (r : Int)  :
    Calls Try.prog 58 ([(.agg #[vm]), (.int .i64 k), vwk, (.int .i64 r)] : List Value).toArray w (Ret (.bool (F_spec_l7Given m k wk r)) (Hp w [])) := by
  obtain ⟨rz, hF⟩ : ∃ rz, (F_spec_l7Given m k wk r) = rz := ⟨_, rfl⟩
  rw [hF]
  unfold F_spec_l7Given at hF
  have hlen_m := argT_len hm
  have hlen_wk := arg_len hwk
  refine calls_tc Try.func58 rfl rfl rfl ?_
  change TC _ _ _ _ (Hp w []) [(0, (.agg #[vm])), (1, (.int .i64 k)), (2, vwk), (3, (.int .i64 r))]
  refine TC.seq ?_
  refine TC.region ?_
  refine TL.box (ev_t rfl) rfl (fun g0_0 => ?_)
  refine TL.op (yq (y_assign ev_c)) rfl rfl rfl ?_
  refine TL.nil ?_
  refine TN.seq ?_
  refine TC.seq ?_
  rcases Bool.eq_false_or_eq_true (F_spec_l7Asked m k) with h5 | h5
  · rw [bif_pos h5] at hF
    have q6 := (l7Asked_t h5)
    have hKs := q6
    have hKc := hKs.ksc
    have hn6 := hKs.tab.n6
    have hk3 := hKs.k3
    rcases Bool.eq_false_or_eq_true ((decide (0 ≤ r)) && (decide (r ≤ ((m.length : Int) - 1)))) with h7 | h7
    · rw [bif_pos h7] at hF
      have q8 := (and_imp (and_t h7) (fun h => (of_decide_eq_true h)) (fun h => (of_decide_eq_true h)))
      refine TC.regionH 22 (Hp w [.blk g0_0 29 [vm]]) rfl (by kernel_rfl) dr_hp (fun w hw => hw) ?_
      refine TH.take 0 rfl (by kernel_rfl) (y_ldagg (cs := [vm]) 0 (ev_t rfl) agg_29 rfl) rfl rfl rfl ?_
      refine TH.take 1 rfl (by kernel_rfl) (y_move (ev_t rfl)) rfl rfl rfl ?_
      refine TH.loud 2 rfl (by kernel_rfl) ?_
      refine TL.op (y_call (vs := [(.agg #[vm]), (.int .i64 k)]) (v := (.bool (F_spec_l7Asked m k))) en_52 ⟨(ev_t rfl), (ev_t rfl), trivial⟩ (fun w hw => spec_l7Asked_ok w vm um m ((rii_arg hm) w hw) k)) rfl rfl rfl ?_
      refine TL.nil ?_
      refine TH.back (fun w hw => hw) ?_
      refine TH.take 3 rfl (by kernel_rfl) (y_move (ev_t rfl)) rfl rfl rfl ?_
      refine TH.takew 4 rfl (by kernel_rfl) (fun a hs => (w_t rfl rfl rfl a hs).trans (by rw [h5])) (fun _ => y_move (ev_t rfl)) rfl rfl ?_
      refine TH.takew 5 rfl (by kernel_rfl) (fun a hs => (w_t rfl rfl rfl a hs).trans (by rw [h5])) (fun _ => y_fa (fa_29_0 g0_0) (ev_t rfl)) rfl rfl ?_
      refine TH.takew 6 rfl (by kernel_rfl) (fun a hs => (w_t rfl rfl rfl a hs).trans (by rw [h5])) (fun _ => y_ldb 0 (ev_t rfl) one_22 rfl rfl) rfl rfl ?_
      refine TH.takew 7 rfl (by kernel_rfl) (fun a hs => (w_t rfl rfl rfl a hs).trans (by rw [h5])) (fun _ => y_len (ev_t rfl) Try.underlying22 (fun w hw => ((fun w hw => ((rii_arg hm) w hw).1) w hw).ln)) rfl rfl ?_
      refine TH.takew 8 rfl (by kernel_rfl) (fun a hs => (w_t rfl rfl rfl a hs).trans (by rw [h5])) (fun _ => y_sub (ev_t rfl) ev_c (by unfold In64; omega)) rfl rfl ?_
      refine TH.loud 9 rfl (by kernel_rfl) ?_
      refine TL.ung (fun a hs => (w_t rfl rfl rfl a hs).trans (by rw [h5])) ?_
      refine TL.op (y_call (vs := [(.int .i64 r), (.int .i64 0), (.int .i64 ((m.length : Int) - 1))]) (v := (.bool ((decide (0 ≤ r)) && (decide (r ≤ ((m.length : Int) - 1)))))) en_96 ⟨(ev_t rfl), ev_c, (ev_t rfl), trivial⟩ (fun w hw => spec_l1In_ok w r 0 ((m.length : Int) - 1))) rfl rfl rfl ?_
      refine TL.nil ?_
      refine TH.back (fun w hw => hw) ?_
      refine TH.take 10 rfl (by kernel_rfl) (y_pickKT (ev_t rfl) h5 (ev_t rfl)) rfl rfl rfl ?_
      refine TH.take 11 rfl (by kernel_rfl) (y_move (ev_t rfl)) rfl rfl rfl ?_
      refine TH.takew 12 rfl (by kernel_rfl) (fun a hs => (w_t rfl rfl rfl a hs).trans (by rw [h7])) (fun _ => y_ldagg (cs := [vm]) 0 (ev_t rfl) agg_29 rfl) rfl rfl ?_
      refine TH.takew 13 rfl (by kernel_rfl) (fun a hs => (w_t rfl rfl rfl a hs).trans (by rw [h7])) (fun _ => y_fa (fa_29_0 g0_0) (ev_t rfl)) rfl rfl ?_
      refine TH.takew 14 rfl (by kernel_rfl) (fun a hs => (w_t rfl rfl rfl a hs).trans (by rw [h7])) (fun _ => y_ldb 0 (ev_t rfl) one_22 rfl rfl) rfl rfl ?_
      refine TH.takew 15 rfl (by kernel_rfl) (fun a hs => (w_t rfl rfl rfl a hs).trans (by rw [h7])) (fun _ => y_len (ev_t rfl) Try.underlying22 (fun w hw => ((fun w hw => ((rii_arg hm) w hw).1) w hw).ln)) rfl rfl ?_
      refine TH.takew 16 rfl (by kernel_rfl) (fun a hs => (w_t rfl rfl rfl a hs).trans (by rw [h7])) (fun _ => y_move (ev_t rfl)) rfl rfl ?_
      refine TH.takew 18 rfl (by kernel_rfl) (fun a hs => (w_t rfl rfl rfl a hs).trans (by rw [h7])) (fun _ => y_move (ev_t rfl)) rfl rfl ?_
      refine TH.loud 17 rfl (by kernel_rfl) ?_
      refine TL.ung (fun a hs => (w_t rfl rfl rfl a hs).trans (by rw [h7])) ?_
      refine TL.callr (ι := Value × List Value) (vs := [(.int .i64 (m.length : Int)), (.int .i64 k)]) (fun i => i.1) (fun i => [tabI 25 3 i.1 i.2 (F_spec_l6Configs (m.length : Int) k)]) en_54 ⟨(ev_t rfl), (ev_t rfl), trivial⟩ rfl (fun w hw => spec_l6Configs_ok w (m.length : Int) k (by first | assumption | omega | grind) (by first | assumption | omega | grind)) (fun r1_17 => ?_)
      refine TL.nil ?_
      refine TH.back (fun w hw => Hp.sublist hw (.cons _ (.cons_cons _ .slnil))) ?_
      refine TH.loud 19 rfl (by kernel_rfl) ?_
      refine TL.ung (fun a hs => (w_t rfl rfl rfl a hs).trans (by rw [h7])) ?_
      refine TL.op (y_call (vs := [(.agg #[vm]), r1_17.1, vwk]) (v := (.bool (F_spec_l7Work m (F_spec_l6Configs (m.length : Int) k) wk))) en_53 ⟨(ev_t rfl), (ev_t rfl), (ev_t rfl), trivial⟩ (fun w hw => spec_l7Work_ok w vm um m ((rii_arg hm) w hw) r1_17.1 r1_17.2 (F_spec_l6Configs (m.length : Int) k) ((rii_tab 0 rfl) w hw) vwk wk ((ri_arg hwk) w hw) (by first | assumption | omega | grind))) rfl rfl rfl ?_
      refine TL.nil ?_
      refine TH.back (fun w hw => Hp.sublist hw (.cons _ (.cons_cons _ .slnil))) ?_
      refine TH.take 20 rfl (by kernel_rfl) (y_pickKT (ev_t rfl) h7 (ev_t rfl)) rfl rfl rfl ?_
      refine TH.take 21 rfl (by kernel_rfl) (y_assign (ev_t rfl)) rfl rfl rfl ?_
      refine TH.done (by kernel_rfl) ?_
      refine TN.seq ?_
      refine TC.ret ?_
      subst hF
      exact TN.ret1 rfl (ev_t rfl) (fun w' hw => ⟨rfl, Hp.sublist hw (List.nil_sublist _)⟩)
    · rw [bif_neg h7] at hF
      have q8 := ((and_f h7).imp (fun h => (of_decide_eq_false h)) (fun h => (of_decide_eq_false h)))
      refine TC.regionH 22 (Hp w [.blk g0_0 29 [vm]]) rfl (by kernel_rfl) dr_hp (fun w hw => hw) ?_
      refine TH.take 0 rfl (by kernel_rfl) (y_ldagg (cs := [vm]) 0 (ev_t rfl) agg_29 rfl) rfl rfl rfl ?_
      refine TH.take 1 rfl (by kernel_rfl) (y_move (ev_t rfl)) rfl rfl rfl ?_
      refine TH.loud 2 rfl (by kernel_rfl) ?_
      refine TL.op (y_call (vs := [(.agg #[vm]), (.int .i64 k)]) (v := (.bool (F_spec_l7Asked m k))) en_52 ⟨(ev_t rfl), (ev_t rfl), trivial⟩ (fun w hw => spec_l7Asked_ok w vm um m ((rii_arg hm) w hw) k)) rfl rfl rfl ?_
      refine TL.nil ?_
      refine TH.back (fun w hw => hw) ?_
      refine TH.take 3 rfl (by kernel_rfl) (y_move (ev_t rfl)) rfl rfl rfl ?_
      refine TH.takew 4 rfl (by kernel_rfl) (fun a hs => (w_t rfl rfl rfl a hs).trans (by rw [h5])) (fun _ => y_move (ev_t rfl)) rfl rfl ?_
      refine TH.takew 5 rfl (by kernel_rfl) (fun a hs => (w_t rfl rfl rfl a hs).trans (by rw [h5])) (fun _ => y_fa (fa_29_0 g0_0) (ev_t rfl)) rfl rfl ?_
      refine TH.takew 6 rfl (by kernel_rfl) (fun a hs => (w_t rfl rfl rfl a hs).trans (by rw [h5])) (fun _ => y_ldb 0 (ev_t rfl) one_22 rfl rfl) rfl rfl ?_
      refine TH.takew 7 rfl (by kernel_rfl) (fun a hs => (w_t rfl rfl rfl a hs).trans (by rw [h5])) (fun _ => y_len (ev_t rfl) Try.underlying22 (fun w hw => ((fun w hw => ((rii_arg hm) w hw).1) w hw).ln)) rfl rfl ?_
      refine TH.takew 8 rfl (by kernel_rfl) (fun a hs => (w_t rfl rfl rfl a hs).trans (by rw [h5])) (fun _ => y_sub (ev_t rfl) ev_c (by unfold In64; omega)) rfl rfl ?_
      refine TH.loud 9 rfl (by kernel_rfl) ?_
      refine TL.ung (fun a hs => (w_t rfl rfl rfl a hs).trans (by rw [h5])) ?_
      refine TL.op (y_call (vs := [(.int .i64 r), (.int .i64 0), (.int .i64 ((m.length : Int) - 1))]) (v := (.bool ((decide (0 ≤ r)) && (decide (r ≤ ((m.length : Int) - 1)))))) en_96 ⟨(ev_t rfl), ev_c, (ev_t rfl), trivial⟩ (fun w hw => spec_l1In_ok w r 0 ((m.length : Int) - 1))) rfl rfl rfl ?_
      refine TL.nil ?_
      refine TH.back (fun w hw => hw) ?_
      refine TH.take 10 rfl (by kernel_rfl) (y_pickKT (ev_t rfl) h5 (ev_t rfl)) rfl rfl rfl ?_
      refine TH.take 11 rfl (by kernel_rfl) (y_move (ev_t rfl)) rfl rfl rfl ?_
      refine TH.takew (v := undef) 12 rfl (by kernel_rfl) (fun a hs => (w_t rfl rfl rfl a hs).trans (by rw [h7])) (fun hg => by cases hg) rfl rfl ?_
      refine TH.takew (v := undef) 13 rfl (by kernel_rfl) (fun a hs => (w_t rfl rfl rfl a hs).trans (by rw [h7])) (fun hg => by cases hg) rfl rfl ?_
      refine TH.takew (v := undef) 14 rfl (by kernel_rfl) (fun a hs => (w_t rfl rfl rfl a hs).trans (by rw [h7])) (fun hg => by cases hg) rfl rfl ?_
      refine TH.takew (v := undef) 15 rfl (by kernel_rfl) (fun a hs => (w_t rfl rfl rfl a hs).trans (by rw [h7])) (fun hg => by cases hg) rfl rfl ?_
      refine TH.takew (v := undef) 16 rfl (by kernel_rfl) (fun a hs => (w_t rfl rfl rfl a hs).trans (by rw [h7])) (fun hg => by cases hg) rfl rfl ?_
      refine TH.takew (v := undef) 17 rfl (by kernel_rfl) (fun a hs => (w_t rfl rfl rfl a hs).trans (by rw [h7])) (fun hg => by cases hg) rfl rfl ?_
      refine TH.takew (v := undef) 18 rfl (by kernel_rfl) (fun a hs => (w_t rfl rfl rfl a hs).trans (by rw [h7])) (fun hg => by cases hg) rfl rfl ?_
      refine TH.takew (v := undef) 19 rfl (by kernel_rfl) (fun a hs => (w_t rfl rfl rfl a hs).trans (by rw [h7])) (fun hg => by cases hg) rfl rfl ?_
      refine TH.take 20 rfl (by kernel_rfl) (y_pickKF (ev_t rfl) h7 ev_c) rfl rfl rfl ?_
      refine TH.take 21 rfl (by kernel_rfl) (y_assign (ev_t rfl)) rfl rfl rfl ?_
      refine TH.done (by kernel_rfl) ?_
      refine TN.seq ?_
      refine TC.ret ?_
      subst hF
      exact TN.ret1 rfl (ev_t rfl) (fun w' hw => ⟨rfl, Hp.sublist hw (List.nil_sublist _)⟩)
  · rw [bif_neg h5] at hF
    have q6 := h5
    refine TC.regionH 22 (Hp w [.blk g0_0 29 [vm]]) rfl (by kernel_rfl) dr_hp (fun w hw => hw) ?_
    refine TH.take 0 rfl (by kernel_rfl) (y_ldagg (cs := [vm]) 0 (ev_t rfl) agg_29 rfl) rfl rfl rfl ?_
    refine TH.take 1 rfl (by kernel_rfl) (y_move (ev_t rfl)) rfl rfl rfl ?_
    refine TH.loud 2 rfl (by kernel_rfl) ?_
    refine TL.op (y_call (vs := [(.agg #[vm]), (.int .i64 k)]) (v := (.bool (F_spec_l7Asked m k))) en_52 ⟨(ev_t rfl), (ev_t rfl), trivial⟩ (fun w hw => spec_l7Asked_ok w vm um m ((rii_arg hm) w hw) k)) rfl rfl rfl ?_
    refine TL.nil ?_
    refine TH.back (fun w hw => hw) ?_
    refine TH.take 3 rfl (by kernel_rfl) (y_move (ev_t rfl)) rfl rfl rfl ?_
    refine TH.takew (v := undef) 4 rfl (by kernel_rfl) (fun a hs => (w_t rfl rfl rfl a hs).trans (by rw [h5])) (fun hg => by cases hg) rfl rfl ?_
    refine TH.takew (v := undef) 5 rfl (by kernel_rfl) (fun a hs => (w_t rfl rfl rfl a hs).trans (by rw [h5])) (fun hg => by cases hg) rfl rfl ?_
    refine TH.takew (v := undef) 6 rfl (by kernel_rfl) (fun a hs => (w_t rfl rfl rfl a hs).trans (by rw [h5])) (fun hg => by cases hg) rfl rfl ?_
    refine TH.takew (v := undef) 7 rfl (by kernel_rfl) (fun a hs => (w_t rfl rfl rfl a hs).trans (by rw [h5])) (fun hg => by cases hg) rfl rfl ?_
    refine TH.takew (v := undef) 8 rfl (by kernel_rfl) (fun a hs => (w_t rfl rfl rfl a hs).trans (by rw [h5])) (fun hg => by cases hg) rfl rfl ?_
    refine TH.takew (v := undef) 9 rfl (by kernel_rfl) (fun a hs => (w_t rfl rfl rfl a hs).trans (by rw [h5])) (fun hg => by cases hg) rfl rfl ?_
    refine TH.take 10 rfl (by kernel_rfl) (y_pickKF (ev_t rfl) h5 ev_c) rfl rfl rfl ?_
    refine TH.take 11 rfl (by kernel_rfl) (y_move (ev_t rfl)) rfl rfl rfl ?_
    refine TH.takew (v := undef) 12 rfl (by kernel_rfl) (fun a hs => (w_t rfl rfl rfl a hs).trans rfl) (fun hg => by cases hg) rfl rfl ?_
    refine TH.takew (v := undef) 13 rfl (by kernel_rfl) (fun a hs => (w_t rfl rfl rfl a hs).trans rfl) (fun hg => by cases hg) rfl rfl ?_
    refine TH.takew (v := undef) 14 rfl (by kernel_rfl) (fun a hs => (w_t rfl rfl rfl a hs).trans rfl) (fun hg => by cases hg) rfl rfl ?_
    refine TH.takew (v := undef) 15 rfl (by kernel_rfl) (fun a hs => (w_t rfl rfl rfl a hs).trans rfl) (fun hg => by cases hg) rfl rfl ?_
    refine TH.takew (v := undef) 16 rfl (by kernel_rfl) (fun a hs => (w_t rfl rfl rfl a hs).trans rfl) (fun hg => by cases hg) rfl rfl ?_
    refine TH.takew (v := undef) 17 rfl (by kernel_rfl) (fun a hs => (w_t rfl rfl rfl a hs).trans rfl) (fun hg => by cases hg) rfl rfl ?_
    refine TH.takew (v := undef) 18 rfl (by kernel_rfl) (fun a hs => (w_t rfl rfl rfl a hs).trans rfl) (fun hg => by cases hg) rfl rfl ?_
    refine TH.takew (v := undef) 19 rfl (by kernel_rfl) (fun a hs => (w_t rfl rfl rfl a hs).trans rfl) (fun hg => by cases hg) rfl rfl ?_
    refine TH.take 20 rfl (by kernel_rfl) (y_pickF (ev_t rfl) ev_c) rfl rfl rfl ?_
    refine TH.take 21 rfl (by kernel_rfl) (y_assign (ev_t rfl)) rfl rfl rfl ?_
    refine TH.done (by kernel_rfl) ?_
    refine TN.seq ?_
    refine TC.ret ?_
    subst hF
    exact TN.ret1 rfl (ev_t rfl) (fun w' hw => ⟨rfl, Hp.sublist hw (List.nil_sublist _)⟩)

set_option maxRecDepth 4000 in
set_option maxHeartbeats 1000000 in
theorem spec_l7Greatest_ok (w : World) (vlist : Value) (list : List Int) (hlist : RI w vlist list)  :
    Calls Try.prog 72 ([vlist] : List Value).toArray w (Ret (.int .i64 (F_spec_l7Greatest list)) (Hp w [])) := by
  obtain ⟨rz, hF⟩ : ∃ rz, (F_spec_l7Greatest list) = rz := ⟨_, rfl⟩
  rw [hF]
  unfold F_spec_l7Greatest at hF
  have hlen_list := arg_len hlist
  refine calls_tc Try.func72 rfl rfl rfl ?_
  change TC _ _ _ _ (Hp w []) [(0, vlist)]
  refine TC.seq ?_
  refine TC.region ?_
  refine TL.op (yq (y_assign ev_c)) rfl rfl rfl ?_
  refine TL.nil ?_
  refine TN.seq ?_
  refine TC.seq ?_
  refine TC.region ?_
  refine TL.op (yq (y_assign ev_c)) rfl rfl rfl ?_
  refine TL.nil ?_
  refine TN.seq ?_
  refine TC.seq ?_
  refine TC.seq ?_
  refine TC.region ?_
  refine TL.op (yq (y_assign ev_c)) rfl rfl rfl ?_
  refine TL.nil ?_
  refine TN.seq ?_
  refine TC.block ?_
  obtain ⟨c10, hc11⟩ : ∃ c, F_spec_l7Greatest_L1 list ((list.length - 0) + 1) (0, 0) = c := ⟨_, rfl⟩
  rw [hc11] at hF
  refine TC.loop (ι := Nat × Int × Nat) (fun (fu1, most1, i1) => [(0, vlist), (3, (.int .i64 most1)), (4, (.int .i64 (i1 : Int)))]) (fun (fu1, most1, i1) => Hp w []) (fun (fu1, most1, i1) => (i1 ≤ list.length) ∧ list.length - i1 < fu1 ∧ F_spec_l7Greatest_L1 list fu1 (most1, i1) = c10) (fun (fu1, most1, i1) => fu1) ((list.length - 0) + 1, 0, 0) ⟨(by first | omega | (simp [-List.getD_eq_getElem?_getD] <;> omega)), (by omega), hc11⟩ ⟨rfl, rfl, rfl, trivial⟩ (fun w hw => hw) ?_
  rintro ⟨fu1, most1, i1⟩ hJ1
  obtain ⟨hi1_0, hmu1, hL1⟩ : (i1 ≤ list.length) ∧ list.length - i1 < fu1 ∧ F_spec_l7Greatest_L1 list fu1 (most1, i1) = c10 := hJ1
  change TC _ _ _ _ (Hp w []) [(0, vlist), (3, (.int .i64 most1)), (4, (.int .i64 (i1 : Int)))]
  obtain ⟨mf1, rfl⟩ : ∃ m, fu1 = m + 1 := ⟨fu1 - 1, by omega⟩
  rw [F_spec_l7Greatest_L1_s] at hL1
  refine TC.seq ?_
  refine TC.seq ?_
  refine TC.region ?_
  refine TL.op (yq (y_move (ev_t rfl))) rfl rfl rfl ?_
  refine TL.op (yq (y_move (ev_t rfl))) rfl rfl rfl ?_
  refine TL.op (yq (y_len (ev_t rfl) Try.underlying25 (fun w hw => ((ri_arg hlist) w hw).ln))) rfl rfl rfl ?_
  refine TL.op (yq (y_lss (ev_t rfl) (ev_t rfl))) rfl rfl rfl ?_
  refine TL.nil ?_
  refine TN.seq ?_
  refine TC.cond (b := decide ((i1 : Int) < (list.length : Int))) (ev_t rfl) (fun h12 => ?_) (fun h12 => ?_)
  · rw [bif_pos h12] at hL1
    have q13 := (of_decide_eq_true h12)
    refine TC.skip ?_
    refine TN.seq ?_
    refine TC.seq ?_
    refine TC.block ?_
    refine TC.region ?_
    refine TL.op (yq (y_move (ev_t rfl))) rfl rfl rfl ?_
    refine TL.op (yq (y_move (ev_t rfl))) rfl rfl rfl ?_
    refine TL.op (yq (y_move (ev_t rfl))) rfl rfl rfl ?_
    have hb14 : i1 < list.length := (by first | omega | (simp only [List.length_set, List.length_append, List.length_cons, List.length_nil, List.length_replicate]; omega) | (rw [sortI_length]; simp only [List.length_cons, List.length_nil]; omega))
    refine TL.op (yq (y_idx (k := i1) (ev_t rfl) (ev_t rfl) (by first | omega | simp) slT_25 (ri_arg hlist) hb14)) rfl rfl rfl ?_
    refine TL.op (yq (y_ldi (ev_t rfl) one_3 (ri_arg hlist) hb14)) rfl rfl rfl ?_
    refine TL.op (y_call (vs := [(.int .i64 most1), (.int .i64 (list.getD i1 0))]) (v := (.int .i64 (F_spec_l1Most most1 (list.getD i1 0)))) en_97 ⟨(ev_t rfl), (ev_t rfl), trivial⟩ (fun w hw => spec_l1Most_ok w most1 (list.getD i1 0))) rfl rfl rfl ?_
    refine TL.op (yq (y_assign (ev_t rfl))) rfl rfl rfl ?_
    refine TL.nil ?_
    refine TN.blockN ?_
    refine TN.seq ?_
    refine TC.region ?_
    refine TL.op (yq (y_move (ev_t rfl))) rfl rfl rfl ?_
    refine TL.op (yq (y_add (ev_t rfl) ev_c (by unfold In64; omega))) rfl rfl rfl ?_
    refine TL.op (yq (y_assign (ev_t rfl))) rfl rfl rfl ?_
    refine TL.nil ?_
    exact TN.hand (mf1, (F_spec_l1Most most1 (list.getD i1 0)), (i1 + 1)) ⟨(by first | omega | (simp [-List.getD_eq_getElem?_getD] <;> omega)), (by omega), hL1⟩ (Nat.lt_succ_self _) ⟨rfl, rfl, rfl, trivial⟩ (fun w hw => hw)
  · rw [bif_neg h12] at hL1
    have q13 := (of_decide_eq_false h12)
    refine TC.exit ?_
    refine TN.thenE ?_
    refine TN.thenE ?_
    rw [← hL1, elim_next] at hF
    try dsimp only at hF
    refine TN.blockH ?_
    refine TN.seq ?_
    refine TC.seq ?_
    refine TC.region ?_
    refine TL.op (yq (y_move (ev_t rfl))) rfl rfl rfl ?_
    refine TL.op (yq (y_assign (ev_t rfl))) rfl rfl rfl ?_
    refine TL.nil ?_
    refine TN.seq ?_
    refine TC.ret ?_
    subst hF
    exact TN.ret1 rfl (ev_t rfl) (fun w' hw => ⟨rfl, hw⟩)

set_option maxRecDepth 4000 in
set_option maxHeartbeats 1000000 in
theorem spec_StepWork_ok (w : World) (vm : Value) (um : List Value) (m : List (List Int)) (hm : RII w vm um m) (k : Int) (vwk : Value) (wk : List Int) (hwk : RI w vwk wk) (r : Int)  :
    Calls Try.prog 42 ([(.agg #[vm]), (.int .i64 k), vwk, (.int .i64 r)] : List Value).toArray w (fun e w' => ∃ i : Value, e = .returned (.tuple #[i, (.bool ((F_spec_StepWork m k wk r).2))]) ∧ Hp w [rowI 3 i ((F_spec_StepWork m k wk r).1)] w') := by
  obtain ⟨rz, hF⟩ : ∃ rz, (F_spec_StepWork m k wk r) = rz := ⟨_, rfl⟩
  rw [hF]
  unfold F_spec_StepWork at hF
  have hlen_m := argT_len hm
  have hlen_wk := arg_len hwk
  refine calls_tc Try.func42 rfl rfl rfl ?_
  change TC _ _ _ _ (Hp w []) [(0, (.agg #[vm])), (1, (.int .i64 k)), (2, vwk), (3, (.int .i64 r))]
  refine TC.seq ?_
  refine TC.region ?_
  refine TL.box (ev_t rfl) rfl (fun g0_0 => ?_)
  refine TL.op (yq (y_assign ev_c)) rfl rfl rfl ?_
  refine TL.op (yq (y_assign ev_c)) rfl rfl rfl ?_
  refine TL.nil ?_
  refine TN.seq ?_
  refine TC.seq ?_
  refine TC.seq ?_
  refine TC.region ?_
  refine TL.op (yq (y_ldagg (cs := [vm]) 0 (ev_t rfl) agg_29 rfl)) rfl rfl rfl ?_
  refine TL.op (yq (y_move (ev_t rfl))) rfl rfl rfl ?_
  refine TL.op (yq (y_move (ev_t rfl))) rfl rfl rfl ?_
  refine TL.op (yq (y_move (ev_t rfl))) rfl rfl rfl ?_
  refine TL.op (y_call (vs := [(.agg #[vm]), (.int .i64 k), vwk, (.int .i64 r)]) (v := (.bool (F_spec_l7Given m k wk r))) en_58 ⟨(ev_t rfl), (ev_t rfl), (ev_t rfl), (ev_t rfl), trivial⟩ (fun w hw => spec_l7Given_ok w vm um m ((rii_arg hm) w hw) k vwk wk ((ri_arg hwk) w hw) r)) rfl rfl rfl ?_
  refine TL.op (yq (y_not (ev_t rfl))) rfl rfl rfl ?_
  refine TL.nil ?_
  refine TN.seq ?_
  refine TC.cond (b := !(F_spec_l7Given m k wk r)) (ev_t rfl) (fun h5 => ?_) (fun h5 => ?_)
  · rw [bif_pos h5] at hF
    have q6 := (not_t h5)
    refine TC.seq ?_
    refine TC.region ?_
    refine TL.buildI (zs := []) (qs := []) slT_25 rfl trivial rfl (by decide) rfl (fun v2_0 => ?_)
    refine TL.op (yq (y_assign (ev_t rfl))) rfl rfl rfl ?_
    refine TL.op (yq (y_assign ev_c)) rfl rfl rfl ?_
    refine TL.nil ?_
    refine TN.seq ?_
    refine TC.ret ?_
    refine TN.thenR ?_
    subst hF
    exact TN.ret2 rfl (ev_t rfl) (ev_t rfl) (fun w' hw => ⟨v2_0, rfl, Hp.sublist hw (.cons_cons _ (.cons _ .slnil))⟩)
  · rw [bif_neg h5] at hF
    have q6 := (l7Given_t (not_f h5))
    have hGv := q6
    have hKs := hGv.ks
    have hgl := hGv.len
    have hwb : ∀ i, 0 ≤ wk.getD i 0 ∧ wk.getD i 0 ≤ 1073741824 := fun i => by have := hGv.el i; omega
    have hr0 : 0 ≤ r ∧ r < m.length := ⟨hGv.r0, hGv.rn⟩
    refine TC.skip ?_
    refine TN.seq ?_
    refine TC.seq ?_
    refine TC.region ?_
    refine TL.op (yq (y_ldagg (cs := [vm]) 0 (ev_t rfl) agg_29 rfl)) rfl rfl rfl ?_
    refine TL.op (yq (y_move (ev_t rfl))) rfl rfl rfl ?_
    refine TL.op (yq (y_move (ev_t rfl))) rfl rfl rfl ?_
    refine TL.op (yq (y_move (ev_t rfl))) rfl rfl rfl ?_
    refine TL.callr (ι := Value) (vs := [(.agg #[vm]), (.int .i64 k), vwk, (.int .i64 r)]) (fun i => i) (fun i => [rowI 3 i (F_spec_l7Next m k wk r)]) en_71 ⟨(ev_t rfl), (ev_t rfl), (ev_t rfl), (ev_t rfl), trivial⟩ rfl (fun w hw => spec_l7Next_ok w vm um m ((rii_arg hm) w hw) k vwk wk ((ri_arg hwk) w hw) r (by first | assumption | omega | grind) (by first | assumption | omega | grind) (by first | assumption | omega | grind) (by first | assumption | omega | grind)) (fun r3_4 => ?_)
    refine TL.op (yq (y_assign (ev_t rfl))) rfl rfl rfl ?_
    refine TL.nil ?_
    refine TN.seq ?_
    refine TC.seq ?_
    refine TC.seq ?_
    refine TC.region ?_
    refine TL.op (yq (y_move (ev_t rfl))) rfl rfl rfl ?_
    refine TL.op (y_call (vs := [r3_4]) (v := (.int .i64 (F_spec_l7Greatest (F_spec_l7Next m k wk r)))) en_72 ⟨(ev_t rfl), trivial⟩ (fun w hw => spec_l7Greatest_ok w r3_4 (F_spec_l7Next m k wk r) ((ri_row 0 rfl) w hw))) rfl rfl rfl ?_
    refine TL.op (yq (y_gtr (ev_t rfl) ev_c)) rfl rfl rfl ?_
    refine TL.nil ?_
    refine TN.seq ?_
    refine TC.cond (b := decide (99999 < (F_spec_l7Greatest (F_spec_l7Next m k wk r)))) (ev_t rfl) (fun h7 => ?_) (fun h7 => ?_)
    · rw [bif_pos h7] at hF
      have q8 := (of_decide_eq_true h7)
      refine TC.seq ?_
      refine TC.region ?_
      refine TL.buildI (zs := []) (qs := []) slT_25 rfl trivial rfl (by decide) rfl (fun v5_0 => ?_)
      refine TL.op (yq (y_assign (ev_t rfl))) rfl rfl rfl ?_
      refine TL.op (yq (y_assign ev_c)) rfl rfl rfl ?_
      refine TL.nil ?_
      refine TN.seq ?_
      refine TC.ret ?_
      refine TN.thenR ?_
      subst hF
      exact TN.ret2 rfl (ev_t rfl) (ev_t rfl) (fun w' hw => ⟨v5_0, rfl, Hp.sublist hw (.cons_cons _ (.cons _ (.cons _ .slnil)))⟩)
    · rw [bif_neg h7] at hF
      have q8 := (of_decide_eq_false h7)
      refine TC.skip ?_
      refine TN.seq ?_
      refine TC.seq ?_
      refine TC.region ?_
      refine TL.op (yq (y_move (ev_t rfl))) rfl rfl rfl ?_
      refine TL.op (yq (y_assign (ev_t rfl))) rfl rfl rfl ?_
      refine TL.op (yq (y_assign ev_c)) rfl rfl rfl ?_
      refine TL.nil ?_
      refine TN.seq ?_
      refine TC.ret ?_
      subst hF
      exact TN.ret2 rfl (ev_t rfl) (ev_t rfl) (fun w' hw => ⟨r3_4, rfl, Hp.sublist hw (.cons_cons _ (.cons _ .slnil))⟩)

set_option maxRecDepth 4000 in
set_option maxHeartbeats 1000000 in
theorem spec_l7Values_ok (w : World) (vm : Value) (um : List Value) (m : List (List Int)) (hm : RII w vm um m) (k : Int) (va : Value) (a : List Int) (ha : RI w va a) (vreqs : Value) (reqs : List Int) (hreqs : RI w vreqs reqs) (hp0 : Ks m k) (hp1 : Sv m a reqs) (hp2 : (a.length : Int) = k) :
    Calls Try.prog 87 ([(.agg #[vm]), (.int .i64 k), va, vreqs] : List Value).toArray w (fun e w' => ∃ i : Value × List Value, e = .returned i.1 ∧ Hp w [tabI 25 3 i.1 i.2 (F_spec_l7Values m k a reqs)] w') := by
  obtain ⟨rz, hF⟩ : ∃ rz, (F_spec_l7Values m k a reqs) = rz := ⟨_, rfl⟩
  rw [hF]
  unfold F_spec_l7Values at hF
  have hacf := hp1.cf
  have hr60 := hp1.r60
  have hlen_m := argT_len hm
  have hlen_a := arg_len ha
  have hlen_reqs := arg_len hreqs
  refine calls_tc Try.func87 rfl rfl rfl ?_
  change TC _ _ _ _ (Hp w []) [(0, (.agg #[vm])), (1, (.int .i64 k)), (2, va), (3, vreqs)]
  refine TC.seq ?_
  refine TC.region ?_
  refine TL.box (ev_t rfl) rfl (fun g0_0 => ?_)
  refine TL.op (yq (y_assign ev_c)) rfl rfl rfl ?_
  refine TL.nil ?_
  refine TN.seq ?_
  refine TC.seq ?_
  refine TC.region ?_
  refine TL.op (yq (y_ldagg (cs := [vm]) 0 (ev_t rfl) agg_29 rfl)) rfl rfl rfl ?_
  refine TL.op (yq (y_move (ev_t rfl))) rfl rfl rfl ?_
  refine TL.op (yq (y_move (ev_t rfl))) rfl rfl rfl ?_
  refine TL.callr (ι := Value) (vs := [(.agg #[vm]), (.int .i64 k), va]) (fun i => i) (fun i => [rowI 3 i (F_spec_l7Start m k a)]) en_66 ⟨(ev_t rfl), (ev_t rfl), (ev_t rfl), trivial⟩ rfl (fun w hw => spec_l7Start_ok w vm um m ((rii_arg hm) w hw) k va a ((ri_arg ha) w hw) (by first | assumption | omega | grind) (by first | assumption | omega | grind) (by first | assumption | omega | grind)) (fun r1_3 => ?_)
  refine TL.buildU slT_22 (ev_t rfl) (fun w hw => ((ri_row 0 rfl) w hw).ln) rfl (fun v1_4 => ?_)
  refine TL.cls (fun w hw => hw.uniTab 0 1 rfl rfl rfl) ?_
  refine TL.op (yq (y_assign (ev_t rfl))) rfl rfl rfl ?_
  refine TL.nil ?_
  refine TN.seq ?_
  refine TC.seq ?_
  refine TC.seq ?_
  refine TC.region ?_
  refine TL.op (yq (y_assign ev_c)) rfl rfl rfl ?_
  refine TL.nil ?_
  refine TN.seq ?_
  refine TC.block ?_
  obtain ⟨c15, hc16⟩ : ∃ c, F_spec_l7Values_L1 m k reqs ((reqs.length - 0) + 1) (([(F_spec_l7Start m k a)]), 0) = c := ⟨_, rfl⟩
  rw [hc16] at hF
  refine TC.loop (ι := Nat × List (List Int) × Nat × Value × List Value) (fun (fu1, out1, i1, vout1, uout1) => [(1, (.int .i64 k)), (3, vreqs), (4, (.pointer (some ⟨g0_0, 0, none⟩))), (9, vout1), (10, (.int .i64 (i1 : Int)))]) (fun (fu1, out1, i1, vout1, uout1) => Hp w [tabI 25 3 vout1 uout1 out1, .blk g0_0 29 [vm]]) (fun (fu1, out1, i1, vout1, uout1) => (i1 ≤ reqs.length) ∧ (out1.length = i1 + 1) ∧ (Rvs m k out1) ∧ reqs.length - i1 < fu1 ∧ F_spec_l7Values_L1 m k reqs fu1 (out1, i1) = c15) (fun (fu1, out1, i1, vout1, uout1) => fu1) ((reqs.length - 0) + 1, [(F_spec_l7Start m k a)], 0, v1_4, [r1_3]) ⟨(by first | omega | (simp [-List.getD_eq_getElem?_getD] <;> omega)), rfl, (Rvs.one hp0 hacf hp2), (by omega), hc16⟩ ⟨rfl, rfl, rfl, rfl, rfl, trivial⟩ (fun w hw => Hp.sublist hw (.cons_cons _ (.cons _ (.cons_cons _ .slnil)))) ?_
  rintro ⟨fu1, out1, i1, vout1, uout1⟩ hJ1
  obtain ⟨hi1_0, hi1_1, hi1_2, hmu1, hL1⟩ : (i1 ≤ reqs.length) ∧ (out1.length = i1 + 1) ∧ (Rvs m k out1) ∧ reqs.length - i1 < fu1 ∧ F_spec_l7Values_L1 m k reqs fu1 (out1, i1) = c15 := hJ1
  change TC _ _ _ _ (Hp w [tabI 25 3 vout1 uout1 out1, .blk g0_0 29 [vm]]) [(1, (.int .i64 k)), (3, vreqs), (4, (.pointer (some ⟨g0_0, 0, none⟩))), (9, vout1), (10, (.int .i64 (i1 : Int)))]
  obtain ⟨mf1, rfl⟩ : ∃ m, fu1 = m + 1 := ⟨fu1 - 1, by omega⟩
  rw [F_spec_l7Values_L1_s] at hL1
  have hrr := fun h => hi1_2.small (i := i1) (by omega) h
  have hrr1 := fun h => (hrr h).1
  have hrr2 := fun h => (hrr h).2
  have hre := hp1.el i1
  refine TC.seq ?_
  refine TC.seq ?_
  refine TC.region ?_
  refine TL.op (yq (y_move (ev_t rfl))) rfl rfl rfl ?_
  refine TL.op (yq (y_move (ev_t rfl))) rfl rfl rfl ?_
  refine TL.op (yq (y_len (ev_t rfl) Try.underlying25 (fun w hw => ((ri_arg hreqs) w hw).ln))) rfl rfl rfl ?_
  refine TL.op (yq (y_lss (ev_t rfl) (ev_t rfl))) rfl rfl rfl ?_
  refine TL.nil ?_
  refine TN.seq ?_
  refine TC.cond (b := decide ((i1 : Int) < (reqs.length : Int))) (ev_t rfl) (fun h17 => ?_) (fun h17 => ?_)
  · rw [bif_pos h17] at hL1
    have q18 := (of_decide_eq_true h17)
    refine TC.skip ?_
    refine TN.seq ?_
    refine TC.seq ?_
    refine TC.block ?_
    refine TC.regionH 15 (Hp w [.blk g0_0 29 [vm]]) rfl (by kernel_rfl) dr_hp (fun w hw => Hp.sublist hw (.cons _ (.cons_cons _ .slnil))) ?_
    refine TH.take 0 rfl (by kernel_rfl) (y_move (ev_t rfl)) rfl rfl rfl ?_
    refine TH.take 1 rfl (by kernel_rfl) (y_ldagg (cs := [vm]) 0 (ev_t rfl) agg_29 rfl) rfl rfl rfl ?_
    refine TH.take 2 rfl (by kernel_rfl) (y_move (ev_t rfl)) rfl rfl rfl ?_
    refine TH.take 3 rfl (by kernel_rfl) (y_move (ev_t rfl)) rfl rfl rfl ?_
    refine TH.take 4 rfl (by kernel_rfl) (y_move (ev_t rfl)) rfl rfl rfl ?_
    refine TH.take 7 rfl (by kernel_rfl) (y_move (ev_t rfl)) rfl rfl rfl ?_
    refine TH.take 8 rfl (by kernel_rfl) (y_move (ev_t rfl)) rfl rfl rfl ?_
    have hb21 : i1 < reqs.length := (by first | omega | (simp only [List.length_set, List.length_append, List.length_cons, List.length_nil, List.length_replicate]; omega) | (rw [sortI_length]; simp only [List.length_cons, List.length_nil]; omega))
    refine TH.take 9 rfl (by kernel_rfl) (y_idx (k := i1) (ev_t rfl) (ev_t rfl) (by first | omega | simp) slT_25 (ri_arg hreqs) hb21) rfl rfl rfl ?_
    refine TH.take 10 rfl (by kernel_rfl) (y_ldi (ev_t rfl) one_3 (ri_arg hreqs) hb21) rfl rfl rfl ?_
    refine TH.loud 5 rfl (by kernel_rfl) ?_
    have hb22 : i1 < out1.length := (by first | omega | (simp only [List.length_set, List.length_append, List.length_cons, List.length_nil, List.length_replicate]; omega) | (rw [sortI_length]; simp only [List.length_cons, List.length_nil]; omega))
    refine TL.op (yq (y_idx (k := i1) (ev_t rfl) (ev_t rfl) (by first | omega | simp) slT_22 (fun w hw => ((rii_tab 0 rfl) w hw).1) hb22)) rfl rfl rfl ?_
    refine TL.nil ?_
    refine TH.back (fun w hw => Hp.sublist hw (.cons _ (.cons_cons _ .slnil))) ?_
    refine TH.loud 6 rfl (by kernel_rfl) ?_
    refine TL.op (yq (y_ldT 0 (ev_t rfl) one_25 rfl hb22)) rfl rfl rfl ?_
    refine TL.nil ?_
    refine TH.back (fun w hw => Hp.sublist hw (.cons _ (.cons_cons _ .slnil))) ?_
    refine TH.loud 11 rfl (by kernel_rfl) ?_
    refine TL.callr (ι := Value) (vs := [(.agg #[vm]), (.int .i64 k), (uout1.getD i1 undef), (.int .i64 (reqs.getD i1 0))]) (fun i => i) (fun i => [rowI 3 i (F_spec_l7Next m k (out1.getD i1 []) (reqs.getD i1 0))]) en_71 ⟨(ev_t rfl), (ev_t rfl), (ev_t rfl), (ev_t rfl), trivial⟩ rfl (fun w hw => spec_l7Next_ok w vm um m ((rii_arg hm) w hw) k (uout1.getD i1 undef) (out1.getD i1 []) ((ri_tab 0 i1 rfl hb22) w hw) (reqs.getD i1 0) (by first | assumption | omega | grind) (by first | assumption | omega | grind) (by first | assumption | omega | grind) (by first | assumption | omega | grind)) (fun r5_11 => ?_)
    refine TL.nil ?_
    refine TH.back (fun w hw => Hp.sublist hw (.cons _ (.cons _ (.cons_cons _ .slnil)))) ?_
    refine TH.loud 12 rfl (by kernel_rfl) ?_
    refine TL.buildU slT_22 (ev_t rfl) (fun w hw => ((ri_row 0 rfl) w hw).ln) rfl (fun v5_12 => ?_)
    refine TL.nil ?_
    refine TH.back (fun w hw => Hp.sublist hw (.cons _ (.cons _ (.cons _ (.cons_cons _ .slnil))))) ?_
    refine TH.loud 13 rfl (by kernel_rfl) ?_
    refine TL.appendT 2 1 rfl (ev_t rfl) (ev_t rfl) rfl rfl slT_22 (rd_row 0 rfl) (by first | omega | (simp [-List.getD_eq_getElem?_getD] <;> omega)) rfl (fun v5_13 => ?_)
    refine TL.nil ?_
    refine TH.back (fun w hw => Hp.sublist hw (.cons _ (.cons _ (.cons _ (.cons_cons _ .slnil))))) ?_
    refine TH.take 14 rfl (by kernel_rfl) (y_assign (ev_t rfl)) rfl rfl rfl ?_
    refine TH.done (by kernel_rfl) ?_
    refine TN.blockN ?_
    refine TN.seq ?_
    refine TC.region ?_
    refine TL.op (yq (y_move (ev_t rfl))) rfl rfl rfl ?_
    refine TL.op (yq (y_add (ev_t rfl) ev_c (by unfold In64; omega))) rfl rfl rfl ?_
    refine TL.op (yq (y_assign (ev_t rfl))) rfl rfl rfl ?_
    refine TL.nil ?_
    exact TN.hand (mf1, (out1 ++ [(F_spec_l7Next m k (out1.getD i1 []) (reqs.getD i1 0))]), (i1 + 1), v5_13, (uout1 ++ [r5_11])) ⟨(by first | omega | (simp [-List.getD_eq_getElem?_getD] <;> omega)), (by first | omega | (simp [-List.getD_eq_getElem?_getD] <;> omega)), (hi1_2.push hp0 (by omega) _), (by omega), hL1⟩ (Nat.lt_succ_self _) ⟨rfl, rfl, rfl, rfl, rfl, trivial⟩ (fun w hw => Hp.sublist hw (.cons _ (.cons _ (.cons_cons _ (.cons_cons _ .slnil)))))
  · rw [bif_neg h17] at hL1
    have q18 := (of_decide_eq_false h17)
    refine TC.exit ?_
    refine TN.thenE ?_
    refine TN.thenE ?_
    rw [← hL1, elim_next] at hF
    try dsimp only at hF
    refine TN.blockH ?_
    refine TN.seq ?_
    refine TC.seq ?_
    refine TC.region ?_
    refine TL.op (yq (y_move (ev_t rfl))) rfl rfl rfl ?_
    refine TL.op (yq (y_assign (ev_t rfl))) rfl rfl rfl ?_
    refine TL.nil ?_
    refine TN.seq ?_
    refine TC.ret ?_
    subst hF
    exact TN.ret1 rfl (ev_t rfl) (fun w' hw => ⟨(vout1, uout1), rfl, Hp.sublist hw (.cons_cons _ (.cons _ .slnil))⟩)

set_option maxRecDepth 4000 in
set_option maxHeartbeats 1000000 in
theorem spec_WorkLists_ok (w : World) (vm : Value) (um : List Value) (m : List (List Int)) (hm : RII w vm um m) (va : Value) (a : List Int) (ha : RI w va a) (vreqs : Value) (reqs : List Int) (hreqs : RI w vreqs reqs)  :
    Calls Try.prog 46 ([(.agg #[vm]), va, vreqs] : List Value).toArray w (fun e w' => ∃ i : Value × List Value, e = .returned (.tuple #[i.1, (.bool ((F_spec_WorkLists m a reqs).2))]) ∧ Hp w [tabI 25 3 i.1 i.2 ((F_spec_WorkLists m a reqs).1)] w') := by
  obtain ⟨rz, hF⟩ : ∃ rz, (F_spec_WorkLists m a reqs) = rz := ⟨_, rfl⟩
  rw [hF]
  unfold F_spec_WorkLists at hF
  have hlen_m := argT_len hm
  have hlen_a := arg_len ha
  have hlen_reqs := arg_len hreqs
  refine calls_tc Try.func46 rfl rfl rfl ?_
  change TC _ _ _ _ (Hp w []) [(0, (.agg #[vm])), (1, va), (2, vreqs)]
  refine TC.seq ?_
  refine TC.region ?_
  refine TL.box (ev_t rfl) rfl (fun g0_0 => ?_)
  refine TL.op (yq (y_assign ev_c)) rfl rfl rfl ?_
  refine TL.op (yq (y_assign ev_c)) rfl rfl rfl ?_
  refine TL.nil ?_
  refine TN.seq ?_
  refine TC.seq ?_
  refine TC.seq ?_
  refine TC.region ?_
  refine TL.op (yq (y_ldagg (cs := [vm]) 0 (ev_t rfl) agg_29 rfl)) rfl rfl rfl ?_
  refine TL.op (y_call (vs := [(.agg #[vm])]) (v := (.bool (F_spec_l6Good m))) en_64 ⟨(ev_t rfl), trivial⟩ (fun w hw => spec_l6Good_ok w vm um m ((rii_arg hm) w hw))) rfl rfl rfl ?_
  refine TL.op (yq (y_not (ev_t rfl))) rfl rfl rfl ?_
  refine TL.op (yq (y_move (ev_t rfl))) rfl rfl rfl ?_
  refine TL.opw (w_f rfl rfl rfl) (fun hg => yq (y_ldagg (cs := [vm]) 0 (ev_t rfl) agg_29 rfl)) rfl rfl ?_
  refine TL.opw (w_f rfl rfl rfl) (fun hg => yq (y_move (ev_t rfl))) rfl rfl ?_
  refine TL.opw (w_f rfl rfl rfl) (fun hg => yq (y_move (ev_t rfl))) rfl rfl ?_
  refine TL.opw (w_f rfl rfl rfl) (fun hg => y_call (vs := [(.agg #[vm]), va, vreqs]) (v := (.bool (F_spec_l6Start m a reqs))) en_84 ⟨(ev_g rfl hg), (ev_g rfl hg), (ev_g rfl hg), trivial⟩ (fun w hw => spec_l6Start_ok w vm um m ((rii_arg hm) w hw) va a ((ri_arg ha) w hw) vreqs reqs ((ri_arg hreqs) w hw))) rfl rfl ?_
  refine TL.opw (w_f rfl rfl rfl) (fun hg => yq (y_not (ev_g rfl hg))) rfl rfl ?_
  refine TL.op (yq (y_or (ev_t rfl) (fun hq => (ev_g rfl hq)))) rfl rfl rfl ?_
  refine TL.nil ?_
  refine TN.seq ?_
  refine TC.cond (b := ((!(F_spec_l6Good m)) || (!(F_spec_l6Start m a reqs)))) (ev_t rfl) (fun h3 => ?_) (fun h3 => ?_)
  · rw [bif_pos h3] at hF
    have q4 := ((or_t h3).imp (fun h => (not_t h)) (fun h => (not_t h)))
    refine TC.seq ?_
    refine TC.region ?_
    refine TL.buildSlice (zs := []) (vs := []) slT_22 rfl trivial (by simp) rfl (by decide) rfl (fun v2_0 => ?_)
    refine TL.cls (fun w hw => hw.emptyTab 3) ?_
    refine TL.op (yq (y_assign (ev_t rfl))) rfl rfl rfl ?_
    refine TL.op (yq (y_assign ev_c)) rfl rfl rfl ?_
    refine TL.nil ?_
    refine TN.seq ?_
    refine TC.ret ?_
    refine TN.thenR ?_
    subst hF
    exact TN.ret2 rfl (ev_t rfl) (ev_t rfl) (fun w' hw => ⟨(v2_0, []), rfl, Hp.sublist hw (.cons_cons _ (.cons _ .slnil))⟩)
  · rw [bif_neg h3] at hF
    have q4 := (and_imp (or_f h3) (fun h => (l6Good_t (not_f h))) (fun h => (l6Start_t (not_f h))))
    have hS := q4.2
    have hKs := hS.ks
    refine TC.skip ?_
    refine TN.seq ?_
    refine TC.seq ?_
    refine TC.region ?_
    refine TL.op (yq (y_ldagg (cs := [vm]) 0 (ev_t rfl) agg_29 rfl)) rfl rfl rfl ?_
    refine TL.op (yq (y_move (ev_t rfl))) rfl rfl rfl ?_
    refine TL.op (yq (y_len (ev_t rfl) Try.underlying25 (fun w hw => ((ri_arg ha) w hw).ln))) rfl rfl rfl ?_
    refine TL.op (yq (y_move (ev_t rfl))) rfl rfl rfl ?_
    refine TL.op (yq (y_move (ev_t rfl))) rfl rfl rfl ?_
    refine TL.callr (ι := Value × List Value) (vs := [(.agg #[vm]), (.int .i64 (a.length : Int)), va, vreqs]) (fun i => i.1) (fun i => [tabI 25 3 i.1 i.2 (F_spec_l7Values m (a.length : Int) a reqs)]) en_87 ⟨(ev_t rfl), (ev_t rfl), (ev_t rfl), (ev_t rfl), trivial⟩ rfl (fun w hw => spec_l7Values_ok w vm um m ((rii_arg hm) w hw) (a.length : Int) va a ((ri_arg ha) w hw) vreqs reqs ((ri_arg hreqs) w hw) (by first | assumption | omega | grind) (by first | assumption | omega | grind) (by first | assumption | omega | grind)) (fun r3_5 => ?_)
    refine TL.op (yq (y_assign (ev_t rfl))) rfl rfl rfl ?_
    refine TL.op (yq (y_assign ev_c)) rfl rfl rfl ?_
    refine TL.nil ?_
    refine TN.seq ?_
    refine TC.ret ?_
    subst hF
    exact TN.ret2 rfl (ev_t rfl) (ev_t rfl) (fun w' hw => ⟨(r3_5.1, r3_5.2), rfl, Hp.sublist hw (.cons_cons _ (.cons _ .slnil))⟩)

set_option maxRecDepth 4000 in
set_option maxHeartbeats 1000000 in
theorem spec_WorkOf_ok (w : World) (vm : Value) (um : List Value) (m : List (List Int)) (hm : RII w vm um m) (k : Int) (vwk : Value) (wk : List Int) (hwk : RI w vwk wk) (vx : Value) (x : List Int) (hx : RI w vx x)  :
    Calls Try.prog 34 ([(.agg #[vm]), (.int .i64 k), vwk, vx] : List Value).toArray w (Ret (.tuple #[(.int .i64 ((F_spec_WorkOf m k wk x).1)), (.bool ((F_spec_WorkOf m k wk x).2))]) (Hp w [])) := by
  obtain ⟨rz, hF⟩ : ∃ rz, (F_spec_WorkOf m k wk x) = rz := ⟨_, rfl⟩
  rw [hF]
  unfold F_spec_WorkOf at hF
  have hlen_m := argT_len hm
  have hlen_wk := arg_len hwk
  have hlen_x := arg_len hx
  refine calls_tc Try.func34 rfl rfl rfl ?_
  change TC _ _ _ _ (Hp w []) [(0, (.agg #[vm])), (1, (.int .i64 k)), (2, vwk), (3, vx)]
  refine TC.seq ?_
  refine TC.region ?_
  refine TL.box (ev_t rfl) rfl (fun g0_0 => ?_)
  refine TL.op (yq (y_assign ev_c)) rfl rfl rfl ?_
  refine TL.op (yq (y_assign ev_c)) rfl rfl rfl ?_
  refine TL.nil ?_
  refine TN.seq ?_
  refine TC.seq ?_
  refine TC.seq ?_
  refine TC.region ?_
  refine TL.op (yq (y_ldagg (cs := [vm]) 0 (ev_t rfl) agg_29 rfl)) rfl rfl rfl ?_
  refine TL.op (yq (y_move (ev_t rfl))) rfl rfl rfl ?_
  refine TL.op (yq (y_move (ev_t rfl))) rfl rfl rfl ?_
  refine TL.op (y_call (vs := [(.agg #[vm]), (.int .i64 k), vwk, (.int .i64 0)]) (v := (.bool (F_spec_l7Given m k wk 0))) en_58 ⟨(ev_t rfl), (ev_t rfl), (ev_t rfl), ev_c, trivial⟩ (fun w hw => spec_l7Given_ok w vm um m ((rii_arg hm) w hw) k vwk wk ((ri_arg hwk) w hw) 0)) rfl rfl rfl ?_
  refine TL.op (yq (y_not (ev_t rfl))) rfl rfl rfl ?_
  refine TL.op (yq (y_move (ev_t rfl))) rfl rfl rfl ?_
  refine TL.opw (w_f rfl rfl rfl) (fun hg => yq (y_move (ev_t rfl))) rfl rfl ?_
  refine TL.opw (w_f rfl rfl rfl) (fun hg => yq (y_len (ev_g rfl hg) Try.underlying25 (fun w hw => ((ri_arg hx) w hw).ln))) rfl rfl ?_
  refine TL.opw (w_f rfl rfl rfl) (fun hg => yq (y_move (ev_t rfl))) rfl rfl ?_
  refine TL.opw (w_f rfl rfl rfl) (fun hg => yq (y_neq (ev_g rfl hg) (ev_g rfl hg))) rfl rfl ?_
  refine TL.op (yq (y_or (ev_t rfl) (fun hq => (ev_g rfl hq)))) rfl rfl rfl ?_
  refine TL.op (yq (y_move (ev_t rfl))) rfl rfl rfl ?_
  refine TL.opw (w_f rfl rfl rfl) (fun hg => yq (y_fa (fa_29_0 g0_0) (ev_t rfl))) rfl rfl ?_
  refine TL.opw (w_f rfl rfl rfl) (fun hg => yq (y_ldb 0 (ev_g rfl hg) one_22 rfl rfl)) rfl rfl ?_
  refine TL.opw (w_f rfl rfl rfl) (fun hg => yq (y_len (ev_g rfl hg) Try.underlying22 (fun w hw => ((fun w hw => ((rii_arg hm) w hw).1) w hw).ln))) rfl rfl ?_
  refine TL.opw (w_f rfl rfl rfl) (fun hg => yq (y_move (ev_t rfl))) rfl rfl ?_
  refine TL.opw (w_f rfl rfl rfl) (fun hg => y_call (vs := [(.int .i64 (m.length : Int)), vx]) (v := (.bool (F_spec_l6Config (m.length : Int) x))) en_65 ⟨(ev_g rfl hg), (ev_g rfl hg), trivial⟩ (fun w hw => spec_l6Config_ok w (m.length : Int) vx x ((ri_arg hx) w hw) (by have hgf := (and_imp (or_f (not_t hg)) (fun h => (l7Given_t (not_f h))) (fun h => (of_decide_eq_true (not_f h)))); first | assumption | omega | (have hq := hgf.n6; omega) | (have hq := hgf.1.n6; omega) | grind) (by have hgf := (and_imp (or_f (not_t hg)) (fun h => (l7Given_t (not_f h))) (fun h => (of_decide_eq_true (not_f h)))); first | assumption | omega | (have hq := hgf.n6; omega) | (have hq := hgf.1.n6; omega) | grind))) rfl rfl ?_
  refine TL.opw (w_f rfl rfl rfl) (fun hg => yq (y_not (ev_g rfl hg))) rfl rfl ?_
  refine TL.op (yq (y_or (ev_t rfl) (fun hq => (ev_g rfl hq)))) rfl rfl rfl ?_
  refine TL.nil ?_
  refine TN.seq ?_
  refine TC.cond (b := (((!(F_spec_l7Given m k wk 0)) || (!decide ((x.length : Int) = k))) || (!(F_spec_l6Config (m.length : Int) x)))) (ev_t rfl) (fun h4 => ?_) (fun h4 => ?_)
  · rw [bif_pos h4] at hF
    have q5 := ((or_t h4).imp (fun h => ((or_t h).imp (fun h => (not_t h)) (fun h => (of_decide_eq_false (not_t h))))) (fun h => (not_t h)))
    refine TC.seq ?_
    refine TC.region ?_
    refine TL.op (yq (y_assign ev_c)) rfl rfl rfl ?_
    refine TL.op (yq (y_assign ev_c)) rfl rfl rfl ?_
    refine TL.nil ?_
    refine TN.seq ?_
    refine TC.ret ?_
    refine TN.thenR ?_
    subst hF
    exact TN.ret2 rfl (ev_t rfl) (ev_t rfl) (fun w' hw => ⟨rfl, Hp.sublist hw (List.nil_sublist _)⟩)
  · rw [bif_neg h4] at hF
    have q5 := (and_imp (or_f h4) (fun h => (and_imp (or_f h) (fun h => (l7Given_t (not_f h))) (fun h => (of_decide_eq_true (not_f h))))) (fun h => (l6Config_t (not_f h))))
    have hGv := q5.1.1
    have hgl := hGv.len
    have hix := hGv.ks.sidx q5.2 q5.1.2
    have hn6 := hGv.ks.tab.n6
    have hk3 := hGv.ks.k3
    refine TC.skip ?_
    refine TN.seq ?_
    refine TC.seq ?_
    refine TC.region ?_
    refine TL.op (yq (y_move (ev_t rfl))) rfl rfl rfl ?_
    refine TL.op (yq (y_fa (fa_29_0 g0_0) (ev_t rfl))) rfl rfl rfl ?_
    refine TL.op (yq (y_ldb 0 (ev_t rfl) one_22 rfl rfl)) rfl rfl rfl ?_
    refine TL.op (yq (y_len (ev_t rfl) Try.underlying22 (fun w hw => ((fun w hw => ((rii_arg hm) w hw).1) w hw).ln))) rfl rfl rfl ?_
    refine TL.op (yq (y_move (ev_t rfl))) rfl rfl rfl ?_
    refine TL.callr (ι := Value × List Value) (vs := [(.int .i64 (m.length : Int)), (.int .i64 k)]) (fun i => i.1) (fun i => [tabI 25 3 i.1 i.2 (F_spec_l6Configs (m.length : Int) k)]) en_54 ⟨(ev_t rfl), (ev_t rfl), trivial⟩ rfl (fun w hw => spec_l6Configs_ok w (m.length : Int) k (by first | assumption | omega | grind) (by first | assumption | omega | grind)) (fun r3_5 => ?_)
    refine TL.op (yq (y_move (ev_t rfl))) rfl rfl rfl ?_
    refine TL.op (y_call (vs := [r3_5.1, vx]) (v := (.int .i64 (F_spec_l7Index (F_spec_l6Configs (m.length : Int) k) x))) en_69 ⟨(ev_t rfl), (ev_t rfl), trivial⟩ (fun w hw => spec_l7Index_ok w r3_5.1 r3_5.2 (F_spec_l6Configs (m.length : Int) k) ((rii_tab 0 rfl) w hw) vx x ((ri_arg hx) w hw))) rfl rfl rfl ?_
    have hb6 : ((F_spec_l7Index (F_spec_l6Configs (m.length : Int) k) x)).toNat < wk.length := (by first | omega | (simp only [List.length_set, List.length_append, List.length_cons, List.length_nil, List.length_replicate]; omega) | (rw [sortI_length]; simp only [List.length_cons, List.length_nil]; omega))
    refine TL.op (yq (y_idx (k := ((F_spec_l7Index (F_spec_l6Configs (m.length : Int) k) x)).toNat) (ev_t rfl) (ev_t rfl) (by first | omega | simp) slT_25 (ri_arg hwk) hb6)) rfl rfl rfl ?_
    refine TL.op (yq (y_ldi (ev_t rfl) one_3 (ri_arg hwk) hb6)) rfl rfl rfl ?_
    refine TL.op (yq (y_assign (ev_t rfl))) rfl rfl rfl ?_
    refine TL.op (yq (y_assign ev_c)) rfl rfl rfl ?_
    refine TL.nil ?_
    refine TN.seq ?_
    refine TC.ret ?_
    subst hF
    exact TN.ret2 rfl (ev_t rfl) (ev_t rfl) (fun w' hw => ⟨rfl, Hp.sublist hw (List.nil_sublist _)⟩)

set_option maxRecDepth 4000 in
set_option maxHeartbeats 1000000 in
theorem spec_l7Least_ok (w : World) (vlist : Value) (list : List Int) (hlist : RI w vlist list) (hp0 : 1 ≤ list.length) :
    Calls Try.prog 118 ([vlist] : List Value).toArray w (Ret (.int .i64 (F_spec_l7Least list)) (Hp w [])) := by
  obtain ⟨rz, hF⟩ : ∃ rz, (F_spec_l7Least list) = rz := ⟨_, rfl⟩
  rw [hF]
  unfold F_spec_l7Least at hF
  have hlen_list := arg_len hlist
  refine calls_tc Try.func118 rfl rfl rfl ?_
  change TC _ _ _ _ (Hp w []) [(0, vlist)]
  refine TC.seq ?_
  refine TC.region ?_
  refine TL.op (yq (y_assign ev_c)) rfl rfl rfl ?_
  refine TL.nil ?_
  refine TN.seq ?_
  refine TC.seq ?_
  refine TC.region ?_
  refine TL.op (yq (y_move (ev_t rfl))) rfl rfl rfl ?_
  have hb8 : 0 < list.length := (by first | omega | (simp only [List.length_set, List.length_append, List.length_cons, List.length_nil, List.length_replicate]; omega) | (rw [sortI_length]; simp only [List.length_cons, List.length_nil]; omega))
  refine TL.op (yq (y_idx (k := 0) (ev_t rfl) ev_c (by first | omega | simp) slT_25 (ri_arg hlist) hb8)) rfl rfl rfl ?_
  refine TL.op (yq (y_ldi (ev_t rfl) one_3 (ri_arg hlist) hb8)) rfl rfl rfl ?_
  refine TL.op (yq (y_assign (ev_t rfl))) rfl rfl rfl ?_
  refine TL.nil ?_
  refine TN.seq ?_
  refine TC.seq ?_
  refine TC.seq ?_
  refine TC.region ?_
  refine TL.op (yq (y_assign ev_c)) rfl rfl rfl ?_
  refine TL.nil ?_
  refine TN.seq ?_
  refine TC.block ?_
  obtain ⟨c9, hc10⟩ : ∃ c, F_spec_l7Least_L1 list ((list.length - 1) + 1) ((list.getD 0 0), 1) = c := ⟨_, rfl⟩
  rw [hc10] at hF
  refine TC.loop (ι := Nat × Int × Nat) (fun (fu1, least1, i1) => [(0, vlist), (3, (.int .i64 least1)), (4, (.int .i64 (i1 : Int)))]) (fun (fu1, least1, i1) => Hp w []) (fun (fu1, least1, i1) => (i1 ≤ max list.length 1) ∧ list.length - i1 < fu1 ∧ F_spec_l7Least_L1 list fu1 (least1, i1) = c9) (fun (fu1, least1, i1) => fu1) ((list.length - 1) + 1, (list.getD 0 0), 1) ⟨(by first | omega | (simp [-List.getD_eq_getElem?_getD] <;> omega)), (by omega), hc10⟩ ⟨rfl, rfl, rfl, trivial⟩ (fun w hw => hw) ?_
  rintro ⟨fu1, least1, i1⟩ hJ1
  obtain ⟨hi1_0, hmu1, hL1⟩ : (i1 ≤ max list.length 1) ∧ list.length - i1 < fu1 ∧ F_spec_l7Least_L1 list fu1 (least1, i1) = c9 := hJ1
  change TC _ _ _ _ (Hp w []) [(0, vlist), (3, (.int .i64 least1)), (4, (.int .i64 (i1 : Int)))]
  obtain ⟨mf1, rfl⟩ : ∃ m, fu1 = m + 1 := ⟨fu1 - 1, by omega⟩
  rw [F_spec_l7Least_L1_s] at hL1
  refine TC.seq ?_
  refine TC.seq ?_
  refine TC.region ?_
  refine TL.op (yq (y_move (ev_t rfl))) rfl rfl rfl ?_
  refine TL.op (yq (y_move (ev_t rfl))) rfl rfl rfl ?_
  refine TL.op (yq (y_len (ev_t rfl) Try.underlying25 (fun w hw => ((ri_arg hlist) w hw).ln))) rfl rfl rfl ?_
  refine TL.op (yq (y_lss (ev_t rfl) (ev_t rfl))) rfl rfl rfl ?_
  refine TL.nil ?_
  refine TN.seq ?_
  refine TC.cond (b := decide ((i1 : Int) < (list.length : Int))) (ev_t rfl) (fun h11 => ?_) (fun h11 => ?_)
  · rw [bif_pos h11] at hL1
    have q12 := (of_decide_eq_true h11)
    refine TC.skip ?_
    refine TN.seq ?_
    refine TC.seq ?_
    refine TC.block ?_
    refine TC.region ?_
    refine TL.op (yq (y_move (ev_t rfl))) rfl rfl rfl ?_
    refine TL.op (yq (y_move (ev_t rfl))) rfl rfl rfl ?_
    refine TL.op (yq (y_move (ev_t rfl))) rfl rfl rfl ?_
    have hb13 : i1 < list.length := (by first | omega | (simp only [List.length_set, List.length_append, List.length_cons, List.length_nil, List.length_replicate]; omega) | (rw [sortI_length]; simp only [List.length_cons, List.length_nil]; omega))
    refine TL.op (yq (y_idx (k := i1) (ev_t rfl) (ev_t rfl) (by first | omega | simp) slT_25 (ri_arg hlist) hb13)) rfl rfl rfl ?_
    refine TL.op (yq (y_ldi (ev_t rfl) one_3 (ri_arg hlist) hb13)) rfl rfl rfl ?_
    refine TL.op (y_call (vs := [(.int .i64 least1), (.int .i64 (list.getD i1 0))]) (v := (.int .i64 (F_spec_l1Least least1 (list.getD i1 0)))) en_135 ⟨(ev_t rfl), (ev_t rfl), trivial⟩ (fun w hw => spec_l1Least_ok w least1 (list.getD i1 0))) rfl rfl rfl ?_
    refine TL.op (yq (y_assign (ev_t rfl))) rfl rfl rfl ?_
    refine TL.nil ?_
    refine TN.blockN ?_
    refine TN.seq ?_
    refine TC.region ?_
    refine TL.op (yq (y_move (ev_t rfl))) rfl rfl rfl ?_
    refine TL.op (yq (y_add (ev_t rfl) ev_c (by unfold In64; omega))) rfl rfl rfl ?_
    refine TL.op (yq (y_assign (ev_t rfl))) rfl rfl rfl ?_
    refine TL.nil ?_
    exact TN.hand (mf1, (F_spec_l1Least least1 (list.getD i1 0)), (i1 + 1)) ⟨(by first | omega | (simp [-List.getD_eq_getElem?_getD] <;> omega)), (by omega), hL1⟩ (Nat.lt_succ_self _) ⟨rfl, rfl, rfl, trivial⟩ (fun w hw => hw)
  · rw [bif_neg h11] at hL1
    have q12 := (of_decide_eq_false h11)
    refine TC.exit ?_
    refine TN.thenE ?_
    refine TN.thenE ?_
    rw [← hL1, elim_next] at hF
    try dsimp only at hF
    refine TN.blockH ?_
    refine TN.seq ?_
    refine TC.seq ?_
    refine TC.region ?_
    refine TL.op (yq (y_move (ev_t rfl))) rfl rfl rfl ?_
    refine TL.op (yq (y_assign (ev_t rfl))) rfl rfl rfl ?_
    refine TL.nil ?_
    refine TN.seq ?_
    refine TC.ret ?_
    subst hF
    exact TN.ret1 rfl (ev_t rfl) (fun w' hw => ⟨rfl, hw⟩)

set_option maxRecDepth 4000 in
set_option maxHeartbeats 1000000 in
theorem spec_l7Optimum_ok (w : World) (vm : Value) (um : List Value) (m : List (List Int)) (hm : RII w vm um m) (va : Value) (a : List Int) (ha : RI w va a) (vreqs : Value) (reqs : List Int) (hreqs : RI w vreqs reqs) (hp0 : Sv m a reqs) :
    Calls Try.prog 85 ([(.agg #[vm]), va, vreqs] : List Value).toArray w (Ret (.int .i64 (F_spec_l7Optimum m a reqs)) (Hp w [])) := by
  obtain ⟨rz, hF⟩ : ∃ rz, (F_spec_l7Optimum m a reqs) = rz := ⟨_, rfl⟩
  rw [hF]
  unfold F_spec_l7Optimum at hF
  have hKs := hp0.ks
  have hvb := values_bd hKs hp0.cf rfl reqs
  have hv1 := hvb.1
  have hv2 := (hvb.2 reqs.length (by omega)).1
  have h56 := hKs.s56
  have hlen_m := argT_len hm
  have hlen_a := arg_len ha
  have hlen_reqs := arg_len hreqs
  refine calls_tc Try.func85 rfl rfl rfl ?_
  change TC _ _ _ _ (Hp w []) [(0, (.agg #[vm])), (1, va), (2, vreqs)]
  refine TC.seq ?_
  refine TC.region ?_
  refine TL.box (ev_t rfl) rfl (fun g0_0 => ?_)
  refine TL.op (yq (y_assign ev_c)) rfl rfl rfl ?_
  refine TL.nil ?_
  refine TN.seq ?_
  refine TC.seq ?_
  refine TC.region ?_
  refine TL.op (yq (y_ldagg (cs := [vm]) 0 (ev_t rfl) agg_29 rfl)) rfl rfl rfl ?_
  refine TL.op (yq (y_move (ev_t rfl))) rfl rfl rfl ?_
  refine TL.op (yq (y_len (ev_t rfl) Try.underlying25 (fun w hw => ((ri_arg ha) w hw).ln))) rfl rfl rfl ?_
  refine TL.op (yq (y_move (ev_t rfl))) rfl rfl rfl ?_
  refine TL.op (yq (y_move (ev_t rfl))) rfl rfl rfl ?_
  refine TL.callr (ι := Value × List Value) (vs := [(.agg #[vm]), (.int .i64 (a.length : Int)), va, vreqs]) (fun i => i.1) (fun i => [tabI 25 3 i.1 i.2 (F_spec_l7Values m (a.length : Int) a reqs)]) en_87 ⟨(ev_t rfl), (ev_t rfl), (ev_t rfl), (ev_t rfl), trivial⟩ rfl (fun w hw => spec_l7Values_ok w vm um m ((rii_arg hm) w hw) (a.length : Int) va a ((ri_arg ha) w hw) vreqs reqs ((ri_arg hreqs) w hw) (by first | assumption | omega | grind) (by first | assumption | omega | grind) (by first | assumption | omega | grind)) (fun r1_5 => ?_)
  refine TL.op (yq (y_assign (ev_t rfl))) rfl rfl rfl ?_
  refine TL.nil ?_
  refine TN.seq ?_
  refine TC.seq ?_
  refine TC.region ?_
  refine TL.op (yq (y_move (ev_t rfl))) rfl rfl rfl ?_
  refine TL.op (yq (y_move (ev_t rfl))) rfl rfl rfl ?_
  refine TL.op (yq (y_len (ev_t rfl) Try.underlying25 (fun w hw => ((ri_arg hreqs) w hw).ln))) rfl rfl rfl ?_
  have hb2 : reqs.length < (F_spec_l7Values m (a.length : Int) a reqs).length := (by first | omega | (simp only [List.length_set, List.length_append, List.length_cons, List.length_nil, List.length_replicate]; omega) | (rw [sortI_length]; simp only [List.length_cons, List.length_nil]; omega))
  refine TL.op (yq (y_idx (k := reqs.length) (ev_t rfl) (ev_t rfl) (by first | omega | simp) slT_22 (fun w hw => ((rii_tab 0 rfl) w hw).1) hb2)) rfl rfl rfl ?_
  refine TL.op (yq (y_ldT 0 (ev_t rfl) one_25 rfl hb2)) rfl rfl rfl ?_
  refine TL.op (y_call (vs := [(r1_5.2.getD reqs.length undef)]) (v := (.int .i64 (F_spec_l7Least ((F_spec_l7Values m (a.length : Int) a reqs).getD reqs.length [])))) en_118 ⟨(ev_t rfl), trivial⟩ (fun w hw => spec_l7Least_ok w (r1_5.2.getD reqs.length undef) ((F_spec_l7Values m (a.length : Int) a reqs).getD reqs.length []) ((ri_tab 0 reqs.length rfl hb2) w hw) (by first | assumption | omega | grind))) rfl rfl rfl ?_
  refine TL.op (yq (y_assign (ev_t rfl))) rfl rfl rfl ?_
  refine TL.nil ?_
  refine TN.seq ?_
  refine TC.ret ?_
  subst hF
  exact TN.ret1 rfl (ev_t rfl) (fun w' hw => ⟨rfl, Hp.sublist hw (List.nil_sublist _)⟩)

set_option maxRecDepth 4000 in
set_option maxHeartbeats 1000000 in
theorem spec_LeastWork_ok (w : World) (vm : Value) (um : List Value) (m : List (List Int)) (hm : RII w vm um m) (va : Value) (a : List Int) (ha : RI w va a) (vreqs : Value) (reqs : List Int) (hreqs : RI w vreqs reqs)  :
    Calls Try.prog 44 ([(.agg #[vm]), va, vreqs] : List Value).toArray w (Ret (.tuple #[(.int .i64 ((F_spec_LeastWork m a reqs).1)), (.bool ((F_spec_LeastWork m a reqs).2))]) (Hp w [])) := by
  obtain ⟨rz, hF⟩ : ∃ rz, (F_spec_LeastWork m a reqs) = rz := ⟨_, rfl⟩
  rw [hF]
  unfold F_spec_LeastWork at hF
  have hlen_m := argT_len hm
  have hlen_a := arg_len ha
  have hlen_reqs := arg_len hreqs
  refine calls_tc Try.func44 rfl rfl rfl ?_
  change TC _ _ _ _ (Hp w []) [(0, (.agg #[vm])), (1, va), (2, vreqs)]
  refine TC.seq ?_
  refine TC.region ?_
  refine TL.box (ev_t rfl) rfl (fun g0_0 => ?_)
  refine TL.op (yq (y_assign ev_c)) rfl rfl rfl ?_
  refine TL.op (yq (y_assign ev_c)) rfl rfl rfl ?_
  refine TL.nil ?_
  refine TN.seq ?_
  refine TC.seq ?_
  refine TC.seq ?_
  refine TC.region ?_
  refine TL.op (yq (y_ldagg (cs := [vm]) 0 (ev_t rfl) agg_29 rfl)) rfl rfl rfl ?_
  refine TL.op (y_call (vs := [(.agg #[vm])]) (v := (.bool (F_spec_l6Good m))) en_64 ⟨(ev_t rfl), trivial⟩ (fun w hw => spec_l6Good_ok w vm um m ((rii_arg hm) w hw))) rfl rfl rfl ?_
  refine TL.op (yq (y_not (ev_t rfl))) rfl rfl rfl ?_
  refine TL.op (yq (y_move (ev_t rfl))) rfl rfl rfl ?_
  refine TL.opw (w_f rfl rfl rfl) (fun hg => yq (y_ldagg (cs := [vm]) 0 (ev_t rfl) agg_29 rfl)) rfl rfl ?_
  refine TL.opw (w_f rfl rfl rfl) (fun hg => yq (y_move (ev_t rfl))) rfl rfl ?_
  refine TL.opw (w_f rfl rfl rfl) (fun hg => yq (y_move (ev_t rfl))) rfl rfl ?_
  refine TL.opw (w_f rfl rfl rfl) (fun hg => y_call (vs := [(.agg #[vm]), va, vreqs]) (v := (.bool (F_spec_l6Start m a reqs))) en_84 ⟨(ev_g rfl hg), (ev_g rfl hg), (ev_g rfl hg), trivial⟩ (fun w hw => spec_l6Start_ok w vm um m ((rii_arg hm) w hw) va a ((ri_arg ha) w hw) vreqs reqs ((ri_arg hreqs) w hw))) rfl rfl ?_
  refine TL.opw (w_f rfl rfl rfl) (fun hg => yq (y_not (ev_g rfl hg))) rfl rfl ?_
  refine TL.op (yq (y_or (ev_t rfl) (fun hq => (ev_g rfl hq)))) rfl rfl rfl ?_
  refine TL.nil ?_
  refine TN.seq ?_
  refine TC.cond (b := ((!(F_spec_l6Good m)) || (!(F_spec_l6Start m a reqs)))) (ev_t rfl) (fun h3 => ?_) (fun h3 => ?_)
  · rw [bif_pos h3] at hF
    have q4 := ((or_t h3).imp (fun h => (not_t h)) (fun h => (not_t h)))
    refine TC.seq ?_
    refine TC.region ?_
    refine TL.op (yq (y_assign ev_c)) rfl rfl rfl ?_
    refine TL.op (yq (y_assign ev_c)) rfl rfl rfl ?_
    refine TL.nil ?_
    refine TN.seq ?_
    refine TC.ret ?_
    refine TN.thenR ?_
    subst hF
    exact TN.ret2 rfl (ev_t rfl) (ev_t rfl) (fun w' hw => ⟨rfl, Hp.sublist hw (List.nil_sublist _)⟩)
  · rw [bif_neg h3] at hF
    have q4 := (and_imp (or_f h3) (fun h => (l6Good_t (not_f h))) (fun h => (l6Start_t (not_f h))))
    have hS := q4.2
    refine TC.skip ?_
    refine TN.seq ?_
    refine TC.seq ?_
    refine TC.region ?_
    refine TL.op (yq (y_ldagg (cs := [vm]) 0 (ev_t rfl) agg_29 rfl)) rfl rfl rfl ?_
    refine TL.op (yq (y_move (ev_t rfl))) rfl rfl rfl ?_
    refine TL.op (yq (y_move (ev_t rfl))) rfl rfl rfl ?_
    refine TL.op (y_call (vs := [(.agg #[vm]), va, vreqs]) (v := (.int .i64 (F_spec_l7Optimum m a reqs))) en_85 ⟨(ev_t rfl), (ev_t rfl), (ev_t rfl), trivial⟩ (fun w hw => spec_l7Optimum_ok w vm um m ((rii_arg hm) w hw) va a ((ri_arg ha) w hw) vreqs reqs ((ri_arg hreqs) w hw) (by first | assumption | omega | grind))) rfl rfl rfl ?_
    refine TL.op (yq (y_assign (ev_t rfl))) rfl rfl rfl ?_
    refine TL.op (yq (y_assign ev_c)) rfl rfl rfl ?_
    refine TL.nil ?_
    refine TN.seq ?_
    refine TC.ret ?_
    subst hF
    exact TN.ret2 rfl (ev_t rfl) (ev_t rfl) (fun w' hw => ⟨rfl, Hp.sublist hw (List.nil_sublist _)⟩)

set_option maxRecDepth 4000 in
set_option maxHeartbeats 1000000 in
theorem spec_l7Growth_ok (w : World) (vwk : Value) (wk : List Int) (hwk : RI w vwk wk) (vnext : Value) (next : List Int) (hnext : RI w vnext next) (hp0 : wk.length = next.length) (hp1 : ∀ i, -1 ≤ wk.getD i 0 ∧ wk.getD i 0 ≤ 2000000000) (hp2 : ∀ i, -1 ≤ next.getD i 0 ∧ next.getD i 0 ≤ 2000000000) :
    Calls Try.prog 73 ([vwk, vnext] : List Value).toArray w (Ret (.int .i64 (F_spec_l7Growth wk next)) (Hp w [])) := by
  obtain ⟨rz, hF⟩ : ∃ rz, (F_spec_l7Growth wk next) = rz := ⟨_, rfl⟩
  rw [hF]
  unfold F_spec_l7Growth at hF
  have hlen_wk := arg_len hwk
  have hlen_next := arg_len hnext
  refine calls_tc Try.func73 rfl rfl rfl ?_
  change TC _ _ _ _ (Hp w []) [(0, vwk), (1, vnext)]
  refine TC.seq ?_
  refine TC.region ?_
  refine TL.op (yq (y_assign ev_c)) rfl rfl rfl ?_
  refine TL.nil ?_
  refine TN.seq ?_
  refine TC.seq ?_
  refine TC.region ?_
  refine TL.op (yq (y_assign ev_c)) rfl rfl rfl ?_
  refine TL.nil ?_
  refine TN.seq ?_
  refine TC.seq ?_
  refine TC.seq ?_
  refine TC.region ?_
  refine TL.op (yq (y_assign ev_c)) rfl rfl rfl ?_
  refine TL.nil ?_
  refine TN.seq ?_
  refine TC.block ?_
  obtain ⟨c13, hc14⟩ : ∃ c, F_spec_l7Growth_L1 wk next ((wk.length - 0) + 1) (0, 0) = c := ⟨_, rfl⟩
  rw [hc14] at hF
  refine TC.loop (ι := Nat × Int × Nat) (fun (fu1, most1, i1) => [(0, vwk), (1, vnext), (5, (.int .i64 most1)), (6, (.int .i64 (i1 : Int)))]) (fun (fu1, most1, i1) => Hp w []) (fun (fu1, most1, i1) => (i1 ≤ wk.length) ∧ wk.length - i1 < fu1 ∧ F_spec_l7Growth_L1 wk next fu1 (most1, i1) = c13) (fun (fu1, most1, i1) => fu1) ((wk.length - 0) + 1, 0, 0) ⟨(by first | omega | (simp [-List.getD_eq_getElem?_getD] <;> omega)), (by omega), hc14⟩ ⟨rfl, rfl, rfl, rfl, trivial⟩ (fun w hw => hw) ?_
  rintro ⟨fu1, most1, i1⟩ hJ1
  obtain ⟨hi1_0, hmu1, hL1⟩ : (i1 ≤ wk.length) ∧ wk.length - i1 < fu1 ∧ F_spec_l7Growth_L1 wk next fu1 (most1, i1) = c13 := hJ1
  change TC _ _ _ _ (Hp w []) [(0, vwk), (1, vnext), (5, (.int .i64 most1)), (6, (.int .i64 (i1 : Int)))]
  obtain ⟨mf1, rfl⟩ : ∃ m, fu1 = m + 1 := ⟨fu1 - 1, by omega⟩
  rw [F_spec_l7Growth_L1_s] at hL1
  have h1 := hp1 i1
  have h2 := hp2 i1
  refine TC.seq ?_
  refine TC.seq ?_
  refine TC.region ?_
  refine TL.op (yq (y_move (ev_t rfl))) rfl rfl rfl ?_
  refine TL.op (yq (y_move (ev_t rfl))) rfl rfl rfl ?_
  refine TL.op (yq (y_len (ev_t rfl) Try.underlying25 (fun w hw => ((ri_arg hwk) w hw).ln))) rfl rfl rfl ?_
  refine TL.op (yq (y_lss (ev_t rfl) (ev_t rfl))) rfl rfl rfl ?_
  refine TL.nil ?_
  refine TN.seq ?_
  refine TC.cond (b := decide ((i1 : Int) < (wk.length : Int))) (ev_t rfl) (fun h15 => ?_) (fun h15 => ?_)
  · rw [bif_pos h15] at hL1
    have q16 := (of_decide_eq_true h15)
    refine TC.skip ?_
    refine TN.seq ?_
    refine TC.seq ?_
    refine TC.block ?_
    refine TC.regionQ (by kernel_rfl) (by kernel_rfl) dr_hp ?_
    refine TQ.op (yq (y_move (ev_t rfl))) rfl rfl rfl ?_
    refine TQ.op (yq (y_move (ev_t rfl))) rfl rfl rfl ?_
    refine TQ.op (yq (y_move (ev_t rfl))) rfl rfl rfl ?_
    have hb17 : i1 < next.length := (by first | omega | (simp only [List.length_set, List.length_append, List.length_cons, List.length_nil, List.length_replicate]; omega) | (rw [sortI_length]; simp only [List.length_cons, List.length_nil]; omega))
    refine TQ.op (yq (y_idx (k := i1) (ev_t rfl) (ev_t rfl) (by first | omega | simp) slT_25 (ri_arg hnext) hb17)) rfl rfl rfl ?_
    refine TQ.op (yq (y_ldi (ev_t rfl) one_3 (ri_arg hnext) hb17)) rfl rfl rfl ?_
    refine TQ.op (yq (y_move (ev_t rfl))) rfl rfl rfl ?_
    refine TQ.op (yq (y_move (ev_t rfl))) rfl rfl rfl ?_
    have hb18 : i1 < wk.length := (by first | omega | (simp only [List.length_set, List.length_append, List.length_cons, List.length_nil, List.length_replicate]; omega) | (rw [sortI_length]; simp only [List.length_cons, List.length_nil]; omega))
    refine TQ.op (yq (y_idx (k := i1) (ev_t rfl) (ev_t rfl) (by first | omega | simp) slT_25 (ri_arg hwk) hb18)) rfl rfl rfl ?_
    refine TQ.op (yq (y_ldi (ev_t rfl) one_3 (ri_arg hwk) hb18)) rfl rfl rfl ?_
    refine TQ.op (yq (y_sub (ev_t rfl) (ev_t rfl) (by unfold In64; omega))) rfl rfl rfl ?_
    refine TQ.op (y_call (vs := [(.int .i64 most1), (.int .i64 ((next.getD i1 0) - (wk.getD i1 0)))]) (v := (.int .i64 (F_spec_l1Most most1 ((next.getD i1 0) - (wk.getD i1 0))))) en_97 ⟨(ev_t rfl), (ev_t rfl), trivial⟩ (fun w hw => spec_l1Most_ok w most1 ((next.getD i1 0) - (wk.getD i1 0)))) rfl rfl rfl ?_
    refine TQ.op (yq (y_assign (ev_t rfl))) rfl rfl rfl ?_
    refine TQ.nil ?_
    refine TN.blockN ?_
    refine TN.seq ?_
    refine TC.region ?_
    refine TL.op (yq (y_move (ev_t rfl))) rfl rfl rfl ?_
    refine TL.op (yq (y_add (ev_t rfl) ev_c (by unfold In64; omega))) rfl rfl rfl ?_
    refine TL.op (yq (y_assign (ev_t rfl))) rfl rfl rfl ?_
    refine TL.nil ?_
    exact TN.hand (mf1, (F_spec_l1Most most1 ((next.getD i1 0) - (wk.getD i1 0))), (i1 + 1)) ⟨(by first | omega | (simp [-List.getD_eq_getElem?_getD] <;> omega)), (by omega), hL1⟩ (Nat.lt_succ_self _) ⟨rfl, rfl, rfl, rfl, trivial⟩ (fun w hw => hw)
  · rw [bif_neg h15] at hL1
    have q16 := (of_decide_eq_false h15)
    refine TC.exit ?_
    refine TN.thenE ?_
    refine TN.thenE ?_
    rw [← hL1, elim_next] at hF
    try dsimp only at hF
    refine TN.blockH ?_
    refine TN.seq ?_
    refine TC.seq ?_
    refine TC.region ?_
    refine TL.op (yq (y_move (ev_t rfl))) rfl rfl rfl ?_
    refine TL.op (yq (y_assign (ev_t rfl))) rfl rfl rfl ?_
    refine TL.nil ?_
    refine TN.seq ?_
    refine TC.ret ?_
    subst hF
    exact TN.ret1 rfl (ev_t rfl) (fun w' hw => ⟨rfl, hw⟩)

set_option maxRecDepth 4000 in
set_option maxHeartbeats 1000000 in
theorem spec_GrowthOf_ok (w : World) (vm : Value) (um : List Value) (m : List (List Int)) (hm : RII w vm um m) (k : Int) (vwk : Value) (wk : List Int) (hwk : RI w vwk wk) (r : Int)  :
    Calls Try.prog 36 ([(.agg #[vm]), (.int .i64 k), vwk, (.int .i64 r)] : List Value).toArray w (Ret (.tuple #[(.int .i64 ((F_spec_GrowthOf m k wk r).1)), (.bool ((F_spec_GrowthOf m k wk r).2))]) (Hp w [])) := by
  obtain ⟨rz, hF⟩ : ∃ rz, (F_spec_GrowthOf m k wk r) = rz := ⟨_, rfl⟩
  rw [hF]
  unfold F_spec_GrowthOf at hF
  have hlen_m := argT_len hm
  have hlen_wk := arg_len hwk
  refine calls_tc Try.func36 rfl rfl rfl ?_
  change TC _ _ _ _ (Hp w []) [(0, (.agg #[vm])), (1, (.int .i64 k)), (2, vwk), (3, (.int .i64 r))]
  refine TC.seq ?_
  refine TC.region ?_
  refine TL.box (ev_t rfl) rfl (fun g0_0 => ?_)
  refine TL.op (yq (y_assign ev_c)) rfl rfl rfl ?_
  refine TL.op (yq (y_assign ev_c)) rfl rfl rfl ?_
  refine TL.nil ?_
  refine TN.seq ?_
  refine TC.seq ?_
  refine TC.seq ?_
  refine TC.region ?_
  refine TL.op (yq (y_ldagg (cs := [vm]) 0 (ev_t rfl) agg_29 rfl)) rfl rfl rfl ?_
  refine TL.op (yq (y_move (ev_t rfl))) rfl rfl rfl ?_
  refine TL.op (yq (y_move (ev_t rfl))) rfl rfl rfl ?_
  refine TL.op (yq (y_move (ev_t rfl))) rfl rfl rfl ?_
  refine TL.op (y_call (vs := [(.agg #[vm]), (.int .i64 k), vwk, (.int .i64 r)]) (v := (.bool (F_spec_l7Given m k wk r))) en_58 ⟨(ev_t rfl), (ev_t rfl), (ev_t rfl), (ev_t rfl), trivial⟩ (fun w hw => spec_l7Given_ok w vm um m ((rii_arg hm) w hw) k vwk wk ((ri_arg hwk) w hw) r)) rfl rfl rfl ?_
  refine TL.op (yq (y_not (ev_t rfl))) rfl rfl rfl ?_
  refine TL.nil ?_
  refine TN.seq ?_
  refine TC.cond (b := !(F_spec_l7Given m k wk r)) (ev_t rfl) (fun h5 => ?_) (fun h5 => ?_)
  · rw [bif_pos h5] at hF
    have q6 := (not_t h5)
    refine TC.seq ?_
    refine TC.region ?_
    refine TL.op (yq (y_assign ev_c)) rfl rfl rfl ?_
    refine TL.op (yq (y_assign ev_c)) rfl rfl rfl ?_
    refine TL.nil ?_
    refine TN.seq ?_
    refine TC.ret ?_
    refine TN.thenR ?_
    subst hF
    exact TN.ret2 rfl (ev_t rfl) (ev_t rfl) (fun w' hw => ⟨rfl, Hp.sublist hw (List.nil_sublist _)⟩)
  · rw [bif_neg h5] at hF
    have q6 := (l7Given_t (not_f h5))
    have hGv := q6
    have hKs := hGv.ks
    have hgl := hGv.len
    have hwb : ∀ i, 0 ≤ wk.getD i 0 ∧ wk.getD i 0 ≤ 1073741824 := fun i => by have := hGv.el i; omega
    have hr0 : 0 ≤ r ∧ r < m.length := ⟨hGv.r0, hGv.rn⟩
    have hlb := lnext_bd hKs (B := 99999) (by omega) hGv.el r
    have hll : wk.length = (F_spec_l7Next m k wk r).length := by have := hlb.1; rw [← hKs.same] at this; omega
    have hb1 : ∀ i, -1 ≤ wk.getD i 0 ∧ wk.getD i 0 ≤ 2000000000 := fun i => by have := hGv.el i; omega
    have hb2 : ∀ i, -1 ≤ (F_spec_l7Next m k wk r).getD i 0 ∧ (F_spec_l7Next m k wk r).getD i 0 ≤ 2000000000 := fun i => by have := hlb.2 i; omega
    refine TC.skip ?_
    refine TN.seq ?_
    refine TC.seq ?_
    refine TC.region ?_
    refine TL.op (yq (y_ldagg (cs := [vm]) 0 (ev_t rfl) agg_29 rfl)) rfl rfl rfl ?_
    refine TL.op (yq (y_move (ev_t rfl))) rfl rfl rfl ?_
    refine TL.op (yq (y_move (ev_t rfl))) rfl rfl rfl ?_
    refine TL.op (yq (y_move (ev_t rfl))) rfl rfl rfl ?_
    refine TL.callr (ι := Value) (vs := [(.agg #[vm]), (.int .i64 k), vwk, (.int .i64 r)]) (fun i => i) (fun i => [rowI 3 i (F_spec_l7Next m k wk r)]) en_71 ⟨(ev_t rfl), (ev_t rfl), (ev_t rfl), (ev_t rfl), trivial⟩ rfl (fun w hw => spec_l7Next_ok w vm um m ((rii_arg hm) w hw) k vwk wk ((ri_arg hwk) w hw) r (by first | assumption | omega | grind) (by first | assumption | omega | grind) (by first | assumption | omega | grind) (by first | assumption | omega | grind)) (fun r3_4 => ?_)
    refine TL.op (yq (y_assign (ev_t rfl))) rfl rfl rfl ?_
    refine TL.nil ?_
    refine TN.seq ?_
    refine TC.seq ?_
    refine TC.seq ?_
    refine TC.region ?_
    refine TL.op (yq (y_move (ev_t rfl))) rfl rfl rfl ?_
    refine TL.op (y_call (vs := [r3_4]) (v := (.int .i64 (F_spec_l7Greatest (F_spec_l7Next m k wk r)))) en_72 ⟨(ev_t rfl), trivial⟩ (fun w hw => spec_l7Greatest_ok w r3_4 (F_spec_l7Next m k wk r) ((ri_row 0 rfl) w hw))) rfl rfl rfl ?_
    refine TL.op (yq (y_gtr (ev_t rfl) ev_c)) rfl rfl rfl ?_
    refine TL.nil ?_
    refine TN.seq ?_
    refine TC.cond (b := decide (99999 < (F_spec_l7Greatest (F_spec_l7Next m k wk r)))) (ev_t rfl) (fun h7 => ?_) (fun h7 => ?_)
    · rw [bif_pos h7] at hF
      have q8 := (of_decide_eq_true h7)
      refine TC.seq ?_
      refine TC.region ?_
      refine TL.op (yq (y_assign ev_c)) rfl rfl rfl ?_
      refine TL.op (yq (y_assign ev_c)) rfl rfl rfl ?_
      refine TL.nil ?_
      refine TN.seq ?_
      refine TC.ret ?_
      refine TN.thenR ?_
      subst hF
      exact TN.ret2 rfl (ev_t rfl) (ev_t rfl) (fun w' hw => ⟨rfl, Hp.sublist hw (List.nil_sublist _)⟩)
    · rw [bif_neg h7] at hF
      have q8 := (of_decide_eq_false h7)
      refine TC.skip ?_
      refine TN.seq ?_
      refine TC.seq ?_
      refine TC.region ?_
      refine TL.op (yq (y_move (ev_t rfl))) rfl rfl rfl ?_
      refine TL.op (yq (y_move (ev_t rfl))) rfl rfl rfl ?_
      refine TL.op (y_call (vs := [vwk, r3_4]) (v := (.int .i64 (F_spec_l7Growth wk (F_spec_l7Next m k wk r)))) en_73 ⟨(ev_t rfl), (ev_t rfl), trivial⟩ (fun w hw => spec_l7Growth_ok w vwk wk ((ri_arg hwk) w hw) r3_4 (F_spec_l7Next m k wk r) ((ri_row 0 rfl) w hw) (by first | assumption | omega | grind) (by first | assumption | omega | grind) (by first | assumption | omega | grind))) rfl rfl rfl ?_
      refine TL.op (yq (y_assign (ev_t rfl))) rfl rfl rfl ?_
      refine TL.op (yq (y_assign ev_c)) rfl rfl rfl ?_
      refine TL.nil ?_
      refine TN.seq ?_
      refine TC.ret ?_
      subst hF
      exact TN.ret2 rfl (ev_t rfl) (ev_t rfl) (fun w' hw => ⟨rfl, Hp.sublist hw (List.nil_sublist _)⟩)

set_option maxRecDepth 4000 in
set_option maxHeartbeats 1000000 in
theorem spec_l7Sum_ok (w : World) (vm : Value) (um : List Value) (m : List (List Int)) (hm : RII w vm um m) (vx : Value) (x : List Int) (hx : RI w vx x) (r : Int) (hp0 : Tab m) (hp1 : Cf m.length x) (hp2 : 0 ≤ r ∧ r < m.length) :
    Calls Try.prog 102 ([(.agg #[vm]), vx, (.int .i64 r)] : List Value).toArray w (Ret (.int .i64 (F_spec_l7Sum m x r)) (Hp w [])) := by
  obtain ⟨rz, hF⟩ : ∃ rz, (F_spec_l7Sum m x r) = rz := ⟨_, rfl⟩
  rw [hF]
  unfold F_spec_l7Sum at hF
  have hn3 := hp1.n3
  have hlen_m := argT_len hm
  have hlen_x := arg_len hx
  refine calls_tc Try.func102 rfl rfl rfl ?_
  change TC _ _ _ _ (Hp w []) [(0, (.agg #[vm])), (1, vx), (2, (.int .i64 r))]
  refine TC.seq ?_
  refine TC.region ?_
  refine TL.box (ev_t rfl) rfl (fun g0_0 => ?_)
  refine TL.op (yq (y_assign ev_c)) rfl rfl rfl ?_
  refine TL.nil ?_
  refine TN.seq ?_
  refine TC.seq ?_
  refine TC.region ?_
  refine TL.op (yq (y_assign ev_c)) rfl rfl rfl ?_
  refine TL.nil ?_
  refine TN.seq ?_
  refine TC.seq ?_
  refine TC.seq ?_
  refine TC.region ?_
  refine TL.op (yq (y_assign ev_c)) rfl rfl rfl ?_
  refine TL.nil ?_
  refine TN.seq ?_
  refine TC.block ?_
  obtain ⟨c19, hc20⟩ : ∃ c, F_spec_l7Sum_L1 m x r ((x.length - 0) + 1) (0, 0) = c := ⟨_, rfl⟩
  rw [hc20] at hF
  refine TC.loop (ι := Nat × Int × Nat) (fun (fu1, sum1, s1) => [(1, vx), (2, (.int .i64 r)), (3, (.pointer (some ⟨g0_0, 0, none⟩))), (7, (.int .i64 sum1)), (8, (.int .i64 (s1 : Int)))]) (fun (fu1, sum1, s1) => Hp w [.blk g0_0 29 [vm]]) (fun (fu1, sum1, s1) => (s1 ≤ x.length) ∧ (-(s1 : Int) ≤ sum1) ∧ (sum1 ≤ 99 * (s1 : Int)) ∧ x.length - s1 < fu1 ∧ F_spec_l7Sum_L1 m x r fu1 (sum1, s1) = c19) (fun (fu1, sum1, s1) => fu1) ((x.length - 0) + 1, 0, 0) ⟨(by first | omega | (simp [-List.getD_eq_getElem?_getD] <;> omega)), (by first | omega | (simp [-List.getD_eq_getElem?_getD] <;> omega)), (by first | omega | (simp [-List.getD_eq_getElem?_getD] <;> omega)), (by omega), hc20⟩ ⟨rfl, rfl, rfl, rfl, rfl, trivial⟩ (fun w hw => hw) ?_
  rintro ⟨fu1, sum1, s1⟩ hJ1
  obtain ⟨hi1_0, hi1_1, hi1_2, hmu1, hL1⟩ : (s1 ≤ x.length) ∧ (-(s1 : Int) ≤ sum1) ∧ (sum1 ≤ 99 * (s1 : Int)) ∧ x.length - s1 < fu1 ∧ F_spec_l7Sum_L1 m x r fu1 (sum1, s1) = c19 := hJ1
  change TC _ _ _ _ (Hp w [.blk g0_0 29 [vm]]) [(1, vx), (2, (.int .i64 r)), (3, (.pointer (some ⟨g0_0, 0, none⟩))), (7, (.int .i64 sum1)), (8, (.int .i64 (s1 : Int)))]
  obtain ⟨mf1, rfl⟩ : ∃ m, fu1 = m + 1 := ⟨fu1 - 1, by omega⟩
  rw [F_spec_l7Sum_L1_s] at hL1
  have hpe := hp1.el s1
  have hrw := hp0.rows (x.getD s1 0).toNat
  have hme := hp0.el (x.getD s1 0).toNat r.toNat
  refine TC.seq ?_
  refine TC.seq ?_
  refine TC.region ?_
  refine TL.op (yq (y_move (ev_t rfl))) rfl rfl rfl ?_
  refine TL.op (yq (y_move (ev_t rfl))) rfl rfl rfl ?_
  refine TL.op (yq (y_len (ev_t rfl) Try.underlying25 (fun w hw => ((ri_arg hx) w hw).ln))) rfl rfl rfl ?_
  refine TL.op (yq (y_lss (ev_t rfl) (ev_t rfl))) rfl rfl rfl ?_
  refine TL.nil ?_
  refine TN.seq ?_
  refine TC.cond (b := decide ((s1 : Int) < (x.length : Int))) (ev_t rfl) (fun h21 => ?_) (fun h21 => ?_)
  · rw [bif_pos h21] at hL1
    have q22 := (of_decide_eq_true h21)
    refine TC.skip ?_
    refine TN.seq ?_
    refine TC.seq ?_
    refine TC.block ?_
    refine TC.regionQ (by kernel_rfl) (by kernel_rfl) dr_hp ?_
    refine TQ.op (yq (y_move (ev_t rfl))) rfl rfl rfl ?_
    refine TQ.op (yq (y_fa (fa_29_0 g0_0) (ev_t rfl))) rfl rfl rfl ?_
    refine TQ.op (yq (y_ldb 0 (ev_t rfl) one_22 rfl rfl)) rfl rfl rfl ?_
    refine TQ.op (yq (y_move (ev_t rfl))) rfl rfl rfl ?_
    refine TQ.op (yq (y_move (ev_t rfl))) rfl rfl rfl ?_
    have hb23 : s1 < x.length := (by first | omega | (simp only [List.length_set, List.length_append, List.length_cons, List.length_nil, List.length_replicate]; omega) | (rw [sortI_length]; simp only [List.length_cons, List.length_nil]; omega))
    refine TQ.op (yq (y_idx (k := s1) (ev_t rfl) (ev_t rfl) (by first | omega | simp) slT_25 (ri_arg hx) hb23)) rfl rfl rfl ?_
    refine TQ.op (yq (y_ldi (ev_t rfl) one_3 (ri_arg hx) hb23)) rfl rfl rfl ?_
    have hb24 : ((x.getD s1 0)).toNat < m.length := (by first | omega | (simp only [List.length_set, List.length_append, List.length_cons, List.length_nil, List.length_replicate]; omega) | (rw [sortI_length]; simp only [List.length_cons, List.length_nil]; omega))
    refine TQ.op (yq (y_idx (k := ((x.getD s1 0)).toNat) (ev_t rfl) (ev_t rfl) (by first | omega | simp) slT_22 (fun w hw => ((rii_arg hm) w hw).1) hb24)) rfl rfl rfl ?_
    have ha25 := hm.row (i := ((x.getD s1 0)).toNat) hb24
    refine TQ.op (yq (y_ldA (ev_t rfl) one_25 (rii_arg hm) hb24)) rfl rfl rfl ?_
    refine TQ.op (yq (y_move (ev_t rfl))) rfl rfl rfl ?_
    have hb26 : (r).toNat < (m.getD (((x.getD s1 0)).toNat) []).length := (by first | omega | (simp only [List.length_set, List.length_append, List.length_cons, List.length_nil, List.length_replicate]; omega) | (rw [sortI_length]; simp only [List.length_cons, List.length_nil]; omega))
    refine TQ.op (yq (y_idx (k := (r).toNat) (ev_t rfl) (ev_t rfl) (by first | omega | simp) slT_25 (ri_arg ha25) hb26)) rfl rfl rfl ?_
    refine TQ.op (yq (y_ldi (ev_t rfl) one_3 (ri_arg ha25) hb26)) rfl rfl rfl ?_
    refine TQ.op (yq (y_add (ev_t rfl) (ev_t rfl) (by unfold In64; omega))) rfl rfl rfl ?_
    refine TQ.op (yq (y_assign (ev_t rfl))) rfl rfl rfl ?_
    refine TQ.nil ?_
    refine TN.blockN ?_
    refine TN.seq ?_
    refine TC.region ?_
    refine TL.op (yq (y_move (ev_t rfl))) rfl rfl rfl ?_
    refine TL.op (yq (y_add (ev_t rfl) ev_c (by unfold In64; omega))) rfl rfl rfl ?_
    refine TL.op (yq (y_assign (ev_t rfl))) rfl rfl rfl ?_
    refine TL.nil ?_
    exact TN.hand (mf1, sum1 + ((m.getD (((x.getD s1 0)).toNat) []).getD ((r).toNat) 0), (s1 + 1)) ⟨(by first | omega | (simp [-List.getD_eq_getElem?_getD] <;> omega)), (by first | omega | (simp [-List.getD_eq_getElem?_getD] <;> omega)), (by first | omega | (simp [-List.getD_eq_getElem?_getD] <;> omega)), (by omega), hL1⟩ (Nat.lt_succ_self _) ⟨rfl, rfl, rfl, rfl, rfl, trivial⟩ (fun w hw => hw)
  · rw [bif_neg h21] at hL1
    have q22 := (of_decide_eq_false h21)
    refine TC.exit ?_
    refine TN.thenE ?_
    refine TN.thenE ?_
    rw [← hL1, elim_next] at hF
    try dsimp only at hF
    refine TN.blockH ?_
    refine TN.seq ?_
    refine TC.seq ?_
    refine TC.region ?_
    refine TL.op (yq (y_move (ev_t rfl))) rfl rfl rfl ?_
    refine TL.op (yq (y_assign (ev_t rfl))) rfl rfl rfl ?_
    refine TL.nil ?_
    refine TN.seq ?_
    refine TC.ret ?_
    subst hF
    exact TN.ret1 rfl (ev_t rfl) (fun w' hw => ⟨rfl, Hp.sublist hw (List.nil_sublist _)⟩)

set_option maxRecDepth 4000 in
set_option maxHeartbeats 1000000 in
theorem spec_l7Far_ok (w : World) (vm : Value) (um : List Value) (m : List (List Int)) (hm : RII w vm um m) (vconfigs : Value) (uconfigs : List Value) (configs : List (List Int)) (hconfigs : RII w vconfigs uconfigs configs) (vwk : Value) (wk : List Int) (hwk : RI w vwk wk) (r : Int) (hp0 : Ksc m configs) (hp1 : wk.length = configs.length) (hp2 : ∀ i, 0 ≤ wk.getD i 0 ∧ wk.getD i 0 ≤ 1073741824) (hp3 : 0 ≤ r ∧ r < m.length) :
    Calls Try.prog 59 ([(.agg #[vm]), vconfigs, vwk, (.int .i64 r)] : List Value).toArray w (Ret (.int .i64 (F_spec_l7Far m configs wk r)) (Hp w [])) := by
  obtain ⟨rz, hF⟩ : ∃ rz, (F_spec_l7Far m configs wk r) = rz := ⟨_, rfl⟩
  rw [hF]
  unfold F_spec_l7Far at hF
  have hTab := hp0.tab
  have h56 := hp0.n56
  have hlen_m := argT_len hm
  have hlen_configs := argT_len hconfigs
  have hlen_wk := arg_len hwk
  refine calls_tc Try.func59 rfl rfl rfl ?_
  change TC _ _ _ _ (Hp w []) [(0, (.agg #[vm])), (1, vconfigs), (2, vwk), (3, (.int .i64 r))]
  refine TC.seq ?_
  refine TC.region ?_
  refine TL.box (ev_t rfl) rfl (fun g0_0 => ?_)
  refine TL.op (yq (y_assign ev_c)) rfl rfl rfl ?_
  refine TL.nil ?_
  refine TN.seq ?_
  refine TC.seq ?_
  refine TC.region ?_
  refine TL.op (yq (y_assign ev_c)) rfl rfl rfl ?_
  refine TL.nil ?_
  refine TN.seq ?_
  refine TC.seq ?_
  refine TC.seq ?_
  refine TC.region ?_
  refine TL.op (yq (y_assign ev_c)) rfl rfl rfl ?_
  refine TL.nil ?_
  refine TN.seq ?_
  refine TC.block ?_
  obtain ⟨c21, hc22⟩ : ∃ c, F_spec_l7Far_L1 m configs wk r ((configs.length - 1) + 1) (0, 1) = c := ⟨_, rfl⟩
  rw [hc22] at hF
  refine TC.loop (ι := Nat × Nat × Nat) (fun (fu1, at1, i1) => [(1, vconfigs), (2, vwk), (3, (.int .i64 r)), (4, (.pointer (some ⟨g0_0, 0, none⟩))), (9, (.int .i64 (at1 : Int))), (10, (.int .i64 (i1 : Int)))]) (fun (fu1, at1, i1) => Hp w [.blk g0_0 29 [vm]]) (fun (fu1, at1, i1) => (i1 ≤ max configs.length 1) ∧ (at1 < i1) ∧ (1 ≤ i1) ∧ configs.length - i1 < fu1 ∧ F_spec_l7Far_L1 m configs wk r fu1 (at1, i1) = c21) (fun (fu1, at1, i1) => fu1) ((configs.length - 1) + 1, 0, 1) ⟨(by first | omega | (simp [-List.getD_eq_getElem?_getD] <;> omega)), (by first | omega | (simp [-List.getD_eq_getElem?_getD] <;> omega)), (by first | omega | (simp [-List.getD_eq_getElem?_getD] <;> omega)), (by omega), hc22⟩ ⟨rfl, rfl, rfl, rfl, rfl, rfl, trivial⟩ (fun w hw => hw) ?_
  rintro ⟨fu1, at1, i1⟩ hJ1
  obtain ⟨hi1_0, hi1_1, hi1_2, hmu1, hL1⟩ : (i1 ≤ max configs.length 1) ∧ (at1 < i1) ∧ (1 ≤ i1) ∧ configs.length - i1 < fu1 ∧ F_spec_l7Far_L1 m configs wk r fu1 (at1, i1) = c21 := hJ1
  change TC _ _ _ _ (Hp w [.blk g0_0 29 [vm]]) [(1, vconfigs), (2, vwk), (3, (.int .i64 r)), (4, (.pointer (some ⟨g0_0, 0, none⟩))), (9, (.int .i64 (at1 : Int))), (10, (.int .i64 (i1 : Int)))]
  obtain ⟨mf1, rfl⟩ : ∃ m, fu1 = m + 1 := ⟨fu1 - 1, by omega⟩
  rw [F_spec_l7Far_L1_s] at hL1
  have hc1 := hp0.cf i1
  have hc2 := hp0.cf at1
  have hw1 := hp2 i1
  have hw2 := hp2 at1
  have hs1 := fun h => sum_bd hTab (hc1 h).n3 r
  have hs2 := fun h => sum_bd hTab (hc2 h).n3 r
  refine TC.seq ?_
  refine TC.seq ?_
  refine TC.region ?_
  refine TL.op (yq (y_move (ev_t rfl))) rfl rfl rfl ?_
  refine TL.op (yq (y_move (ev_t rfl))) rfl rfl rfl ?_
  refine TL.op (yq (y_len (ev_t rfl) Try.underlying22 (fun w hw => ((fun w hw => ((rii_arg hconfigs) w hw).1) w hw).ln))) rfl rfl rfl ?_
  refine TL.op (yq (y_lss (ev_t rfl) (ev_t rfl))) rfl rfl rfl ?_
  refine TL.nil ?_
  refine TN.seq ?_
  refine TC.cond (b := decide ((i1 : Int) < (configs.length : Int))) (ev_t rfl) (fun h23 => ?_) (fun h23 => ?_)
  · rw [bif_pos h23] at hL1
    have q24 := (of_decide_eq_true h23)
    refine TC.skip ?_
    refine TN.seq ?_
    refine TC.seq ?_
    refine TC.block ?_
    refine TC.seq ?_
    refine TC.regionQ (by kernel_rfl) (by kernel_rfl) dr_hp ?_
    refine TQ.op (yq (y_move (ev_t rfl))) rfl rfl rfl ?_
    refine TQ.op (yq (y_move (ev_t rfl))) rfl rfl rfl ?_
    have hb25 : i1 < wk.length := (by first | omega | (simp only [List.length_set, List.length_append, List.length_cons, List.length_nil, List.length_replicate]; omega) | (rw [sortI_length]; simp only [List.length_cons, List.length_nil]; omega))
    refine TQ.op (yq (y_idx (k := i1) (ev_t rfl) (ev_t rfl) (by first | omega | simp) slT_25 (ri_arg hwk) hb25)) rfl rfl rfl ?_
    refine TQ.op (yq (y_ldi (ev_t rfl) one_3 (ri_arg hwk) hb25)) rfl rfl rfl ?_
    refine TQ.op (yq (y_ldagg (cs := [vm]) 0 (ev_t rfl) agg_29 rfl)) rfl rfl rfl ?_
    refine TQ.op (yq (y_move (ev_t rfl))) rfl rfl rfl ?_
    refine TQ.op (yq (y_move (ev_t rfl))) rfl rfl rfl ?_
    have hb26 : i1 < configs.length := (by first | omega | (simp only [List.length_set, List.length_append, List.length_cons, List.length_nil, List.length_replicate]; omega) | (rw [sortI_length]; simp only [List.length_cons, List.length_nil]; omega))
    refine TQ.op (yq (y_idx (k := i1) (ev_t rfl) (ev_t rfl) (by first | omega | simp) slT_22 (fun w hw => ((rii_arg hconfigs) w hw).1) hb26)) rfl rfl rfl ?_
    have ha27 := hconfigs.row (i := i1) hb26
    refine TQ.op (yq (y_ldA (ev_t rfl) one_25 (rii_arg hconfigs) hb26)) rfl rfl rfl ?_
    refine TQ.op (yq (y_move (ev_t rfl))) rfl rfl rfl ?_
    refine TQ.op (y_call (vs := [(.agg #[vm]), (uconfigs.getD i1 undef), (.int .i64 r)]) (v := (.int .i64 (F_spec_l7Sum m (configs.getD i1 []) r))) en_102 ⟨(ev_t rfl), (ev_t rfl), (ev_t rfl), trivial⟩ (fun w hw => spec_l7Sum_ok w vm um m ((rii_arg hm) w hw) (uconfigs.getD i1 undef) (configs.getD i1 []) ((ri_arg ha27) w hw) r (by first | assumption | omega | grind) (by first | assumption | omega | grind) (by first | assumption | omega | grind))) rfl rfl rfl ?_
    refine TQ.op (yq (y_sub (ev_t rfl) (ev_t rfl) (by unfold In64; omega))) rfl rfl rfl ?_
    refine TQ.op (yq (y_move (ev_t rfl))) rfl rfl rfl ?_
    refine TQ.op (yq (y_move (ev_t rfl))) rfl rfl rfl ?_
    have hb28 : at1 < wk.length := (by first | omega | (simp only [List.length_set, List.length_append, List.length_cons, List.length_nil, List.length_replicate]; omega) | (rw [sortI_length]; simp only [List.length_cons, List.length_nil]; omega))
    refine TQ.op (yq (y_idx (k := at1) (ev_t rfl) (ev_t rfl) (by first | omega | simp) slT_25 (ri_arg hwk) hb28)) rfl rfl rfl ?_
    refine TQ.op (yq (y_ldi (ev_t rfl) one_3 (ri_arg hwk) hb28)) rfl rfl rfl ?_
    refine TQ.op (yq (y_ldagg (cs := [vm]) 0 (ev_t rfl) agg_29 rfl)) rfl rfl rfl ?_
    refine TQ.op (yq (y_move (ev_t rfl))) rfl rfl rfl ?_
    refine TQ.op (yq (y_move (ev_t rfl))) rfl rfl rfl ?_
    have hb29 : at1 < configs.length := (by first | omega | (simp only [List.length_set, List.length_append, List.length_cons, List.length_nil, List.length_replicate]; omega) | (rw [sortI_length]; simp only [List.length_cons, List.length_nil]; omega))
    refine TQ.op (yq (y_idx (k := at1) (ev_t rfl) (ev_t rfl) (by first | omega | simp) slT_22 (fun w hw => ((rii_arg hconfigs) w hw).1) hb29)) rfl rfl rfl ?_
    have ha30 := hconfigs.row (i := at1) hb29
    refine TQ.op (yq (y_ldA (ev_t rfl) one_25 (rii_arg hconfigs) hb29)) rfl rfl rfl ?_
    refine TQ.op (yq (y_move (ev_t rfl))) rfl rfl rfl ?_
    refine TQ.op (y_call (vs := [(.agg #[vm]), (uconfigs.getD at1 undef), (.int .i64 r)]) (v := (.int .i64 (F_spec_l7Sum m (configs.getD at1 []) r))) en_102 ⟨(ev_t rfl), (ev_t rfl), (ev_t rfl), trivial⟩ (fun w hw => spec_l7Sum_ok w vm um m ((rii_arg hm) w hw) (uconfigs.getD at1 undef) (configs.getD at1 []) ((ri_arg ha30) w hw) r (by first | assumption | omega | grind) (by first | assumption | omega | grind) (by first | assumption | omega | grind))) rfl rfl rfl ?_
    refine TQ.op (yq (y_sub (ev_t rfl) (ev_t rfl) (by unfold In64; omega))) rfl rfl rfl ?_
    refine TQ.op (yq (y_lss (ev_t rfl) (ev_t rfl))) rfl rfl rfl ?_
    refine TQ.nil ?_
    refine TN.seq ?_
    refine TC.cond (b := decide ((wk.getD i1 0) - (F_spec_l7Sum m (configs.getD i1 []) r) < (wk.getD at1 0) - (F_spec_l7Sum m (configs.getD at1 []) r))) (ev_t rfl) (fun h31 => ?_) (fun h31 => ?_)
    · rw [bif_pos h31] at hL1
      have q32 := (of_decide_eq_true h31)
      refine TC.region ?_
      refine TL.op (yq (y_move (ev_t rfl))) rfl rfl rfl ?_
      refine TL.op (yq (y_assign (ev_t rfl))) rfl rfl rfl ?_
      refine TL.nil ?_
      refine TN.blockN ?_
      refine TN.seq ?_
      refine TC.region ?_
      refine TL.op (yq (y_move (ev_t rfl))) rfl rfl rfl ?_
      refine TL.op (yq (y_add (ev_t rfl) ev_c (by unfold In64; omega))) rfl rfl rfl ?_
      refine TL.op (yq (y_assign (ev_t rfl))) rfl rfl rfl ?_
      refine TL.nil ?_
      exact TN.hand (mf1, i1, (i1 + 1)) ⟨(by first | omega | (simp [-List.getD_eq_getElem?_getD] <;> omega)), (by first | omega | (simp [-List.getD_eq_getElem?_getD] <;> omega)), (by first | omega | (simp [-List.getD_eq_getElem?_getD] <;> omega)), (by omega), hL1⟩ (Nat.lt_succ_self _) ⟨rfl, rfl, rfl, rfl, rfl, rfl, trivial⟩ (fun w hw => hw)
    · rw [bif_neg h31] at hL1
      have q32 := (of_decide_eq_false h31)
      refine TC.skip ?_
      refine TN.blockN ?_
      refine TN.seq ?_
      refine TC.region ?_
      refine TL.op (yq (y_move (ev_t rfl))) rfl rfl rfl ?_
      refine TL.op (yq (y_add (ev_t rfl) ev_c (by unfold In64; omega))) rfl rfl rfl ?_
      refine TL.op (yq (y_assign (ev_t rfl))) rfl rfl rfl ?_
      refine TL.nil ?_
      exact TN.hand (mf1, at1, (i1 + 1)) ⟨(by first | omega | (simp [-List.getD_eq_getElem?_getD] <;> omega)), (by first | omega | (simp [-List.getD_eq_getElem?_getD] <;> omega)), (by first | omega | (simp [-List.getD_eq_getElem?_getD] <;> omega)), (by omega), hL1⟩ (Nat.lt_succ_self _) ⟨rfl, rfl, rfl, rfl, rfl, rfl, trivial⟩ (fun w hw => hw)
  · rw [bif_neg h23] at hL1
    have q24 := (of_decide_eq_false h23)
    refine TC.exit ?_
    refine TN.thenE ?_
    refine TN.thenE ?_
    rw [← hL1, elim_next] at hF
    try dsimp only at hF
    refine TN.blockH ?_
    refine TN.seq ?_
    refine TC.seq ?_
    refine TC.region ?_
    refine TL.op (yq (y_move (ev_t rfl))) rfl rfl rfl ?_
    refine TL.op (yq (y_assign (ev_t rfl))) rfl rfl rfl ?_
    refine TL.nil ?_
    refine TN.seq ?_
    refine TC.ret ?_
    subst hF
    exact TN.ret1 rfl (ev_t rfl) (fun w' hw => ⟨rfl, Hp.sublist hw (List.nil_sublist _)⟩)

set_option maxRecDepth 4000 in
set_option maxHeartbeats 1000000 in
theorem spec_FarConfig_ok (w : World) (vm : Value) (um : List Value) (m : List (List Int)) (hm : RII w vm um m) (k : Int) (vwk : Value) (wk : List Int) (hwk : RI w vwk wk) (r : Int)  :
    Calls Try.prog 22 ([(.agg #[vm]), (.int .i64 k), vwk, (.int .i64 r)] : List Value).toArray w (fun e w' => ∃ i : Value, e = .returned (.tuple #[i, (.bool ((F_spec_FarConfig m k wk r).2))]) ∧ Hp w [rowI 3 i ((F_spec_FarConfig m k wk r).1)] w') := by
  obtain ⟨rz, hF⟩ : ∃ rz, (F_spec_FarConfig m k wk r) = rz := ⟨_, rfl⟩
  rw [hF]
  unfold F_spec_FarConfig at hF
  have hlen_m := argT_len hm
  have hlen_wk := arg_len hwk
  refine calls_tc Try.func22 rfl rfl rfl ?_
  change TC _ _ _ _ (Hp w []) [(0, (.agg #[vm])), (1, (.int .i64 k)), (2, vwk), (3, (.int .i64 r))]
  refine TC.seq ?_
  refine TC.region ?_
  refine TL.box (ev_t rfl) rfl (fun g0_0 => ?_)
  refine TL.op (yq (y_assign ev_c)) rfl rfl rfl ?_
  refine TL.op (yq (y_assign ev_c)) rfl rfl rfl ?_
  refine TL.nil ?_
  refine TN.seq ?_
  refine TC.seq ?_
  refine TC.seq ?_
  refine TC.region ?_
  refine TL.op (yq (y_ldagg (cs := [vm]) 0 (ev_t rfl) agg_29 rfl)) rfl rfl rfl ?_
  refine TL.op (yq (y_move (ev_t rfl))) rfl rfl rfl ?_
  refine TL.op (yq (y_move (ev_t rfl))) rfl rfl rfl ?_
  refine TL.op (yq (y_move (ev_t rfl))) rfl rfl rfl ?_
  refine TL.op (y_call (vs := [(.agg #[vm]), (.int .i64 k), vwk, (.int .i64 r)]) (v := (.bool (F_spec_l7Given m k wk r))) en_58 ⟨(ev_t rfl), (ev_t rfl), (ev_t rfl), (ev_t rfl), trivial⟩ (fun w hw => spec_l7Given_ok w vm um m ((rii_arg hm) w hw) k vwk wk ((ri_arg hwk) w hw) r)) rfl rfl rfl ?_
  refine TL.op (yq (y_not (ev_t rfl))) rfl rfl rfl ?_
  refine TL.nil ?_
  refine TN.seq ?_
  refine TC.cond (b := !(F_spec_l7Given m k wk r)) (ev_t rfl) (fun h4 => ?_) (fun h4 => ?_)
  · rw [bif_pos h4] at hF
    have q5 := (not_t h4)
    refine TC.seq ?_
    refine TC.region ?_
    refine TL.buildI (zs := []) (qs := []) slT_25 rfl trivial rfl (by decide) rfl (fun v2_0 => ?_)
    refine TL.op (yq (y_assign (ev_t rfl))) rfl rfl rfl ?_
    refine TL.op (yq (y_assign ev_c)) rfl rfl rfl ?_
    refine TL.nil ?_
    refine TN.seq ?_
    refine TC.ret ?_
    refine TN.thenR ?_
    subst hF
    exact TN.ret2 rfl (ev_t rfl) (ev_t rfl) (fun w' hw => ⟨v2_0, rfl, Hp.sublist hw (.cons_cons _ (.cons _ .slnil))⟩)
  · rw [bif_neg h4] at hF
    have q5 := (l7Given_t (not_f h4))
    have hGv := q5
    have hKs := hGv.ks
    have hgl := hGv.len
    have hwb : ∀ i, 0 ≤ wk.getD i 0 ∧ wk.getD i 0 ≤ 1073741824 := fun i => by have := hGv.el i; omega
    have hr0 : 0 ≤ r ∧ r < m.length := ⟨hGv.r0, hGv.rn⟩
    have hKc := hKs.ksc
    have h56 := hKs.s56
    have hfl := far_lt (m := m) h56.1 wk r
    have hn6 := hKs.tab.n6
    have hk3 := hKs.k3
    refine TC.skip ?_
    refine TN.seq ?_
    refine TC.seq ?_
    refine TC.region ?_
    refine TL.op (yq (y_fa (fa_29_0 g0_0) (ev_t rfl))) rfl rfl rfl ?_
    refine TL.op (yq (y_ldb 0 (ev_t rfl) one_22 rfl rfl)) rfl rfl rfl ?_
    refine TL.op (yq (y_len (ev_t rfl) Try.underlying22 (fun w hw => ((fun w hw => ((rii_arg hm) w hw).1) w hw).ln))) rfl rfl rfl ?_
    refine TL.op (yq (y_move (ev_t rfl))) rfl rfl rfl ?_
    refine TL.callr (ι := Value × List Value) (vs := [(.int .i64 (m.length : Int)), (.int .i64 k)]) (fun i => i.1) (fun i => [tabI 25 3 i.1 i.2 (F_spec_l6Configs (m.length : Int) k)]) en_54 ⟨(ev_t rfl), (ev_t rfl), trivial⟩ rfl (fun w hw => spec_l6Configs_ok w (m.length : Int) k (by first | assumption | omega | grind) (by first | assumption | omega | grind)) (fun r3_4 => ?_)
    refine TL.op (yq (y_assign (ev_t rfl))) rfl rfl rfl ?_
    refine TL.nil ?_
    refine TN.seq ?_
    refine TC.seq ?_
    refine TC.region ?_
    refine TL.op (yq (y_move (ev_t rfl))) rfl rfl rfl ?_
    refine TL.op (yq (y_ldagg (cs := [vm]) 1 (ev_t rfl) agg_29 rfl)) rfl rfl rfl ?_
    refine TL.op (yq (y_move (ev_t rfl))) rfl rfl rfl ?_
    refine TL.op (yq (y_move (ev_t rfl))) rfl rfl rfl ?_
    refine TL.op (yq (y_move (ev_t rfl))) rfl rfl rfl ?_
    refine TL.op (y_call (vs := [(.agg #[vm]), r3_4.1, vwk, (.int .i64 r)]) (v := (.int .i64 (F_spec_l7Far m (F_spec_l6Configs (m.length : Int) k) wk r))) en_59 ⟨(ev_t rfl), (ev_t rfl), (ev_t rfl), (ev_t rfl), trivial⟩ (fun w hw => spec_l7Far_ok w vm um m ((rii_arg hm) w hw) r3_4.1 r3_4.2 (F_spec_l6Configs (m.length : Int) k) ((rii_tab 0 rfl) w hw) vwk wk ((ri_arg hwk) w hw) r (by first | assumption | omega | grind) (by first | assumption | omega | grind) (by first | assumption | omega | grind) (by first | assumption | omega | grind))) rfl rfl rfl ?_
    have hb6 : ((F_spec_l7Far m (F_spec_l6Configs (m.length : Int) k) wk r)).toNat < (F_spec_l6Configs (m.length : Int) k).length := (by first | omega | (simp only [List.length_set, List.length_append, List.length_cons, List.length_nil, List.length_replicate]; omega) | (rw [sortI_length]; simp only [List.length_cons, List.length_nil]; omega))
    refine TL.op (yq (y_idx (k := ((F_spec_l7Far m (F_spec_l6Configs (m.length : Int) k) wk r)).toNat) (ev_t rfl) (ev_t rfl) (by first | omega | simp) slT_22 (fun w hw => ((rii_tab 0 rfl) w hw).1) hb6)) rfl rfl rfl ?_
    refine TL.op (yq (y_ldT 0 (ev_t rfl) one_25 rfl hb6)) rfl rfl rfl ?_
    refine TL.op (yq (y_assign (ev_t rfl))) rfl rfl rfl ?_
    refine TL.op (yq (y_assign ev_c)) rfl rfl rfl ?_
    refine TL.nil ?_
    refine TN.seq ?_
    refine TC.ret ?_
    subst hF
    refine TN.cls (fun w hw => ext_row 0 rfl hb6 hw) ?_
    exact TN.ret2 rfl (ev_t rfl) (ev_t rfl) (fun w' hw => ⟨(r3_4.2.getD (((F_spec_l7Far m (F_spec_l6Configs (m.length : Int) k) wk r)).toNat) undef), rfl, hw⟩)


end Go.Proofs.Ytilmadapmcnlgaa
