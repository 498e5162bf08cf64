/-
  Walks of functions of the program: each computes its plain function. No condition but the bounds that are typed.
-/
import Derived.Test.YtilmadapmcnlgaaFnW
import Derived.Test.YtilmadapmcnlgaaHeld
import Derived.Test.YtilmadapmcnlgaaLawFar
namespace Go.Proofs.Ytilmadapmcnlgaa
open Go Go.RowKit

set_option maxRecDepth 4000 in
set_option maxHeartbeats 1000000 in
theorem slices_Repeat_Sint_int_ok (w : World) (vx : Value) (x : List Int) (hx : RI w vx x) (count : Int) (hp0 : x.length = 1) (hp1 : 0 ≤ count) (hp2 : count ≤ 1000000) :
    Calls Try.prog 82 ([vx, (.int .i64 count)] : List Value).toArray w (fun e w' => ∃ i : Value, e = .returned i ∧ Hp w [rowI 3 i (F_slices_Repeat_Sint_int x count)] w') := by
  obtain ⟨rz, hF⟩ : ∃ rz, (F_slices_Repeat_Sint_int x count) = rz := ⟨_, rfl⟩
  rw [hF]
  unfold F_slices_Repeat_Sint_int at hF
  have hmu := mulU_one hp0 hp1 hp2
  have hmu1 := hmu.1
  have hmu2 := hmu.2
  have hlen_x := arg_len hx
  refine calls_tc Try.func82 rfl rfl rfl ?_
  change TC _ _ _ _ (Hp w []) [(0, vx), (1, (.int .i64 count))]
  refine TC.seq ?_
  refine TC.region ?_
  refine TL.op (yq (y_assign ev_c)) rfl rfl rfl ?_
  refine TL.nil ?_
  refine TN.seq ?_
  obtain ⟨c57, hcj1⟩ : ∃ c, ((bif decide (count < 0) then default else (Ctl.next ())) : Ctl (Unit) (List Int)) = c := ⟨_, rfl⟩
  rw [hcj1] at hF
  refine TC.cut (fun a' w' => Slots 48 [(0, vx), (1, (.int .i64 count))] a' ∧ Hp w [] w' ∧ (Ctl.next () : Ctl (Unit) (List Int)) = c57) ?_ ?_
  · refine TC.seq ?_
    refine TC.region ?_
    refine TL.op (yq (y_move (ev_t rfl))) rfl rfl rfl ?_
    refine TL.op (yq (y_lss (ev_t rfl) ev_c)) rfl rfl rfl ?_
    refine TL.nil ?_
    refine TN.seq ?_
    refine TC.cond (b := decide (count < 0)) (ev_t rfl) (fun h58 => ?_) (fun h58 => ?_)
    · rw [bif_pos h58] at hcj1
      have q59 := (of_decide_eq_true h58)
      exfalso; omega
    · rw [bif_neg h58] at hcj1
      have q59 := (of_decide_eq_false h58)
      refine TC.skip ?_
      exact fun a' w' hs hw => ⟨hs.sub ⟨rfl, rfl, trivial⟩, hw, hcj1⟩
  · rintro a' w' ⟨hs', hw', hdj1⟩
    rw [← hdj1, elim_next] at hF
    try dsimp only at hF
    refine (?_ : TC _ _ _ 48 (Hp w []) [(0, vx), (1, (.int .i64 count))]) a' w' hs' hw'
    clear hs' hw' hcj1
    refine TC.seq ?_
    refine TC.region ?_
    refine TL.op (yq (y_move (ev_t rfl))) rfl rfl rfl ?_
    refine TL.op (yq (y_len (ev_t rfl) Try.underlying25 (fun w hw => ((ri_arg hx) w hw).ln))) rfl rfl rfl ?_
    refine TL.op (yq (y_conv_u64 (ev_t rfl) Try.underlying3 Try.underlying106 (by first | omega | (simp only [List.length_set, List.length_append, List.length_cons, List.length_nil, List.length_replicate]; omega) | (rw [sortI_length]; simp only [List.length_cons, List.length_nil]; omega)))) rfl rfl rfl ?_
    refine TL.op (yq (y_move (ev_t rfl))) rfl rfl rfl ?_
    refine TL.op (yq (y_conv_u64 (ev_t rfl) Try.underlying3 Try.underlying106 (by first | omega | (simp only [List.length_set, List.length_append, List.length_cons, List.length_nil, List.length_replicate]; omega) | (rw [sortI_length]; simp only [List.length_cons, List.length_nil]; omega)))) rfl rfl rfl ?_
    refine TL.op (y_call (vs := [(.int .u64 (x.length : Int)), (.int .u64 count)]) (v := (.tuple #[(.int .u64 ((mulU (x.length : Int) count).1)), (.int .u64 ((mulU (x.length : Int) count).2))])) en_117 ⟨(ev_t rfl), (ev_t rfl), trivial⟩ (fun w hw => bits_Mul_ok w (x.length : Int) count (by omega) (by omega) (by omega) (by omega))) rfl rfl rfl ?_
    refine TL.op (yq (y_move (ev_t rfl))) rfl rfl rfl ?_
    refine TL.op (yq (y_extract (ev_t rfl) rfl)) rfl rfl rfl ?_
    refine TL.op (yq (y_extract (ev_t rfl) rfl)) rfl rfl rfl ?_
    refine TL.op (yq (y_assign (ev_t rfl))) rfl rfl rfl ?_
    refine TL.op (yq (y_assign (ev_t rfl))) rfl rfl rfl ?_
    refine TL.nil ?_
    refine TN.seq ?_
    obtain ⟨c62, hcj4⟩ : ∃ c, ((bif ((decide (0 < (mulU (x.length : Int) count).1)) || (decide (9223372036854775807 < (mulU (x.length : Int) count).2))) then default else (Ctl.next ())) : Ctl (Unit) (List Int)) = c := ⟨_, rfl⟩
    rw [hcj4] at hF
    refine TC.cut (fun a' w' => Slots 48 [(0, vx), (6, (.int .u64 ((mulU (x.length : Int) count).2)))] a' ∧ Hp w [] w' ∧ (Ctl.next () : Ctl (Unit) (List Int)) = c62) ?_ ?_
    · refine TC.seq ?_
      refine TC.region ?_
      refine TL.op (yq (y_move (ev_t rfl))) rfl rfl rfl ?_
      refine TL.op (yq (y_gtr (ev_t rfl) ev_c)) rfl rfl rfl ?_
      refine TL.op (yq (y_move (ev_t rfl))) rfl rfl rfl ?_
      refine TL.opw (w_f rfl rfl rfl) (fun hg => yq (y_move (ev_t rfl))) rfl rfl ?_
      refine TL.opw (w_f rfl rfl rfl) (fun hg => yq (y_gtr (ev_g rfl hg) ev_c)) rfl rfl ?_
      refine TL.op (yq (y_or (ev_t rfl) (fun hq => (ev_g rfl hq)))) rfl rfl rfl ?_
      refine TL.nil ?_
      refine TN.seq ?_
      refine TC.cond (b := ((decide (0 < (mulU (x.length : Int) count).1)) || (decide (9223372036854775807 < (mulU (x.length : Int) count).2)))) (ev_t rfl) (fun h63 => ?_) (fun h63 => ?_)
      · rw [bif_pos h63] at hcj4
        have q64 := ((or_t h63).imp (fun h => (of_decide_eq_true h)) (fun h => (of_decide_eq_true h)))
        exfalso; omega
      · rw [bif_neg h63] at hcj4
        have q64 := (and_imp (or_f h63) (fun h => (of_decide_eq_false h)) (fun h => (of_decide_eq_false h)))
        refine TC.skip ?_
        exact fun a' w' hs hw => ⟨hs.sub ⟨rfl, rfl, trivial⟩, hw, hcj4⟩
    · rintro a' w' ⟨hs', hw', hdj4⟩
      rw [← hdj4, elim_next] at hF
      try dsimp only at hF
      refine (?_ : TC _ _ _ 48 (Hp w []) [(0, vx), (6, (.int .u64 ((mulU (x.length : Int) count).2)))]) a' w' hs' hw'
      clear hs' hw' hcj4
      refine TC.seq ?_
      refine TC.region ?_
      refine TL.op (yq (y_move (ev_t rfl))) rfl rfl rfl ?_
      refine TL.op (yq (y_conv_i64 (ev_t rfl) Try.underlying106 Try.underlying3 (by first | omega | (simp only [List.length_set, List.length_append, List.length_cons, List.length_nil, List.length_replicate]; omega) | (rw [sortI_length]; simp only [List.length_cons, List.length_nil]; omega)))) rfl rfl rfl ?_
      refine TL.makeSlice (n := ((mulU (x.length : Int) count).2).toNat) (ev_t rfl) (ev_t rfl) (by omega) slT_25 rfl (by omega) (by unfold maxLen; omega) rfl (fun v6_2 => ?_)
      refine TL.cls (fun w hw => hw.zeros) ?_
      refine TL.op (yq (y_assign (ev_t rfl))) rfl rfl rfl ?_
      refine TL.nil ?_
      refine TN.seq ?_
      refine TC.seq ?_
      refine TC.region ?_
      refine TL.op (yq (y_move (ev_t rfl))) rfl rfl rfl ?_
      refine TL.op (yq (y_move (ev_t rfl))) rfl rfl rfl ?_
      refine TL.copyW 0 (qs := x) (ev_t rfl) (ev_t rfl) rfl slT_25 (ri_arg hx) rfl ?_
      refine TL.op (yq (y_assign (ev_t rfl))) rfl rfl rfl ?_
      refine TL.nil ?_
      refine TN.seq ?_
      refine TC.seq ?_
      refine TC.block ?_
      have hd0 : (x.take (List.replicate (((mulU (x.length : Int) count).2).toNat) (0 : Int)).length ++ (List.replicate (((mulU (x.length : Int) count).2).toNat) (0 : Int)).drop (min x.length (List.replicate (((mulU (x.length : Int) count).2).toNat) (0 : Int)).length)).length = count.toNat := by simp; omega
      have hd3 : (List.replicate (((mulU (x.length : Int) count).2).toNat) (0 : Int)).length = count.toNat := by simp; omega
      obtain ⟨c65, hc66⟩ : ∃ c, F_slices_Repeat_Sint_int_L1  (((x.take (List.replicate (((mulU (x.length : Int) count).2).toNat) (0 : Int)).length ++ (List.replicate (((mulU (x.length : Int) count).2).toNat) (0 : Int)).drop (min x.length (List.replicate (((mulU (x.length : Int) count).2).toNat) (0 : Int)).length)).length - (min x.length (List.replicate (((mulU (x.length : Int) count).2).toNat) (0 : Int)).length)) + 1) ((min x.length (List.replicate (((mulU (x.length : Int) count).2).toNat) (0 : Int)).length), (x.take (List.replicate (((mulU (x.length : Int) count).2).toNat) (0 : Int)).length ++ (List.replicate (((mulU (x.length : Int) count).2).toNat) (0 : Int)).drop (min x.length (List.replicate (((mulU (x.length : Int) count).2).toNat) (0 : Int)).length))) = c := ⟨_, rfl⟩
      rw [hc66] at hF
      refine TC.loop (ι := Nat × Nat × List Int) (fun (fu1, n1, newslice1) => [(7, v6_2), (8, (.int .i64 (n1 : Int)))]) (fun (fu1, n1, newslice1) => Hp w [rowI 3 v6_2 newslice1]) (fun (fu1, n1, newslice1) => (n1 ≤ newslice1.length) ∧ (0 < n1 ∨ newslice1.length = 0) ∧ (newslice1.length ≤ 1000000) ∧ newslice1.length - n1 < fu1 ∧ F_slices_Repeat_Sint_int_L1  fu1 (n1, newslice1) = c65) (fun (fu1, n1, newslice1) => fu1) (((x.take (List.replicate (((mulU (x.length : Int) count).2).toNat) (0 : Int)).length ++ (List.replicate (((mulU (x.length : Int) count).2).toNat) (0 : Int)).drop (min x.length (List.replicate (((mulU (x.length : Int) count).2).toNat) (0 : Int)).length)).length - (min x.length (List.replicate (((mulU (x.length : Int) count).2).toNat) (0 : Int)).length)) + 1, (min x.length (List.replicate (((mulU (x.length : Int) count).2).toNat) (0 : Int)).length), (x.take (List.replicate (((mulU (x.length : Int) count).2).toNat) (0 : Int)).length ++ (List.replicate (((mulU (x.length : Int) count).2).toNat) (0 : Int)).drop (min x.length (List.replicate (((mulU (x.length : Int) count).2).toNat) (0 : Int)).length))) ⟨(by first | omega | (simp [-List.getD_eq_getElem?_getD] <;> omega)), (by first | omega | (simp [-List.getD_eq_getElem?_getD] <;> omega)), (by first | omega | (simp [-List.getD_eq_getElem?_getD] <;> omega)), (by omega), hc66⟩ ⟨rfl, rfl, trivial⟩ (fun w hw => hw) ?_
      rintro ⟨fu1, n1, newslice1⟩ hJ1
      obtain ⟨hi1_0, hi1_1, hi1_2, hmu1, hL1⟩ : (n1 ≤ newslice1.length) ∧ (0 < n1 ∨ newslice1.length = 0) ∧ (newslice1.length ≤ 1000000) ∧ newslice1.length - n1 < fu1 ∧ F_slices_Repeat_Sint_int_L1  fu1 (n1, newslice1) = c65 := hJ1
      change TC _ _ _ _ (Hp w [rowI 3 v6_2 newslice1]) [(7, v6_2), (8, (.int .i64 (n1 : Int)))]
      obtain ⟨mf1, rfl⟩ : ∃ m, fu1 = m + 1 := ⟨fu1 - 1, by omega⟩
      rw [F_slices_Repeat_Sint_int_L1_s] at hL1
      have hd1 : ((newslice1.take n1).drop 0).length = n1 := by simp; omega
      have hd2 : (newslice1.take n1 ++ ((newslice1.take n1).drop 0).take (newslice1.length - n1) ++ newslice1.drop (n1 + (min ((newslice1.take n1).drop 0).length (newslice1.length - n1)))).length = newslice1.length := by simp; omega
      refine TC.seq ?_
      refine TC.seq ?_
      refine TC.region ?_
      refine TL.op (yq (y_move (ev_t rfl))) rfl rfl rfl ?_
      refine TL.op (yq (y_move (ev_t rfl))) rfl rfl rfl ?_
      refine TL.op (yq (y_len (ev_t rfl) Try.underlying25 (fun w hw => ((ri_row 0 rfl) w hw).ln))) rfl rfl rfl ?_
      refine TL.op (yq (y_lss (ev_t rfl) (ev_t rfl))) rfl rfl rfl ?_
      refine TL.nil ?_
      refine TN.seq ?_
      refine TC.cond (b := decide ((n1 : Int) < (newslice1.length : Int))) (ev_t rfl) (fun h67 => ?_) (fun h67 => ?_)
      · rw [bif_pos h67] at hL1
        have q68 := (of_decide_eq_true h67)
        refine TC.skip ?_
        refine TN.seq ?_
        refine TC.block ?_
        refine TC.mid (fun a' w' => Slots 48 [(7, v6_2), (8, (.int .i64 ((n1 : Int) + ((min ((newslice1.take n1).drop 0).length (newslice1.length - n1)) : Nat))))] a' ∧ Hp w [rowI 3 v6_2 (newslice1.take n1 ++ ((newslice1.take n1).drop 0).take (newslice1.length - n1) ++ newslice1.drop (n1 + (min ((newslice1.take n1).drop 0).length (newslice1.length - n1))))] w') ?_ ?_
        · refine TC.regionH 10 (Hp w []) rfl (by kernel_rfl) dr_hp (fun w hw => Hp.sublist hw (List.nil_sublist _)) ?_
          refine TH.take 0 rfl (by kernel_rfl) (y_move (ev_t rfl)) rfl rfl rfl ?_
          refine TH.take 1 rfl (by kernel_rfl) (y_move (ev_t rfl)) rfl rfl rfl ?_
          refine TH.take 2 rfl (by kernel_rfl) (y_move (ev_t rfl)) rfl rfl rfl ?_
          refine TH.take 4 rfl (by kernel_rfl) (y_move (ev_t rfl)) rfl rfl rfl ?_
          refine TH.take 5 rfl (by kernel_rfl) (y_move (ev_t rfl)) rfl rfl rfl ?_
          refine TH.loud2 3 6 rfl rfl (by kernel_rfl) ?_ ?_
          · have hs73 : n1 ≤ newslice1.length := (by first | omega | (simp only [List.length_set, List.length_append, List.length_cons, List.length_nil, List.length_replicate]; omega) | (rw [sortI_length]; simp only [List.length_cons, List.length_nil]; omega))
            have hs74 : newslice1.length ≤ newslice1.length := (by first | omega | (simp only [List.length_set, List.length_append, List.length_cons, List.length_nil, List.length_replicate]; omega) | (rw [sortI_length]; simp only [List.length_cons, List.length_nil]; omega))
            refine TL.op (yq (y_slice_lo (ev_t rfl) (ev_t rfl) (lo := n1) (by omega) slT_25 (ri_row 0 rfl) hs73)) rfl rfl rfl ?_
            refine TL.nil ?_
            refine TH.back (fun w hw => Hp.sublist hw (List.nil_sublist _)) ?_
            refine TH.loud 6 rfl (by kernel_rfl) ?_
            have hs75 : 0 ≤ n1 := (by first | omega | (simp only [List.length_set, List.length_append, List.length_cons, List.length_nil, List.length_replicate]; omega) | (rw [sortI_length]; simp only [List.length_cons, List.length_nil]; omega))
            have hs76 : n1 ≤ newslice1.length := (by first | omega | (simp only [List.length_set, List.length_append, List.length_cons, List.length_nil, List.length_replicate]; omega) | (rw [sortI_length]; simp only [List.length_cons, List.length_nil]; omega))
            refine TL.op (yq (y_slice_hi (ev_t rfl) (ev_t rfl) (hi := n1) (by omega) slT_25 (ri_row 0 rfl) hs76)) rfl rfl rfl ?_
            refine TL.nil ?_
            refine TH.back (fun w hw => Hp.sublist hw (List.nil_sublist _)) ?_
            refine TH.loud 7 rfl (by kernel_rfl) ?_
            refine TL.copyI 0 (lo := n1) (hi := newslice1.length) (qs := ((newslice1.take n1).drop 0)) (ev_t rfl) (ev_t rfl) rfl slT_25 (fun w hw => ri_resl ((ri_row 0 rfl) w hw) hs75 hs76) hs73 hs74 rfl ?_
            refine TL.nil ?_
            refine TH.back (fun w hw => Hp.sublist hw (List.nil_sublist _)) ?_
            refine TH.take 8 rfl (by kernel_rfl) (y_add (ev_t rfl) (ev_t rfl) (by unfold In64; omega)) rfl rfl rfl ?_
            refine TH.take 9 rfl (by kernel_rfl) (y_assign (ev_t rfl)) rfl rfl rfl ?_
            refine TH.done (by kernel_rfl) ?_
            exact fun a' w' hs hw => ⟨hs.sub ⟨rfl, rfl, trivial⟩, hw⟩
          · have hs77 : 0 ≤ n1 := (by first | omega | (simp only [List.length_set, List.length_append, List.length_cons, List.length_nil, List.length_replicate]; omega) | (rw [sortI_length]; simp only [List.length_cons, List.length_nil]; omega))
            have hs78 : n1 ≤ newslice1.length := (by first | omega | (simp only [List.length_set, List.length_append, List.length_cons, List.length_nil, List.length_replicate]; omega) | (rw [sortI_length]; simp only [List.length_cons, List.length_nil]; omega))
            refine TL.op (yq (y_slice_hi (ev_t rfl) (ev_t rfl) (hi := n1) (by omega) slT_25 (ri_row 0 rfl) hs78)) rfl rfl rfl ?_
            refine TL.nil ?_
            refine TH.back (fun w hw => Hp.sublist hw (List.nil_sublist _)) ?_
            refine TH.loud 3 rfl (by kernel_rfl) ?_
            have hs79 : n1 ≤ newslice1.length := (by first | omega | (simp only [List.length_set, List.length_append, List.length_cons, List.length_nil, List.length_replicate]; omega) | (rw [sortI_length]; simp only [List.length_cons, List.length_nil]; omega))
            have hs80 : newslice1.length ≤ newslice1.length := (by first | omega | (simp only [List.length_set, List.length_append, List.length_cons, List.length_nil, List.length_replicate]; omega) | (rw [sortI_length]; simp only [List.length_cons, List.length_nil]; omega))
            refine TL.op (yq (y_slice_lo (ev_t rfl) (ev_t rfl) (lo := n1) (by omega) slT_25 (ri_row 0 rfl) hs79)) rfl rfl rfl ?_
            refine TL.nil ?_
            refine TH.back (fun w hw => Hp.sublist hw (List.nil_sublist _)) ?_
            refine TH.loud 7 rfl (by kernel_rfl) ?_
            refine TL.copyI 0 (lo := n1) (hi := newslice1.length) (qs := ((newslice1.take n1).drop 0)) (ev_t rfl) (ev_t rfl) rfl slT_25 (fun w hw => ri_resl ((ri_row 0 rfl) w hw) hs77 hs78) hs79 hs80 rfl ?_
            refine TL.nil ?_
            refine TH.back (fun w hw => Hp.sublist hw (List.nil_sublist _)) ?_
            refine TH.take 8 rfl (by kernel_rfl) (y_add (ev_t rfl) (ev_t rfl) (by unfold In64; omega)) rfl rfl rfl ?_
            refine TH.take 9 rfl (by kernel_rfl) (y_assign (ev_t rfl)) rfl rfl rfl ?_
            refine TH.done (by kernel_rfl) ?_
            exact fun a' w' hs hw => ⟨hs.sub ⟨rfl, rfl, trivial⟩, hw⟩
        · rintro a' w' ⟨hs', hw'⟩
          refine (?_ : TN _ .normal 48 (Hp w [rowI 3 v6_2 (newslice1.take n1 ++ ((newslice1.take n1).drop 0).take (newslice1.length - n1) ++ newslice1.drop (n1 + (min ((newslice1.take n1).drop 0).length (newslice1.length - n1))))]) [(7, v6_2), (8, (.int .i64 ((n1 : Int) + ((min ((newslice1.take n1).drop 0).length (newslice1.length - n1)) : Nat))))]) a' w' hs' hw'
          clear hs' hw'
          refine TN.blockN ?_
          exact TN.hand (mf1, (n1 + (min ((newslice1.take n1).drop 0).length (newslice1.length - n1))), (newslice1.take n1 ++ ((newslice1.take n1).drop 0).take (newslice1.length - n1) ++ newslice1.drop (n1 + (min ((newslice1.take n1).drop 0).length (newslice1.length - n1))))) ⟨(by first | omega | (simp [-List.getD_eq_getElem?_getD] <;> omega)), (by first | omega | (simp [-List.getD_eq_getElem?_getD] <;> omega)), (by first | omega | (simp [-List.getD_eq_getElem?_getD] <;> omega)), (by omega), hL1⟩ (Nat.lt_succ_self _) ⟨rfl, rfl, trivial⟩ (fun w hw => hw)
      · rw [bif_neg h67] at hL1
        have q68 := (of_decide_eq_false h67)
        refine TC.exit ?_
        refine TN.thenE ?_
        refine TN.thenE ?_
        rw [← hL1, elim_next] at hF
        try dsimp only at hF
        refine TN.blockH ?_
        refine TN.seq ?_
        refine TC.seq ?_
        refine TC.region ?_
        refine TL.op (yq (y_move (ev_t rfl))) rfl rfl rfl ?_
        refine TL.op (yq (y_assign (ev_t rfl))) rfl rfl rfl ?_
        refine TL.nil ?_
        refine TN.seq ?_
        refine TC.ret ?_
        subst hF
        exact TN.ret1 rfl (ev_t rfl) (fun w' hw => ⟨v6_2, rfl, hw⟩)

set_option maxRecDepth 4000 in
set_option maxHeartbeats 1000000 in
theorem impl_isSmall_ok (w : World) (vl : Value) (l : List Int) (hl : RI w vl l)  :
    Calls Try.prog 79 ([vl] : List Value).toArray w (Ret (.bool (F_impl_isSmall l)) (Hp w [])) := by
  obtain ⟨rz, hF⟩ : ∃ rz, (F_impl_isSmall l) = rz := ⟨_, rfl⟩
  rw [hF]
  unfold F_impl_isSmall at hF
  have hlen_l := arg_len hl
  refine calls_tc Try.func79 rfl rfl rfl ?_
  change TC _ _ _ _ (Hp w []) [(0, vl)]
  refine TC.seq ?_
  refine TC.region ?_
  refine TL.op (yq (y_assign ev_c)) rfl rfl rfl ?_
  refine TL.nil ?_
  refine TN.seq ?_
  refine TC.seq ?_
  refine TC.region ?_
  refine TL.op (yq (y_move (ev_t rfl))) rfl rfl rfl ?_
  refine TL.op (y_call (vs := [(.int .i64 100000), vl]) (v := (.bool (F_impl_areBelow 100000 l))) en_101 ⟨ev_c, (ev_t rfl), trivial⟩ (fun w hw => impl_areBelow_ok w 100000 vl l ((ri_arg hl) w hw) (by first | assumption | omega | grind) (by first | assumption | omega | grind))) rfl rfl rfl ?_
  refine TL.op (yq (y_assign (ev_t rfl))) rfl rfl rfl ?_
  refine TL.nil ?_
  refine TN.seq ?_
  refine TC.ret ?_
  subst hF
  exact TN.ret1 rfl (ev_t rfl) (fun w' hw => ⟨rfl, hw⟩)

set_option maxRecDepth 4000 in
set_option maxHeartbeats 1000000 in
theorem impl_works_next_ok (w : World) (gx : Nat) (vx0 : Value) (vx1 : Value) (ux1 : List Value) (xc1 : List (List Int)) (vx2 : Value) (ux2 : List Value) (xc2 : List (List Int)) (hx : BlkAt w gx [vx0, vx1, vx2]) (hrx1 : RII w vx1 ux1 xc1) (hrx2 : RII w vx2 ux2 xc2) (vwk : Value) (wk : List Int) (hwk : RI w vwk wk) (r : Int) (hp0 : Wd xc1 xc2) (hp1 : wk.length = xc1.length) (hp2 : ∀ i, 0 ≤ wk.getD i 0 ∧ wk.getD i 0 ≤ 1073741824) :
    Calls Try.prog 83 ([(.pointer (some ⟨gx, 0, none⟩)), vwk, (.int .i64 r)] : List Value).toArray w (fun e w' => ∃ i : Value, e = .returned i ∧ Hp w [rowI 3 i (F_impl_works_next xc1 xc2 wk r)] w') := by
  obtain ⟨rz, hF⟩ : ∃ rz, (F_impl_works_next xc1 xc2 wk r) = rz := ⟨_, rfl⟩
  rw [hF]
  unfold F_impl_works_next at hF
  have hdl := hp0.len
  have h56 := hp0.n56
  have hlen_x1 := argT_len hrx1
  have hlen_x2 := argT_len hrx2
  have hlen_wk := arg_len hwk
  refine calls_tc Try.func83 rfl rfl rfl ?_
  change TC _ _ _ _ (Hp w []) [(0, (.pointer (some ⟨gx, 0, none⟩))), (1, vwk), (2, (.int .i64 r))]
  refine TC.seq ?_
  refine TC.region ?_
  refine TL.op (yq (y_assign ev_c)) rfl rfl rfl ?_
  refine TL.nil ?_
  refine TN.seq ?_
  refine TC.seq ?_
  refine TC.region ?_
  refine TL.buildI (zs := [.const (.int .i64 1073741824)]) (qs := [1073741824]) slT_25 rfl ⟨ev_c, trivial⟩ rfl (by decide) rfl (fun v1_0 => ?_)
  refine TL.op (yq (y_move (ev_t rfl))) rfl rfl rfl ?_
  refine TL.op (yq (y_len (ev_t rfl) Try.underlying25 (fun w hw => ((ri_arg hwk) w hw).ln))) rfl rfl rfl ?_
  refine TL.callr (ι := Value) (vs := [v1_0, (.int .i64 (wk.length : Int))]) (fun i => i) (fun i => [rowI 3 i (F_slices_Repeat_Sint_int ([1073741824]) (wk.length : Int))]) en_82 ⟨(ev_t rfl), (ev_t rfl), trivial⟩ rfl (fun w hw => slices_Repeat_Sint_int_ok w v1_0 ([1073741824]) ((ri_row 0 rfl) w hw) (wk.length : Int) (by first | omega | rfl) (by first | omega | rfl) (by first | omega | rfl)) (fun r1_3 => ?_)
  refine TL.op (yq (y_assign (ev_t rfl))) rfl rfl rfl ?_
  refine TL.nil ?_
  refine TN.seq ?_
  refine TC.seq ?_
  refine TC.seq ?_
  refine TC.region ?_
  refine TL.op (yq (y_move (ev_t rfl))) rfl rfl rfl ?_
  refine TL.op (yq (y_nilp (ev_t rfl))) rfl rfl rfl ?_
  refine TL.op (yq (y_fa (fa_70_1 gx) (ev_t rfl))) rfl rfl rfl ?_
  refine TL.op (yq (y_ldk (ev_t rfl) one_22 hx rfl)) rfl rfl rfl ?_
  refine TL.op (yq (y_len (ev_t rfl) Try.underlying22 (fun w hw => ((fun w hw => ((rii_arg hrx1) w hw).1) w hw).ln))) rfl rfl rfl ?_
  refine TL.op (yq (y_move ev_c)) rfl rfl rfl ?_
  refine TL.nil ?_
  refine TN.seq ?_
  refine TC.block ?_
  obtain ⟨c59, hc60⟩ : ∃ c, F_impl_works_next_L1 xc1 xc2 wk r ((xc1.length - 0) + 1) (0, (F_slices_Repeat_Sint_int ([1073741824]) (wk.length : Int))) = c := ⟨_, rfl⟩
  rw [hc60] at hF
  refine TC.loop (ι := Nat × Nat × List Int) (fun (fu1, k20_1, out1) => [(0, (.pointer (some ⟨gx, 0, none⟩))), (1, vwk), (2, (.int .i64 r)), (7, r1_3), (18, vx1), (19, (.int .i64 (xc1.length : Int))), (20, (.int .i64 (k20_1 : Int)))]) (fun (fu1, k20_1, out1) => Hp w [rowI 3 r1_3 out1]) (fun (fu1, k20_1, out1) => (k20_1 ≤ xc1.length) ∧ (out1.length = wk.length) ∧ (∀ i, 0 ≤ out1.getD i 0 ∧ out1.getD i 0 ≤ 1073741824) ∧ xc1.length - k20_1 < fu1 ∧ F_impl_works_next_L1 xc1 xc2 wk r fu1 (k20_1, out1) = c59) (fun (fu1, k20_1, out1) => fu1) ((xc1.length - 0) + 1, 0, (F_slices_Repeat_Sint_int ([1073741824]) (wk.length : Int))) ⟨(by first | omega | (simp [-List.getD_eq_getElem?_getD] <;> omega)), (by rw [repeat_eq _ _ (by omega) (by omega)]; simp), (rep_bd (by omega)), (by omega), hc60⟩ ⟨rfl, rfl, rfl, rfl, rfl, rfl, rfl, trivial⟩ (fun w hw => Hp.sublist hw (.cons_cons _ (.cons _ .slnil))) ?_
  rintro ⟨fu1, k20_1, out1⟩ hJ1
  obtain ⟨hi1_0, hi1_1, hi1_2, hmu1, hL1⟩ : (k20_1 ≤ xc1.length) ∧ (out1.length = wk.length) ∧ (∀ i, 0 ≤ out1.getD i 0 ∧ out1.getD i 0 ≤ 1073741824) ∧ xc1.length - k20_1 < fu1 ∧ F_impl_works_next_L1 xc1 xc2 wk r fu1 (k20_1, out1) = c59 := hJ1
  change TC _ _ _ _ (Hp w [rowI 3 r1_3 out1]) [(0, (.pointer (some ⟨gx, 0, none⟩))), (1, vwk), (2, (.int .i64 r)), (7, r1_3), (18, vx1), (19, (.int .i64 (xc1.length : Int))), (20, (.int .i64 (k20_1 : Int)))]
  obtain ⟨mf1, rfl⟩ : ∃ m, fu1 = m + 1 := ⟨fu1 - 1, by omega⟩
  rw [F_impl_works_next_L1_s] at hL1
  have hwj := hp2 k20_1
  have hrj := hp0.row k20_1
  refine TC.seq ?_
  refine TC.region ?_
  refine TL.op (yq (y_lss (ev_t rfl) (ev_t rfl))) rfl rfl rfl ?_
  refine TL.nil ?_
  refine TN.seq ?_
  refine TC.seq ?_
  refine TC.cond (b := decide ((k20_1 : Int) < (xc1.length : Int))) (ev_t rfl) (fun h61 => ?_) (fun h61 => ?_)
  · rw [bif_pos h61] at hL1
    have q62 := (of_decide_eq_true h61)
    refine TC.skip ?_
    refine TN.seq ?_
    refine TC.seq ?_
    refine TC.block ?_
    refine TC.seq ?_
    refine TC.region ?_
    refine TL.op (yq (y_move (ev_t rfl))) rfl rfl rfl ?_
    have hb63 : k20_1 < xc1.length := (by first | omega | (simp only [List.length_set, List.length_append, List.length_cons, List.length_nil, List.length_replicate]; omega) | (rw [sortI_length]; simp only [List.length_cons, List.length_nil]; omega))
    refine TL.op (yq (y_idx (k := k20_1) (ev_t rfl) (ev_t rfl) (by first | omega | simp) slT_22 (fun w hw => ((rii_arg hrx1) w hw).1) hb63)) rfl rfl rfl ?_
    have ha64 := hrx1.row (i := k20_1) hb63
    refine TL.op (yq (y_ldA (ev_t rfl) one_25 (rii_arg hrx1) hb63)) rfl rfl rfl ?_
    refine TL.op (yq (y_assign (ev_t rfl))) rfl rfl rfl ?_
    refine TL.op (yq (y_assign (ev_t rfl))) rfl rfl rfl ?_
    refine TL.nil ?_
    refine TN.seq ?_
    refine TC.seq ?_
    refine TC.seq ?_
    refine TC.region ?_
    refine TL.op (yq (y_move (ev_t rfl))) rfl rfl rfl ?_
    refine TL.op (yq (y_move (ev_t rfl))) rfl rfl rfl ?_
    refine TL.op (y_call (vs := [(ux1.getD k20_1 undef), (.int .i64 r)]) (v := (.bool (F_slices_Contains_Sint_int (xc1.getD k20_1 []) r))) en_92 ⟨(ev_t rfl), (ev_t rfl), trivial⟩ (fun w hw => slices_Contains_Sint_int_ok w (ux1.getD k20_1 undef) (xc1.getD k20_1 []) ((ri_arg ha64) w hw) r)) rfl rfl rfl ?_
    refine TL.op (yq (y_not (ev_t rfl))) rfl rfl rfl ?_
    refine TL.nil ?_
    refine TN.seq ?_
    refine TC.cond (b := !(F_slices_Contains_Sint_int (xc1.getD k20_1 []) r)) (ev_t rfl) (fun h65 => ?_) (fun h65 => ?_)
    · rw [bif_pos h65] at hL1
      have q66 := (not_t h65)
      refine TC.exit ?_
      refine TN.thenE ?_
      refine TN.blockH ?_
      refine TN.seq ?_
      refine TC.region ?_
      refine TL.op (yq (y_add (ev_t rfl) ev_c (by unfold In64; omega))) rfl rfl rfl ?_
      refine TL.op (yq (y_move (ev_t rfl))) rfl rfl rfl ?_
      refine TL.nil ?_
      exact TN.hand (mf1, (k20_1 + 1), out1) ⟨(by first | omega | (simp [-List.getD_eq_getElem?_getD] <;> omega)), (by first | exact hi1_1 | exact hi2_1), (by first | exact hi1_2 | exact hi2_2), (by omega), hL1⟩ (Nat.lt_succ_self _) ⟨rfl, rfl, rfl, rfl, rfl, rfl, rfl, trivial⟩ (fun w hw => hw)
    · rw [bif_neg h65] at hL1
      have q66 := (not_f h65)
      refine TC.skip ?_
      refine TN.seq ?_
      refine TC.seq ?_
      refine TC.region ?_
      refine TL.op (yq (y_move (ev_t rfl))) rfl rfl rfl ?_
      refine TL.op (yq (y_len (ev_t rfl) Try.underlying25 (fun w hw => ((ri_row 0 rfl) w hw).ln))) rfl rfl rfl ?_
      refine TL.op (yq (y_move ev_c)) rfl rfl rfl ?_
      refine TL.nil ?_
      refine TN.seq ?_
      refine TC.block ?_
      obtain ⟨c67, hc68⟩ : ∃ c, F_impl_works_next_L2 xc2 wk k20_1 out1 ((out1.length - 0) + 1) (0, out1) = c := ⟨_, rfl⟩
      rw [hc68] at hL1
      refine TC.loop (ι := Nat × Nat × List Int) (fun (fu2, k31_2, out2) => [(0, (.pointer (some ⟨gx, 0, none⟩))), (1, vwk), (2, (.int .i64 r)), (7, r1_3), (8, (.int .i64 (k20_1 : Int))), (18, vx1), (19, (.int .i64 (xc1.length : Int))), (20, (.int .i64 (k20_1 : Int))), (30, (.int .i64 (out1.length : Int))), (31, (.int .i64 (k31_2 : Int)))]) (fun (fu2, k31_2, out2) => Hp w [rowI 3 r1_3 out2]) (fun (fu2, k31_2, out2) => (k31_2 ≤ out1.length) ∧ (out2.length = wk.length) ∧ (∀ i, 0 ≤ out2.getD i 0 ∧ out2.getD i 0 ≤ 1073741824) ∧ out1.length - k31_2 < fu2 ∧ F_impl_works_next_L2 xc2 wk k20_1 out1 fu2 (k31_2, out2) = c67) (fun (fu2, k31_2, out2) => fu2) ((out1.length - 0) + 1, 0, out1) ⟨(by first | omega | (simp [-List.getD_eq_getElem?_getD] <;> omega)), hi1_1, hi1_2, (by omega), hc68⟩ ⟨rfl, rfl, rfl, rfl, rfl, rfl, rfl, rfl, rfl, rfl, trivial⟩ (fun w hw => hw) ?_
      rintro ⟨fu2, k31_2, out2⟩ hJ2
      obtain ⟨hi2_0, hi2_1, hi2_2, hmu2, hL2⟩ : (k31_2 ≤ out1.length) ∧ (out2.length = wk.length) ∧ (∀ i, 0 ≤ out2.getD i 0 ∧ out2.getD i 0 ≤ 1073741824) ∧ out1.length - k31_2 < fu2 ∧ F_impl_works_next_L2 xc2 wk k20_1 out1 fu2 (k31_2, out2) = c67 := hJ2
      change TC _ _ _ _ (Hp w [rowI 3 r1_3 out2]) [(0, (.pointer (some ⟨gx, 0, none⟩))), (1, vwk), (2, (.int .i64 r)), (7, r1_3), (8, (.int .i64 (k20_1 : Int))), (18, vx1), (19, (.int .i64 (xc1.length : Int))), (20, (.int .i64 (k20_1 : Int))), (30, (.int .i64 (out1.length : Int))), (31, (.int .i64 (k31_2 : Int)))]
      obtain ⟨mf2, rfl⟩ : ∃ m, fu2 = m + 1 := ⟨fu2 - 1, by omega⟩
      rw [F_impl_works_next_L2_s] at hL2
      have ho := hi2_2 k31_2
      have hke := hp0.el k20_1 k31_2
      refine TC.seq ?_
      refine TC.region ?_
      refine TL.op (yq (y_lss (ev_t rfl) (ev_t rfl))) rfl rfl rfl ?_
      refine TL.nil ?_
      refine TN.seq ?_
      refine TC.seq ?_
      refine TC.cond (b := decide ((k31_2 : Int) < (out1.length : Int))) (ev_t rfl) (fun h69 => ?_) (fun h69 => ?_)
      · rw [bif_pos h69] at hL2
        have q70 := (of_decide_eq_true h69)
        refine TC.skip ?_
        refine TN.seq ?_
        refine TC.seq ?_
        refine TC.block ?_
        refine TC.seq ?_
        refine TC.region ?_
        refine TL.op (yq (y_move (ev_t rfl))) rfl rfl rfl ?_
        refine TL.op (yq (y_assign (ev_t rfl))) rfl rfl rfl ?_
        refine TL.nil ?_
        refine TN.seq ?_
        refine TC.regionT 23 (by kernel_rfl) (by kernel_rfl) dr_hp ?_
        refine TQ.op (yq (y_move (ev_t rfl))) rfl rfl rfl ?_
        refine TQ.op (yq (y_move (ev_t rfl))) rfl rfl rfl ?_
        refine TQ.op (yq (y_move (ev_t rfl))) rfl rfl rfl ?_
        refine TQ.op (yq (y_move (ev_t rfl))) rfl rfl rfl ?_
        have hb71 : k31_2 < out2.length := (by first | omega | (simp only [List.length_set, List.length_append, List.length_cons, List.length_nil, List.length_replicate]; omega) | (rw [sortI_length]; simp only [List.length_cons, List.length_nil]; omega))
        refine TQ.op (yq (y_idx (k := k31_2) (ev_t rfl) (ev_t rfl) (by first | omega | simp) slT_25 (ri_row 0 rfl) hb71)) rfl rfl rfl ?_
        refine TQ.op (yq (y_ldi (ev_t rfl) one_3 (ri_row 0 rfl) hb71)) rfl rfl rfl ?_
        refine TQ.op (yq (y_move (ev_t rfl))) rfl rfl rfl ?_
        refine TQ.op (yq (y_move (ev_t rfl))) rfl rfl rfl ?_
        have hb72 : k20_1 < wk.length := (by first | omega | (simp only [List.length_set, List.length_append, List.length_cons, List.length_nil, List.length_replicate]; omega) | (rw [sortI_length]; simp only [List.length_cons, List.length_nil]; omega))
        refine TQ.op (yq (y_idx (k := k20_1) (ev_t rfl) (ev_t rfl) (by first | omega | simp) slT_25 (ri_arg hwk) hb72)) rfl rfl rfl ?_
        refine TQ.op (yq (y_ldi (ev_t rfl) one_3 (ri_arg hwk) hb72)) rfl rfl rfl ?_
        refine TQ.op (yq (y_move (ev_t rfl))) rfl rfl rfl ?_
        refine TQ.op (yq (y_nilp (ev_t rfl))) rfl rfl rfl ?_
        refine TQ.op (yq (y_fa (fa_70_2 gx) (ev_t rfl))) rfl rfl rfl ?_
        refine TQ.op (yq (y_ldk (ev_t rfl) one_22 hx rfl)) rfl rfl rfl ?_
        refine TQ.op (yq (y_move (ev_t rfl))) rfl rfl rfl ?_
        have hb73 : k20_1 < xc2.length := (by first | omega | (simp only [List.length_set, List.length_append, List.length_cons, List.length_nil, List.length_replicate]; omega) | (rw [sortI_length]; simp only [List.length_cons, List.length_nil]; omega))
        refine TQ.op (yq (y_idx (k := k20_1) (ev_t rfl) (ev_t rfl) (by first | omega | simp) slT_22 (fun w hw => ((rii_arg hrx2) w hw).1) hb73)) rfl rfl rfl ?_
        have ha74 := hrx2.row (i := k20_1) hb73
        refine TQ.op (yq (y_ldA (ev_t rfl) one_25 (rii_arg hrx2) hb73)) rfl rfl rfl ?_
        refine TQ.op (yq (y_move (ev_t rfl))) rfl rfl rfl ?_
        have hb75 : k31_2 < (xc2.getD k20_1 []).length := (by first | omega | (simp only [List.length_set, List.length_append, List.length_cons, List.length_nil, List.length_replicate]; omega) | (rw [sortI_length]; simp only [List.length_cons, List.length_nil]; omega))
        refine TQ.op (yq (y_idx (k := k31_2) (ev_t rfl) (ev_t rfl) (by first | omega | simp) slT_25 (ri_arg ha74) hb75)) rfl rfl rfl ?_
        refine TQ.op (yq (y_ldi (ev_t rfl) one_3 (ri_arg ha74) hb75)) rfl rfl rfl ?_
        refine TQ.op (yq (y_add (ev_t rfl) (ev_t rfl) (by unfold In64; omega))) rfl rfl rfl ?_
        refine TQ.op (yq (y_min (ev_t rfl) (ev_t rfl))) rfl rfl rfl ?_
        have hb76 : k31_2 < out2.length := (by first | omega | (simp only [List.length_set, List.length_append, List.length_cons, List.length_nil, List.length_replicate]; omega) | (rw [sortI_length]; simp only [List.length_cons, List.length_nil]; omega))
        refine TQ.op (yq (y_idx (k := k31_2) (ev_t rfl) (ev_t rfl) (by first | omega | simp) slT_25 (ri_row 0 rfl) hb76)) rfl rfl rfl ?_
        refine TQ.tail ?_
        refine TL.storeI 0 (ev_t rfl) (ev_t rfl) one_3 rfl hb76 ?_
        refine TL.nil ?_
        refine TN.blockN ?_
        refine TN.seq ?_
        refine TC.region ?_
        refine TL.op (yq (y_add (ev_t rfl) ev_c (by unfold In64; omega))) rfl rfl rfl ?_
        refine TL.op (yq (y_move (ev_t rfl))) rfl rfl rfl ?_
        refine TL.nil ?_
        exact TN.hand (mf2, (k31_2 + 1), (out2.set k31_2 (min (out2.getD k31_2 0) ((wk.getD k20_1 0) + ((xc2.getD k20_1 []).getD k31_2 0))))) ⟨(by first | omega | (simp [-List.getD_eq_getElem?_getD] <;> omega)), (by simp only [List.length_set]; exact hi2_1), (set_bd hi2_2 (by omega)), (by omega), hL2⟩ (Nat.lt_succ_self _) ⟨rfl, rfl, rfl, rfl, rfl, rfl, rfl, rfl, rfl, rfl, trivial⟩ (fun w hw => hw)
      · rw [bif_neg h69] at hL2
        have q70 := (of_decide_eq_false h69)
        refine TC.exit ?_
        refine TN.thenE ?_
        refine TN.thenE ?_
        rw [← hL2, elim_next] at hL1
        try dsimp only at hL1
        refine TN.blockH ?_
        refine TN.blockN ?_
        refine TN.seq ?_
        refine TC.region ?_
        refine TL.op (yq (y_add (ev_t rfl) ev_c (by unfold In64; omega))) rfl rfl rfl ?_
        refine TL.op (yq (y_move (ev_t rfl))) rfl rfl rfl ?_
        refine TL.nil ?_
        exact TN.hand (mf1, (k20_1 + 1), out2) ⟨(by first | omega | (simp [-List.getD_eq_getElem?_getD] <;> omega)), (by first | exact hi1_1 | exact hi2_1), (by first | exact hi1_2 | exact hi2_2), (by omega), hL1⟩ (Nat.lt_succ_self _) ⟨rfl, rfl, rfl, rfl, rfl, rfl, rfl, trivial⟩ (fun w hw => hw)
  · rw [bif_neg h61] at hL1
    have q62 := (of_decide_eq_false h61)
    refine TC.exit ?_
    refine TN.thenE ?_
    refine TN.thenE ?_
    rw [← hL1, elim_next] at hF
    try dsimp only at hF
    refine TN.blockH ?_
    refine TN.seq ?_
    refine TC.seq ?_
    refine TC.region ?_
    refine TL.op (yq (y_move (ev_t rfl))) rfl rfl rfl ?_
    refine TL.op (yq (y_assign (ev_t rfl))) rfl rfl rfl ?_
    refine TL.nil ?_
    refine TN.seq ?_
    refine TC.ret ?_
    subst hF
    exact TN.ret1 rfl (ev_t rfl) (fun w' hw => ⟨r1_3, rfl, hw⟩)

set_option maxRecDepth 4000 in
set_option maxHeartbeats 1000000 in
theorem impl_StartWork_ok (w : World) (vm : Value) (um : List Value) (m : List (List Int)) (hm : RII w vm um m) (va : Value) (a : List Int) (ha : RI w va a)  :
    Calls Try.prog 33 ([(.agg #[vm]), va] : List Value).toArray w (fun e w' => ∃ i : Value, e = .returned (.tuple #[i, (.bool ((F_impl_StartWork m a).2))]) ∧ Hp w [rowI 3 i ((F_impl_StartWork m a).1)] w') := by
  obtain ⟨rz, hF⟩ : ∃ rz, (F_impl_StartWork m a) = rz := ⟨_, rfl⟩
  rw [hF]
  unfold F_impl_StartWork at hF
  have hlen_m := argT_len hm
  have hlen_a := arg_len ha
  refine calls_tc Try.func33 rfl rfl rfl ?_
  change TC _ _ _ _ (Hp w []) [(0, (.agg #[vm])), (1, va)]
  refine TC.seq ?_
  refine TC.region ?_
  refine TL.box (ev_t rfl) rfl (fun g0_0 => ?_)
  refine TL.op (yq (y_assign ev_c)) rfl rfl rfl ?_
  refine TL.op (yq (y_assign ev_c)) rfl rfl rfl ?_
  refine TL.nil ?_
  refine TN.seq ?_
  refine TC.seq ?_
  refine TC.seq ?_
  refine TC.region ?_
  refine TL.op (yq (y_ldagg (cs := [vm]) 0 (ev_t rfl) agg_29 rfl)) rfl rfl rfl ?_
  refine TL.op (yq (y_move (ev_t rfl))) rfl rfl rfl ?_
  refine TL.op (y_call (vs := [(.agg #[vm]), va, (.slice none 0 0)]) (v := (.bool (F_impl_isServed m a ([])))) en_67 ⟨(ev_t rfl), (ev_t rfl), ev_c, trivial⟩ (fun w hw => impl_isServed_ok w vm um m ((rii_arg hm) w hw) va a ((ri_arg ha) w hw) _ [] (ri_nil w))) rfl rfl rfl ?_
  refine TL.op (yq (y_not (ev_t rfl))) rfl rfl rfl ?_
  refine TL.nil ?_
  refine TN.seq ?_
  refine TC.cond (b := !(F_impl_isServed m a ([]))) (ev_t rfl) (fun h4 => ?_) (fun h4 => ?_)
  · rw [bif_pos h4] at hF
    have q5 := (not_t h4)
    refine TC.seq ?_
    refine TC.region ?_
    refine TL.op (yq (y_assign ev_c)) rfl rfl rfl ?_
    refine TL.op (yq (y_assign ev_c)) rfl rfl rfl ?_
    refine TL.nil ?_
    refine TN.seq ?_
    refine TC.ret ?_
    refine TN.thenR ?_
    subst hF
    refine TN.cls (fun w hw => hw.nil 3 1) ?_
    exact TN.ret2 rfl (ev_t rfl) (ev_t rfl) (fun w' hw => ⟨(.slice none 0 0), rfl, Hp.sublist hw (.cons_cons _ (.cons _ .slnil))⟩)
  · rw [bif_neg h4] at hF
    have q5 := (isServed_t (not_f h4))
    have hS := q5
    have hKs := hS.ks
    have hWd := hKs.wd
    have hix := hKs.index_lt hS.cf rfl
    have h56 := hWd.n56
    have hn1 := hWd.n1
    have hdl := hWd.len
    have hr60 := hS.r60
    have hrw := hWd.row (F_impl_works_index (F_impl_worksOf m (a.length : Int)).1 (F_impl_worksOf m (a.length : Int)).2 a).toNat (by omega)
    refine TC.skip ?_
    refine TN.seq ?_
    refine TC.seq ?_
    refine TC.region ?_
    refine TL.op (yq (y_ldagg (cs := [vm]) 0 (ev_t rfl) agg_29 rfl)) rfl rfl rfl ?_
    refine TL.op (yq (y_move (ev_t rfl))) rfl rfl rfl ?_
    refine TL.op (yq (y_len (ev_t rfl) Try.underlying25 (fun w hw => ((ri_arg ha) w hw).ln))) rfl rfl rfl ?_
    refine TL.callr (ι := Nat × Value × Value × List Value × Value × List Value) (vs := [(.agg #[vm]), (.int .i64 (a.length : Int))]) (fun i => (.pointer (some ⟨i.1, 0, none⟩))) (fun i => [.blk i.1 70 [i.2.1, i.2.2.1, i.2.2.2.2.1], tabI 25 3 i.2.2.1 i.2.2.2.1 ((F_impl_worksOf m (a.length : Int)).1), tabI 25 3 i.2.2.2.2.1 i.2.2.2.2.2 ((F_impl_worksOf m (a.length : Int)).2)]) en_56 ⟨(ev_t rfl), (ev_t rfl), trivial⟩ rfl (fun w hw => impl_worksOf_ok w vm um m ((rii_arg hm) w hw) (a.length : Int) (by first | assumption | omega | grind)) (fun r3_3 => ?_)
    refine TL.op (yq (y_assign (ev_t rfl))) rfl rfl rfl ?_
    refine TL.nil ?_
    refine TN.seq ?_
    refine TC.seq ?_
    refine TC.regionT 9 (by kernel_rfl) (by kernel_rfl) dr_hp ?_
    refine TQ.op (yq (y_move (ev_t rfl))) rfl rfl rfl ?_
    refine TQ.op (yq (y_nilp (ev_t rfl))) rfl rfl rfl ?_
    refine TQ.op (yq (y_fa (fa_70_2 r3_3.1) (ev_t rfl))) rfl rfl rfl ?_
    refine TQ.op (yq (y_ldb 0 (ev_t rfl) one_22 rfl rfl)) rfl rfl rfl ?_
    refine TQ.op (yq (y_move (ev_t rfl))) rfl rfl rfl ?_
    refine TQ.op (yq (y_move (ev_t rfl))) rfl rfl rfl ?_
    refine TQ.op (y_call (vs := [(.pointer (some ⟨r3_3.1, 0, none⟩)), va]) (v := (.int .i64 (F_impl_works_index ((F_impl_worksOf m (a.length : Int)).1) ((F_impl_worksOf m (a.length : Int)).2) a))) en_68 ⟨(ev_t rfl), (ev_t rfl), trivial⟩ (fun w hw => impl_works_index_ok w r3_3.1 r3_3.2.1 r3_3.2.2.1 r3_3.2.2.2.1 ((F_impl_worksOf m (a.length : Int)).1) r3_3.2.2.2.2.1 r3_3.2.2.2.2.2 ((F_impl_worksOf m (a.length : Int)).2) (blk_at 0 rfl hw) ((rii_tab 1 rfl) w hw) ((rii_tab 2 rfl) w hw) va a ((ri_arg ha) w hw) (by first | assumption | omega | grind))) rfl rfl rfl ?_
    have hb7 : ((F_impl_works_index ((F_impl_worksOf m (a.length : Int)).1) ((F_impl_worksOf m (a.length : Int)).2) a)).toNat < (F_impl_worksOf m (a.length : Int)).2.length := (by first | omega | (simp only [List.length_set, List.length_append, List.length_cons, List.length_nil, List.length_replicate]; omega) | (rw [sortI_length]; simp only [List.length_cons, List.length_nil]; omega))
    refine TQ.op (yq (y_idx (k := ((F_impl_works_index ((F_impl_worksOf m (a.length : Int)).1) ((F_impl_worksOf m (a.length : Int)).2) a)).toNat) (ev_t rfl) (ev_t rfl) (by first | omega | simp) slT_22 (fun w hw => ((rii_tab 2 rfl) w hw).1) hb7)) rfl rfl rfl ?_
    refine TQ.op (yq (y_ldT 2 (ev_t rfl) one_25 rfl hb7)) rfl rfl rfl ?_
    refine TQ.tail ?_
    refine TL.callr (ι := Value) (vs := [(r3_3.2.2.2.2.2.getD (((F_impl_works_index ((F_impl_worksOf m (a.length : Int)).1) ((F_impl_worksOf m (a.length : Int)).2) a)).toNat) undef)]) (fun i => i) (fun i => [rowI 3 i ((F_impl_worksOf m (a.length : Int)).2.getD (((F_impl_works_index ((F_impl_worksOf m (a.length : Int)).1) ((F_impl_worksOf m (a.length : Int)).2) a)).toNat) [])]) en_62 ⟨(ev_t rfl), trivial⟩ rfl (fun w hw => slices_Clone_Sint_int_ok w (r3_3.2.2.2.2.2.getD (((F_impl_works_index ((F_impl_worksOf m (a.length : Int)).1) ((F_impl_worksOf m (a.length : Int)).2) a)).toNat) undef) ((F_impl_worksOf m (a.length : Int)).2.getD (((F_impl_works_index ((F_impl_worksOf m (a.length : Int)).1) ((F_impl_worksOf m (a.length : Int)).2) a)).toNat) []) ((ri_tab 2 (((F_impl_works_index ((F_impl_worksOf m (a.length : Int)).1) ((F_impl_worksOf m (a.length : Int)).2) a)).toNat) rfl hb7) w hw) (by first | assumption | omega | grind)) (fun r4_9 => ?_)
    refine TL.op (yq (y_assign (ev_t rfl))) rfl rfl rfl ?_
    refine TL.op (yq (y_assign ev_c)) rfl rfl rfl ?_
    refine TL.nil ?_
    refine TN.seq ?_
    refine TC.ret ?_
    subst hF
    exact TN.ret2 rfl (ev_t rfl) (ev_t rfl) (fun w' hw => ⟨r4_9, rfl, Hp.sublist hw (.cons_cons _ (.cons _ (.cons _ (.cons _ (.cons _ .slnil)))))⟩)

set_option maxRecDepth 4000 in
set_option maxHeartbeats 1000000 in
theorem impl_StepWork_ok (w : World) (vm : Value) (um : List Value) (m : List (List Int)) (hm : RII w vm um m) (k : Int) (vwk : Value) (wk : List Int) (hwk : RI w vwk wk) (r : Int)  :
    Calls Try.prog 43 ([(.agg #[vm]), (.int .i64 k), vwk, (.int .i64 r)] : List Value).toArray w (fun e w' => ∃ i : Value, e = .returned (.tuple #[i, (.bool ((F_impl_StepWork m k wk r).2))]) ∧ Hp w [rowI 3 i ((F_impl_StepWork m k wk r).1)] w') := by
  obtain ⟨rz, hF⟩ : ∃ rz, (F_impl_StepWork m k wk r) = rz := ⟨_, rfl⟩
  rw [hF]
  unfold F_impl_StepWork at hF
  have hlen_m := argT_len hm
  have hlen_wk := arg_len hwk
  refine calls_tc Try.func43 rfl rfl rfl ?_
  change TC _ _ _ _ (Hp w []) [(0, (.agg #[vm])), (1, (.int .i64 k)), (2, vwk), (3, (.int .i64 r))]
  refine TC.seq ?_
  refine TC.region ?_
  refine TL.box (ev_t rfl) rfl (fun g0_0 => ?_)
  refine TL.op (yq (y_assign ev_c)) rfl rfl rfl ?_
  refine TL.op (yq (y_assign ev_c)) rfl rfl rfl ?_
  refine TL.nil ?_
  refine TN.seq ?_
  refine TC.seq ?_
  refine TC.region ?_
  refine TL.op (yq (y_ldagg (cs := [vm]) 0 (ev_t rfl) agg_29 rfl)) rfl rfl rfl ?_
  refine TL.op (yq (y_move (ev_t rfl))) rfl rfl rfl ?_
  refine TL.op (yq (y_move (ev_t rfl))) rfl rfl rfl ?_
  refine TL.callr (ι := Nat × Value × Value × List Value × Value × List Value) (vs := [(.agg #[vm]), (.int .i64 k), vwk]) (fun i => (.tuple #[(wptr ((F_impl_worksFor m k wk).1) i.1), (.bool ((F_impl_worksFor m k wk).2.2.2))])) (fun i => [wblk ((F_impl_worksFor m k wk).1) i.1 70 [i.2.1, i.2.2.1, i.2.2.2.2.1], tabI 25 3 i.2.2.1 i.2.2.2.1 ((F_impl_worksFor m k wk).2.1), tabI 25 3 i.2.2.2.2.1 i.2.2.2.2.2 ((F_impl_worksFor m k wk).2.2.1)]) en_60 ⟨(ev_t rfl), (ev_t rfl), (ev_t rfl), trivial⟩ rfl (fun w hw => impl_worksFor_ok w vm um m ((rii_arg hm) w hw) k vwk wk ((ri_arg hwk) w hw)) (fun r1_3 => ?_)
  refine TL.op (yq (y_move (ev_t rfl))) rfl rfl rfl ?_
  refine TL.op (yq (y_extract (ev_t rfl) rfl)) rfl rfl rfl ?_
  refine TL.op (yq (y_extract (ev_t rfl) rfl)) rfl rfl rfl ?_
  refine TL.op (yq (y_assign (ev_t rfl))) rfl rfl rfl ?_
  refine TL.op (yq (y_assign (ev_t rfl))) rfl rfl rfl ?_
  refine TL.nil ?_
  refine TN.seq ?_
  refine TC.seq ?_
  refine TC.seq ?_
  refine TC.region ?_
  refine TL.op (yq (y_move (ev_t rfl))) rfl rfl rfl ?_
  refine TL.op (yq (y_not (ev_t rfl))) rfl rfl rfl ?_
  refine TL.op (yq (y_move (ev_t rfl))) rfl rfl rfl ?_
  refine TL.opw (w_f rfl rfl rfl) (fun hg => yq (y_ldagg (cs := [vm]) 3 (ev_t rfl) agg_29 rfl)) rfl rfl ?_
  refine TL.opw (w_f rfl rfl rfl) (fun hg => yq (y_move (ev_t rfl))) rfl rfl ?_
  refine TL.opw (w_f rfl rfl rfl) (fun hg => y_call (vs := [(.agg #[vm]), (.int .i64 r)]) (v := (.bool ((decide (0 ≤ r)) && (decide (r ≤ ((m.length : Int) - 1)))))) en_61 ⟨(ev_g rfl hg), (ev_g rfl hg), trivial⟩ (fun w hw => impl_Metric_isPoint_ok w vm um m ((rii_arg hm) w hw) r)) rfl rfl ?_
  refine TL.opw (w_f rfl rfl rfl) (fun hg => yq (y_not (ev_g rfl hg))) rfl rfl ?_
  refine TL.op (yq (y_or (ev_t rfl) (fun hq => (ev_g rfl hq)))) rfl rfl rfl ?_
  refine TL.nil ?_
  refine TN.seq ?_
  refine TC.cond (b := ((!((F_impl_worksFor m k wk).2.2.2)) || (!((decide (0 ≤ r)) && (decide (r ≤ ((m.length : Int) - 1))))))) (ev_t rfl) (fun h5 => ?_) (fun h5 => ?_)
  · rw [bif_pos h5] at hF
    have q6 := ((or_t h5).imp (fun h => (not_t h)) (fun h => ((and_f (not_t h)).imp (fun h => (of_decide_eq_false h)) (fun h => (of_decide_eq_false h)))))
    refine TC.seq ?_
    refine TC.region ?_
    refine TL.op (yq (y_assign ev_c)) rfl rfl rfl ?_
    refine TL.op (yq (y_assign ev_c)) rfl rfl rfl ?_
    refine TL.nil ?_
    refine TN.seq ?_
    refine TC.ret ?_
    refine TN.thenR ?_
    subst hF
    refine TN.cls (fun w hw => hw.nil 3 1) ?_
    exact TN.ret2 rfl (ev_t rfl) (ev_t rfl) (fun w' hw => ⟨(.slice none 0 0), rfl, Hp.sublist hw (.cons_cons _ (.cons _ (.cons _ (.cons _ (.cons _ .slnil)))))⟩)
  · rw [bif_neg h5] at hF
    have q6 := (and_imp (or_f h5) (fun h => (worksFor_t (not_f h))) (fun h => (and_imp (and_t (not_f h)) (fun h => (of_decide_eq_true h)) (fun h => (of_decide_eq_true h)))))
    have hWf := q6.1
    rw [wptr_t hWf.b, wblk_t hWf.b]
    have hWd := hWf.wd
    have hwl := hWf.len
    have hwb : ∀ i, 0 ≤ wk.getD i 0 ∧ wk.getD i 0 ≤ 1073741824 := fun i => by have := hWf.el i; omega
    refine TC.skip ?_
    refine TN.seq ?_
    refine TC.seq ?_
    refine TC.region ?_
    refine TL.op (yq (y_move (ev_t rfl))) rfl rfl rfl ?_
    refine TL.op (yq (y_move (ev_t rfl))) rfl rfl rfl ?_
    refine TL.op (yq (y_move (ev_t rfl))) rfl rfl rfl ?_
    refine TL.callr (ι := Value) (vs := [(.pointer (some ⟨r1_3.1, 0, none⟩)), vwk, (.int .i64 r)]) (fun i => i) (fun i => [rowI 3 i (F_impl_works_next ((F_impl_worksFor m k wk).2.1) ((F_impl_worksFor m k wk).2.2.1) wk r)]) en_83 ⟨(ev_t rfl), (ev_t rfl), (ev_t rfl), trivial⟩ rfl (fun w hw => impl_works_next_ok w r1_3.1 r1_3.2.1 r1_3.2.2.1 r1_3.2.2.2.1 ((F_impl_worksFor m k wk).2.1) r1_3.2.2.2.2.1 r1_3.2.2.2.2.2 ((F_impl_worksFor m k wk).2.2.1) (blk_at 0 rfl hw) ((rii_tab 1 rfl) w hw) ((rii_tab 2 rfl) w hw) vwk wk ((ri_arg hwk) w hw) r (by first | assumption | omega | grind) (by first | assumption | omega | grind) (by first | assumption | omega | grind)) (fun r4_3 => ?_)
    refine TL.op (yq (y_assign (ev_t rfl))) rfl rfl rfl ?_
    refine TL.nil ?_
    refine TN.seq ?_
    refine TC.seq ?_
    refine TC.seq ?_
    refine TC.region ?_
    refine TL.op (yq (y_move (ev_t rfl))) rfl rfl rfl ?_
    refine TL.op (y_call (vs := [r4_3]) (v := (.bool (F_impl_isSmall (F_impl_works_next ((F_impl_worksFor m k wk).2.1) ((F_impl_worksFor m k wk).2.2.1) wk r)))) en_79 ⟨(ev_t rfl), trivial⟩ (fun w hw => impl_isSmall_ok w r4_3 (F_impl_works_next ((F_impl_worksFor m k wk).2.1) ((F_impl_worksFor m k wk).2.2.1) wk r) ((ri_row 0 rfl) w hw))) rfl rfl rfl ?_
    refine TL.op (yq (y_not (ev_t rfl))) rfl rfl rfl ?_
    refine TL.nil ?_
    refine TN.seq ?_
    refine TC.cond (b := !(F_impl_isSmall (F_impl_works_next ((F_impl_worksFor m k wk).2.1) ((F_impl_worksFor m k wk).2.2.1) wk r))) (ev_t rfl) (fun h8 => ?_) (fun h8 => ?_)
    · rw [bif_pos h8] at hF
      have q9 := (not_t h8)
      refine TC.seq ?_
      refine TC.region ?_
      refine TL.op (yq (y_assign ev_c)) rfl rfl rfl ?_
      refine TL.op (yq (y_assign ev_c)) rfl rfl rfl ?_
      refine TL.nil ?_
      refine TN.seq ?_
      refine TC.ret ?_
      refine TN.thenR ?_
      subst hF
      refine TN.cls (fun w hw => hw.nil 3 1) ?_
      exact TN.ret2 rfl (ev_t rfl) (ev_t rfl) (fun w' hw => ⟨(.slice none 0 0), rfl, Hp.sublist hw (.cons_cons _ (.cons _ (.cons _ (.cons _ (.cons _ (.cons _ .slnil))))))⟩)
    · rw [bif_neg h8] at hF
      have q9 := (isSmall_t (not_f h8))
      refine TC.skip ?_
      refine TN.seq ?_
      refine TC.seq ?_
      refine TC.region ?_
      refine TL.op (yq (y_move (ev_t rfl))) rfl rfl rfl ?_
      refine TL.op (yq (y_assign (ev_t rfl))) rfl rfl rfl ?_
      refine TL.op (yq (y_assign ev_c)) rfl rfl rfl ?_
      refine TL.nil ?_
      refine TN.seq ?_
      refine TC.ret ?_
      subst hF
      exact TN.ret2 rfl (ev_t rfl) (ev_t rfl) (fun w' hw => ⟨r4_3, rfl, Hp.sublist hw (.cons_cons _ (.cons _ (.cons _ (.cons _ (.cons _ .slnil)))))⟩)

set_option maxRecDepth 4000 in
set_option maxHeartbeats 1000000 in
theorem impl_works_lists_ok (w : World) (gx : Nat) (vx0 : Value) (vx1 : Value) (ux1 : List Value) (xc1 : List (List Int)) (vx2 : Value) (ux2 : List Value) (xc2 : List (List Int)) (hx : BlkAt w gx [vx0, vx1, vx2]) (hrx1 : RII w vx1 ux1 xc1) (hrx2 : RII w vx2 ux2 xc2) (va : Value) (a : List Int) (ha : RI w va a) (vreqs : Value) (reqs : List Int) (hreqs : RI w vreqs reqs) (hp0 : Wd xc1 xc2) (hp1 : 0 ≤ F_impl_works_index xc1 xc2 a ∧ F_impl_works_index xc1 xc2 a < xc1.length) (hp2 : reqs.length ≤ 60) :
    Calls Try.prog 88 ([(.pointer (some ⟨gx, 0, none⟩)), va, vreqs] : List Value).toArray w (fun e w' => ∃ i : Value × List Value, e = .returned i.1 ∧ Hp w [tabI 25 3 i.1 i.2 (F_impl_works_lists xc1 xc2 a reqs)] w') := by
  obtain ⟨rz, hF⟩ : ∃ rz, (F_impl_works_lists xc1 xc2 a reqs) = rz := ⟨_, rfl⟩
  rw [hF]
  unfold F_impl_works_lists at hF
  have hdl := hp0.len
  have h56 := hp0.n56
  have hrow := hp0.row (F_impl_works_index xc1 xc2 a).toNat (by omega)
  have hlen_x1 := argT_len hrx1
  have hlen_x2 := argT_len hrx2
  have hlen_a := arg_len ha
  have hlen_reqs := arg_len hreqs
  refine calls_tc Try.func88 rfl rfl rfl ?_
  change TC _ _ _ _ (Hp w []) [(0, (.pointer (some ⟨gx, 0, none⟩))), (1, va), (2, vreqs)]
  refine TC.seq ?_
  refine TC.region ?_
  refine TL.op (yq (y_assign ev_c)) rfl rfl rfl ?_
  refine TL.nil ?_
  refine TN.seq ?_
  refine TC.seq ?_
  refine TC.regionT 9 (by kernel_rfl) (by kernel_rfl) dr_hp ?_
  refine TQ.op (yq (y_move (ev_t rfl))) rfl rfl rfl ?_
  refine TQ.op (yq (y_nilp (ev_t rfl))) rfl rfl rfl ?_
  refine TQ.op (yq (y_fa (fa_70_2 gx) (ev_t rfl))) rfl rfl rfl ?_
  refine TQ.op (yq (y_ldk (ev_t rfl) one_22 hx rfl)) rfl rfl rfl ?_
  refine TQ.op (yq (y_move (ev_t rfl))) rfl rfl rfl ?_
  refine TQ.op (yq (y_move (ev_t rfl))) rfl rfl rfl ?_
  refine TQ.op (y_call (vs := [(.pointer (some ⟨gx, 0, none⟩)), va]) (v := (.int .i64 (F_impl_works_index xc1 xc2 a))) en_68 ⟨(ev_t rfl), (ev_t rfl), trivial⟩ (fun w hw => impl_works_index_ok w gx vx0 vx1 ux1 xc1 vx2 ux2 xc2 (hx.below hw.1) ((rii_arg hrx1) w hw) ((rii_arg hrx2) w hw) va a ((ri_arg ha) w hw) (by first | assumption | omega | grind))) rfl rfl rfl ?_
  have hb11 : ((F_impl_works_index xc1 xc2 a)).toNat < xc2.length := (by first | omega | (simp only [List.length_set, List.length_append, List.length_cons, List.length_nil, List.length_replicate]; omega) | (rw [sortI_length]; simp only [List.length_cons, List.length_nil]; omega))
  refine TQ.op (yq (y_idx (k := ((F_impl_works_index xc1 xc2 a)).toNat) (ev_t rfl) (ev_t rfl) (by first | omega | simp) slT_22 (fun w hw => ((rii_arg hrx2) w hw).1) hb11)) rfl rfl rfl ?_
  have ha12 := hrx2.row (i := ((F_impl_works_index xc1 xc2 a)).toNat) hb11
  refine TQ.op (yq (y_ldA (ev_t rfl) one_25 (rii_arg hrx2) hb11)) rfl rfl rfl ?_
  refine TQ.tail ?_
  refine TL.callr (ι := Value) (vs := [(ux2.getD (((F_impl_works_index xc1 xc2 a)).toNat) undef)]) (fun i => i) (fun i => [rowI 3 i (xc2.getD (((F_impl_works_index xc1 xc2 a)).toNat) [])]) en_62 ⟨(ev_t rfl), trivial⟩ rfl (fun w hw => slices_Clone_Sint_int_ok w (ux2.getD (((F_impl_works_index xc1 xc2 a)).toNat) undef) (xc2.getD (((F_impl_works_index xc1 xc2 a)).toNat) []) ((ri_arg ha12) w hw) (by first | assumption | omega | grind)) (fun r1_9 => ?_)
  refine TL.buildU slT_22 (ev_t rfl) (fun w hw => ((ri_row 0 rfl) w hw).ln) rfl (fun v1_10 => ?_)
  refine TL.cls (fun w hw => hw.uniTab 0 1 rfl rfl rfl) ?_
  refine TL.op (yq (y_assign (ev_t rfl))) rfl rfl rfl ?_
  refine TL.nil ?_
  refine TN.seq ?_
  refine TC.seq ?_
  refine TC.seq ?_
  refine TC.region ?_
  refine TL.op (yq (y_move (ev_t rfl))) rfl rfl rfl ?_
  refine TL.op (yq (y_len (ev_t rfl) Try.underlying25 (fun w hw => ((ri_arg hreqs) w hw).ln))) rfl rfl rfl ?_
  refine TL.op (yq (y_move ev_c)) rfl rfl rfl ?_
  refine TL.nil ?_
  refine TN.seq ?_
  refine TC.block ?_
  obtain ⟨c13, hc14⟩ : ∃ c, F_impl_works_lists_L1 xc1 xc2 reqs ((reqs.length - 0) + 1) (([(xc2.getD (((F_impl_works_index xc1 xc2 a)).toNat) [])]), 0) = c := ⟨_, rfl⟩
  rw [hc14] at hF
  refine TC.loop (ι := Nat × List (List Int) × Nat × Value × List Value) (fun (fu1, out1, k23_1, vout1, uout1) => [(0, (.pointer (some ⟨gx, 0, none⟩))), (7, vout1), (21, vreqs), (22, (.int .i64 (reqs.length : Int))), (23, (.int .i64 (k23_1 : Int)))]) (fun (fu1, out1, k23_1, vout1, uout1) => Hp w [tabI 25 3 vout1 uout1 out1]) (fun (fu1, out1, k23_1, vout1, uout1) => (k23_1 ≤ reqs.length) ∧ (out1.length = k23_1 + 1) ∧ (Rws xc1 out1) ∧ reqs.length - k23_1 < fu1 ∧ F_impl_works_lists_L1 xc1 xc2 reqs fu1 (out1, k23_1) = c13) (fun (fu1, out1, k23_1, vout1, uout1) => fu1) ((reqs.length - 0) + 1, [(xc2.getD (((F_impl_works_index xc1 xc2 a)).toNat) [])], 0, v1_10, [r1_9]) ⟨(by first | omega | (simp [-List.getD_eq_getElem?_getD] <;> omega)), rfl, (hp0.row0 hp1), (by omega), hc14⟩ ⟨rfl, rfl, rfl, rfl, rfl, trivial⟩ (fun w hw => Hp.sublist hw (.cons_cons _ (.cons _ .slnil))) ?_
  rintro ⟨fu1, out1, k23_1, vout1, uout1⟩ hJ1
  obtain ⟨hi1_0, hi1_1, hi1_2, hmu1, hL1⟩ : (k23_1 ≤ reqs.length) ∧ (out1.length = k23_1 + 1) ∧ (Rws xc1 out1) ∧ reqs.length - k23_1 < fu1 ∧ F_impl_works_lists_L1 xc1 xc2 reqs fu1 (out1, k23_1) = c13 := hJ1
  change TC _ _ _ _ (Hp w [tabI 25 3 vout1 uout1 out1]) [(0, (.pointer (some ⟨gx, 0, none⟩))), (7, vout1), (21, vreqs), (22, (.int .i64 (reqs.length : Int))), (23, (.int .i64 (k23_1 : Int)))]
  obtain ⟨mf1, rfl⟩ : ∃ m, fu1 = m + 1 := ⟨fu1 - 1, by omega⟩
  rw [F_impl_works_lists_L1_s] at hL1
  have hrr := hi1_2 k23_1 (by omega)
  have hrr1 := hrr.1
  have hrr2 := hrr.2
  refine TC.seq ?_
  refine TC.region ?_
  refine TL.op (yq (y_lss (ev_t rfl) (ev_t rfl))) rfl rfl rfl ?_
  refine TL.nil ?_
  refine TN.seq ?_
  refine TC.seq ?_
  refine TC.cond (b := decide ((k23_1 : Int) < (reqs.length : Int))) (ev_t rfl) (fun h15 => ?_) (fun h15 => ?_)
  · rw [bif_pos h15] at hL1
    have q16 := (of_decide_eq_true h15)
    refine TC.skip ?_
    refine TN.seq ?_
    refine TC.seq ?_
    refine TC.block ?_
    refine TC.seq ?_
    refine TC.region ?_
    refine TL.op (yq (y_move (ev_t rfl))) rfl rfl rfl ?_
    have hb17 : k23_1 < reqs.length := (by first | omega | (simp only [List.length_set, List.length_append, List.length_cons, List.length_nil, List.length_replicate]; omega) | (rw [sortI_length]; simp only [List.length_cons, List.length_nil]; omega))
    refine TL.op (yq (y_idx (k := k23_1) (ev_t rfl) (ev_t rfl) (by first | omega | simp) slT_25 (ri_arg hreqs) hb17)) rfl rfl rfl ?_
    refine TL.op (yq (y_ldi (ev_t rfl) one_3 (ri_arg hreqs) hb17)) rfl rfl rfl ?_
    refine TL.op (yq (y_assign (ev_t rfl))) rfl rfl rfl ?_
    refine TL.op (yq (y_assign (ev_t rfl))) rfl rfl rfl ?_
    refine TL.nil ?_
    refine TN.seq ?_
    refine TC.region ?_
    refine TL.op (yq (y_move (ev_t rfl))) rfl rfl rfl ?_
    refine TL.op (yq (y_move (ev_t rfl))) rfl rfl rfl ?_
    refine TL.op (yq (y_move (ev_t rfl))) rfl rfl rfl ?_
    refine TL.op (yq (y_move (ev_t rfl))) rfl rfl rfl ?_
    have hb18 : k23_1 < out1.length := (by first | omega | (simp only [List.length_set, List.length_append, List.length_cons, List.length_nil, List.length_replicate]; omega) | (rw [sortI_length]; simp only [List.length_cons, List.length_nil]; omega))
    refine TL.op (yq (y_idx (k := k23_1) (ev_t rfl) (ev_t rfl) (by first | omega | simp) slT_22 (fun w hw => ((rii_tab 0 rfl) w hw).1) hb18)) rfl rfl rfl ?_
    refine TL.op (yq (y_ldT 0 (ev_t rfl) one_25 rfl hb18)) rfl rfl rfl ?_
    refine TL.op (yq (y_move (ev_t rfl))) rfl rfl rfl ?_
    refine TL.callr (ι := Value) (vs := [(.pointer (some ⟨gx, 0, none⟩)), (uout1.getD k23_1 undef), (.int .i64 (reqs.getD k23_1 0))]) (fun i => i) (fun i => [rowI 3 i (F_impl_works_next xc1 xc2 (out1.getD k23_1 []) (reqs.getD k23_1 0))]) en_83 ⟨(ev_t rfl), (ev_t rfl), (ev_t rfl), trivial⟩ rfl (fun w hw => impl_works_next_ok w gx vx0 vx1 ux1 xc1 vx2 ux2 xc2 (hx.below hw.1) ((rii_arg hrx1) w hw) ((rii_arg hrx2) w hw) (uout1.getD k23_1 undef) (out1.getD k23_1 []) ((ri_tab 0 k23_1 rfl hb18) w hw) (reqs.getD k23_1 0) (by first | assumption | omega | grind) (by first | assumption | omega | grind) (by first | assumption | omega | grind)) (fun r5_7 => ?_)
    refine TL.buildU slT_22 (ev_t rfl) (fun w hw => ((ri_row 0 rfl) w hw).ln) rfl (fun v5_8 => ?_)
    refine TL.appendT 2 1 rfl (ev_t rfl) (ev_t rfl) rfl rfl slT_22 (rd_row 0 rfl) (by first | omega | (simp [-List.getD_eq_getElem?_getD] <;> omega)) rfl (fun v5_9 => ?_)
    refine TL.op (yq (y_assign (ev_t rfl))) rfl rfl rfl ?_
    refine TL.nil ?_
    refine TN.blockN ?_
    refine TN.seq ?_
    refine TC.region ?_
    refine TL.op (yq (y_add (ev_t rfl) ev_c (by unfold In64; omega))) rfl rfl rfl ?_
    refine TL.op (yq (y_move (ev_t rfl))) rfl rfl rfl ?_
    refine TL.nil ?_
    exact TN.hand (mf1, (out1 ++ [(F_impl_works_next xc1 xc2 (out1.getD k23_1 []) (reqs.getD k23_1 0))]), (k23_1 + 1), v5_9, (uout1 ++ [r5_7])) ⟨(by first | omega | (simp [-List.getD_eq_getElem?_getD] <;> omega)), (by first | omega | (simp [-List.getD_eq_getElem?_getD] <;> omega)), (hi1_2.push (next_bd hp0 hrr.1 hrr.2 _)), (by omega), hL1⟩ (Nat.lt_succ_self _) ⟨rfl, rfl, rfl, rfl, rfl, trivial⟩ (fun w hw => Hp.sublist hw (.cons _ (.cons _ (.cons_cons _ .slnil))))
  · rw [bif_neg h15] at hL1
    have q16 := (of_decide_eq_false h15)
    refine TC.exit ?_
    refine TN.thenE ?_
    refine TN.thenE ?_
    rw [← hL1, elim_next] at hF
    try dsimp only at hF
    refine TN.blockH ?_
    refine TN.seq ?_
    refine TC.seq ?_
    refine TC.region ?_
    refine TL.op (yq (y_move (ev_t rfl))) rfl rfl rfl ?_
    refine TL.op (yq (y_assign (ev_t rfl))) rfl rfl rfl ?_
    refine TL.nil ?_
    refine TN.seq ?_
    refine TC.ret ?_
    subst hF
    exact TN.ret1 rfl (ev_t rfl) (fun w' hw => ⟨(vout1, uout1), rfl, hw⟩)

set_option maxRecDepth 4000 in
set_option maxHeartbeats 1000000 in
theorem impl_WorkLists_ok (w : World) (vm : Value) (um : List Value) (m : List (List Int)) (hm : RII w vm um m) (va : Value) (a : List Int) (ha : RI w va a) (vreqs : Value) (reqs : List Int) (hreqs : RI w vreqs reqs)  :
    Calls Try.prog 47 ([(.agg #[vm]), va, vreqs] : List Value).toArray w (fun e w' => ∃ i : Value × List Value, e = .returned (.tuple #[i.1, (.bool ((F_impl_WorkLists m a reqs).2))]) ∧ Hp w [tabI 25 3 i.1 i.2 ((F_impl_WorkLists m a reqs).1)] w') := by
  obtain ⟨rz, hF⟩ : ∃ rz, (F_impl_WorkLists m a reqs) = rz := ⟨_, rfl⟩
  rw [hF]
  unfold F_impl_WorkLists at hF
  have hlen_m := argT_len hm
  have hlen_a := arg_len ha
  have hlen_reqs := arg_len hreqs
  refine calls_tc Try.func47 rfl rfl rfl ?_
  change TC _ _ _ _ (Hp w []) [(0, (.agg #[vm])), (1, va), (2, vreqs)]
  refine TC.seq ?_
  refine TC.region ?_
  refine TL.box (ev_t rfl) rfl (fun g0_0 => ?_)
  refine TL.op (yq (y_assign ev_c)) rfl rfl rfl ?_
  refine TL.op (yq (y_assign ev_c)) rfl rfl rfl ?_
  refine TL.nil ?_
  refine TN.seq ?_
  refine TC.seq ?_
  refine TC.seq ?_
  refine TC.region ?_
  refine TL.op (yq (y_ldagg (cs := [vm]) 0 (ev_t rfl) agg_29 rfl)) rfl rfl rfl ?_
  refine TL.op (yq (y_move (ev_t rfl))) rfl rfl rfl ?_
  refine TL.op (yq (y_move (ev_t rfl))) rfl rfl rfl ?_
  refine TL.op (y_call (vs := [(.agg #[vm]), va, vreqs]) (v := (.bool (F_impl_isServed m a reqs))) en_67 ⟨(ev_t rfl), (ev_t rfl), (ev_t rfl), trivial⟩ (fun w hw => impl_isServed_ok w vm um m ((rii_arg hm) w hw) va a ((ri_arg ha) w hw) vreqs reqs ((ri_arg hreqs) w hw))) rfl rfl rfl ?_
  refine TL.op (yq (y_not (ev_t rfl))) rfl rfl rfl ?_
  refine TL.nil ?_
  refine TN.seq ?_
  refine TC.cond (b := !(F_impl_isServed m a reqs)) (ev_t rfl) (fun h3 => ?_) (fun h3 => ?_)
  · rw [bif_pos h3] at hF
    have q4 := (not_t h3)
    refine TC.seq ?_
    refine TC.region ?_
    refine TL.op (yq (y_assign ev_c)) rfl rfl rfl ?_
    refine TL.op (yq (y_assign ev_c)) rfl rfl rfl ?_
    refine TL.nil ?_
    refine TN.seq ?_
    refine TC.ret ?_
    refine TN.thenR ?_
    subst hF
    refine TN.cls (fun w hw => hw.nilTab 25 3) ?_
    exact TN.ret2 rfl (ev_t rfl) (ev_t rfl) (fun w' hw => ⟨((.slice none 0 0), []), rfl, Hp.sublist hw (.cons_cons _ (.cons _ .slnil))⟩)
  · rw [bif_neg h3] at hF
    have q4 := (isServed_t (not_f h3))
    have hS := q4
    have hKs := hS.ks
    have hWd := hKs.wd
    have hix := hKs.index_lt hS.cf rfl
    have h56 := hWd.n56
    have hn1 := hWd.n1
    have hdl := hWd.len
    have hr60 := hS.r60
    refine TC.skip ?_
    refine TN.seq ?_
    refine TC.seq ?_
    refine TC.region ?_
    refine TL.op (yq (y_ldagg (cs := [vm]) 0 (ev_t rfl) agg_29 rfl)) rfl rfl rfl ?_
    refine TL.op (yq (y_move (ev_t rfl))) rfl rfl rfl ?_
    refine TL.op (yq (y_len (ev_t rfl) Try.underlying25 (fun w hw => ((ri_arg ha) w hw).ln))) rfl rfl rfl ?_
    refine TL.callr (ι := Nat × Value × Value × List Value × Value × List Value) (vs := [(.agg #[vm]), (.int .i64 (a.length : Int))]) (fun i => (.pointer (some ⟨i.1, 0, none⟩))) (fun i => [.blk i.1 70 [i.2.1, i.2.2.1, i.2.2.2.2.1], tabI 25 3 i.2.2.1 i.2.2.2.1 ((F_impl_worksOf m (a.length : Int)).1), tabI 25 3 i.2.2.2.2.1 i.2.2.2.2.2 ((F_impl_worksOf m (a.length : Int)).2)]) en_56 ⟨(ev_t rfl), (ev_t rfl), trivial⟩ rfl (fun w hw => impl_worksOf_ok w vm um m ((rii_arg hm) w hw) (a.length : Int) (by first | assumption | omega | grind)) (fun r3_3 => ?_)
    refine TL.op (yq (y_move (ev_t rfl))) rfl rfl rfl ?_
    refine TL.op (yq (y_move (ev_t rfl))) rfl rfl rfl ?_
    refine TL.callr (ι := Value × List Value) (vs := [(.pointer (some ⟨r3_3.1, 0, none⟩)), va, vreqs]) (fun i => i.1) (fun i => [tabI 25 3 i.1 i.2 (F_impl_works_lists ((F_impl_worksOf m (a.length : Int)).1) ((F_impl_worksOf m (a.length : Int)).2) a reqs)]) en_88 ⟨(ev_t rfl), (ev_t rfl), (ev_t rfl), trivial⟩ rfl (fun w hw => impl_works_lists_ok w r3_3.1 r3_3.2.1 r3_3.2.2.1 r3_3.2.2.2.1 ((F_impl_worksOf m (a.length : Int)).1) r3_3.2.2.2.2.1 r3_3.2.2.2.2.2 ((F_impl_worksOf m (a.length : Int)).2) (blk_at 0 rfl hw) ((rii_tab 1 rfl) w hw) ((rii_tab 2 rfl) w hw) va a ((ri_arg ha) w hw) vreqs reqs ((ri_arg hreqs) w hw) (by first | assumption | omega | grind) (by first | assumption | omega | grind) (by first | assumption | omega | grind)) (fun r3_6 => ?_)
    refine TL.op (yq (y_assign (ev_t rfl))) rfl rfl rfl ?_
    refine TL.op (yq (y_assign ev_c)) rfl rfl rfl ?_
    refine TL.nil ?_
    refine TN.seq ?_
    refine TC.ret ?_
    subst hF
    exact TN.ret2 rfl (ev_t rfl) (ev_t rfl) (fun w' hw => ⟨(r3_6.1, r3_6.2), rfl, Hp.sublist hw (.cons_cons _ (.cons _ (.cons _ (.cons _ (.cons _ .slnil)))))⟩)

set_option maxRecDepth 4000 in
set_option maxHeartbeats 1000000 in
theorem impl_WorkOf_ok (w : World) (vm : Value) (um : List Value) (m : List (List Int)) (hm : RII w vm um m) (k : Int) (vwk : Value) (wk : List Int) (hwk : RI w vwk wk) (vc : Value) (c : List Int) (hc : RI w vc c)  :
    Calls Try.prog 35 ([(.agg #[vm]), (.int .i64 k), vwk, vc] : List Value).toArray w (Ret (.tuple #[(.int .i64 ((F_impl_WorkOf m k wk c).1)), (.bool ((F_impl_WorkOf m k wk c).2))]) (Hp w [])) := by
  obtain ⟨rz, hF⟩ : ∃ rz, (F_impl_WorkOf m k wk c) = rz := ⟨_, rfl⟩
  rw [hF]
  unfold F_impl_WorkOf at hF
  have hlen_m := argT_len hm
  have hlen_wk := arg_len hwk
  have hlen_c := arg_len hc
  refine calls_tc Try.func35 rfl rfl rfl ?_
  change TC _ _ _ _ (Hp w []) [(0, (.agg #[vm])), (1, (.int .i64 k)), (2, vwk), (3, vc)]
  refine TC.seq ?_
  refine TC.region ?_
  refine TL.box (ev_t rfl) rfl (fun g0_0 => ?_)
  refine TL.op (yq (y_assign ev_c)) rfl rfl rfl ?_
  refine TL.op (yq (y_assign ev_c)) rfl rfl rfl ?_
  refine TL.nil ?_
  refine TN.seq ?_
  refine TC.seq ?_
  refine TC.region ?_
  refine TL.op (yq (y_ldagg (cs := [vm]) 0 (ev_t rfl) agg_29 rfl)) rfl rfl rfl ?_
  refine TL.op (yq (y_move (ev_t rfl))) rfl rfl rfl ?_
  refine TL.op (yq (y_move (ev_t rfl))) rfl rfl rfl ?_
  refine TL.callr (ι := Nat × Value × Value × List Value × Value × List Value) (vs := [(.agg #[vm]), (.int .i64 k), vwk]) (fun i => (.tuple #[(wptr ((F_impl_worksFor m k wk).1) i.1), (.bool ((F_impl_worksFor m k wk).2.2.2))])) (fun i => [wblk ((F_impl_worksFor m k wk).1) i.1 70 [i.2.1, i.2.2.1, i.2.2.2.2.1], tabI 25 3 i.2.2.1 i.2.2.2.1 ((F_impl_worksFor m k wk).2.1), tabI 25 3 i.2.2.2.2.1 i.2.2.2.2.2 ((F_impl_worksFor m k wk).2.2.1)]) en_60 ⟨(ev_t rfl), (ev_t rfl), (ev_t rfl), trivial⟩ rfl (fun w hw => impl_worksFor_ok w vm um m ((rii_arg hm) w hw) k vwk wk ((ri_arg hwk) w hw)) (fun r1_3 => ?_)
  refine TL.op (yq (y_move (ev_t rfl))) rfl rfl rfl ?_
  refine TL.op (yq (y_extract (ev_t rfl) rfl)) rfl rfl rfl ?_
  refine TL.op (yq (y_extract (ev_t rfl) rfl)) rfl rfl rfl ?_
  refine TL.op (yq (y_assign (ev_t rfl))) rfl rfl rfl ?_
  refine TL.op (yq (y_assign (ev_t rfl))) rfl rfl rfl ?_
  refine TL.nil ?_
  refine TN.seq ?_
  refine TC.seq ?_
  refine TC.seq ?_
  refine TC.region ?_
  refine TL.op (yq (y_move (ev_t rfl))) rfl rfl rfl ?_
  refine TL.op (yq (y_not (ev_t rfl))) rfl rfl rfl ?_
  refine TL.op (yq (y_move (ev_t rfl))) rfl rfl rfl ?_
  refine TL.opw (w_f rfl rfl rfl) (fun hg => yq (y_ldagg (cs := [vm]) 3 (ev_t rfl) agg_29 rfl)) rfl rfl ?_
  refine TL.opw (w_f rfl rfl rfl) (fun hg => yq (y_move (ev_t rfl))) rfl rfl ?_
  refine TL.opw (w_f rfl rfl rfl) (fun hg => y_call (vs := [(.agg #[vm]), vc]) (v := (.bool (F_impl_Metric_isConfig m c))) en_70 ⟨(ev_g rfl hg), (ev_g rfl hg), trivial⟩ (fun w hw => impl_Metric_isConfig_ok w vm um m ((rii_arg hm) w hw) vc c ((ri_arg hc) w hw))) rfl rfl ?_
  refine TL.opw (w_f rfl rfl rfl) (fun hg => yq (y_not (ev_g rfl hg))) rfl rfl ?_
  refine TL.op (yq (y_or (ev_t rfl) (fun hq => (ev_g rfl hq)))) rfl rfl rfl ?_
  refine TL.op (yq (y_move (ev_t rfl))) rfl rfl rfl ?_
  refine TL.opw (w_f rfl rfl rfl) (fun hg => yq (y_move (ev_t rfl))) rfl rfl ?_
  refine TL.opw (w_f rfl rfl rfl) (fun hg => yq (y_len (ev_g rfl hg) Try.underlying25 (fun w hw => ((ri_arg hc) w hw).ln))) rfl rfl ?_
  refine TL.opw (w_f rfl rfl rfl) (fun hg => yq (y_move (ev_t rfl))) rfl rfl ?_
  refine TL.opw (w_f rfl rfl rfl) (fun hg => yq (y_neq (ev_g rfl hg) (ev_g rfl hg))) rfl rfl ?_
  refine TL.op (yq (y_or (ev_t rfl) (fun hq => (ev_g rfl hq)))) rfl rfl rfl ?_
  refine TL.nil ?_
  refine TN.seq ?_
  refine TC.cond (b := (((!((F_impl_worksFor m k wk).2.2.2)) || (!(F_impl_Metric_isConfig m c))) || (!decide ((c.length : Int) = k)))) (ev_t rfl) (fun h4 => ?_) (fun h4 => ?_)
  · rw [bif_pos h4] at hF
    have q5 := ((or_t h4).imp (fun h => ((or_t h).imp (fun h => (not_t h)) (fun h => (not_t h)))) (fun h => (of_decide_eq_false (not_t h))))
    refine TC.seq ?_
    refine TC.region ?_
    refine TL.op (yq (y_assign ev_c)) rfl rfl rfl ?_
    refine TL.op (yq (y_assign ev_c)) rfl rfl rfl ?_
    refine TL.nil ?_
    refine TN.seq ?_
    refine TC.ret ?_
    refine TN.thenR ?_
    subst hF
    exact TN.ret2 rfl (ev_t rfl) (ev_t rfl) (fun w' hw => ⟨rfl, Hp.sublist hw (List.nil_sublist _)⟩)
  · rw [bif_neg h4] at hF
    have q5 := (and_imp (or_f h4) (fun h => (and_imp (or_f h) (fun h => (worksFor_t (not_f h))) (fun h => (isConfig_t (not_f h))))) (fun h => (of_decide_eq_true (not_f h))))
    have hWf := q5.1.1
    rw [wptr_t hWf.b, wblk_t hWf.b]
    have hWd := hWf.wd
    have hwl := hWf.len
    have hcx := hWf.idx q5.1.2 q5.2
    have hn56 := hWd.n56
    refine TC.skip ?_
    refine TN.seq ?_
    refine TC.seq ?_
    refine TC.region ?_
    refine TL.op (yq (y_move (ev_t rfl))) rfl rfl rfl ?_
    refine TL.op (yq (y_move (ev_t rfl))) rfl rfl rfl ?_
    refine TL.op (yq (y_move (ev_t rfl))) rfl rfl rfl ?_
    refine TL.op (y_call (vs := [(.pointer (some ⟨r1_3.1, 0, none⟩)), vc]) (v := (.int .i64 (F_impl_works_index ((F_impl_worksFor m k wk).2.1) ((F_impl_worksFor m k wk).2.2.1) c))) en_68 ⟨(ev_t rfl), (ev_t rfl), trivial⟩ (fun w hw => impl_works_index_ok w r1_3.1 r1_3.2.1 r1_3.2.2.1 r1_3.2.2.2.1 ((F_impl_worksFor m k wk).2.1) r1_3.2.2.2.2.1 r1_3.2.2.2.2.2 ((F_impl_worksFor m k wk).2.2.1) (blk_at 0 rfl hw) ((rii_tab 1 rfl) w hw) ((rii_tab 2 rfl) w hw) vc c ((ri_arg hc) w hw) (by first | assumption | omega | grind))) rfl rfl rfl ?_
    have hb6 : ((F_impl_works_index ((F_impl_worksFor m k wk).2.1) ((F_impl_worksFor m k wk).2.2.1) c)).toNat < wk.length := (by first | omega | (simp only [List.length_set, List.length_append, List.length_cons, List.length_nil, List.length_replicate]; omega) | (rw [sortI_length]; simp only [List.length_cons, List.length_nil]; omega))
    refine TL.op (yq (y_idx (k := ((F_impl_works_index ((F_impl_worksFor m k wk).2.1) ((F_impl_worksFor m k wk).2.2.1) c)).toNat) (ev_t rfl) (ev_t rfl) (by first | omega | simp) slT_25 (ri_arg hwk) hb6)) rfl rfl rfl ?_
    refine TL.op (yq (y_ldi (ev_t rfl) one_3 (ri_arg hwk) hb6)) rfl rfl rfl ?_
    refine TL.op (yq (y_assign (ev_t rfl))) rfl rfl rfl ?_
    refine TL.op (yq (y_assign ev_c)) rfl rfl rfl ?_
    refine TL.nil ?_
    refine TN.seq ?_
    refine TC.ret ?_
    subst hF
    exact TN.ret2 rfl (ev_t rfl) (ev_t rfl) (fun w' hw => ⟨rfl, Hp.sublist hw (List.nil_sublist _)⟩)

set_option maxRecDepth 4000 in
set_option maxHeartbeats 1000000 in
theorem slices_Min_Sint_int_ok (w : World) (vx : Value) (x : List Int) (hx : RI w vx x) (hp0 : 1 ≤ x.length) :
    Calls Try.prog 119 ([vx] : List Value).toArray w (Ret (.int .i64 (F_slices_Min_Sint_int x)) (Hp w [])) := by
  obtain ⟨rz, hF⟩ : ∃ rz, (F_slices_Min_Sint_int x) = rz := ⟨_, rfl⟩
  rw [hF]
  unfold F_slices_Min_Sint_int at hF
  have hlen_x := arg_len hx
  refine calls_tc Try.func119 rfl rfl rfl ?_
  change TC _ _ _ _ (Hp w []) [(0, vx)]
  refine TC.seq ?_
  refine TC.region ?_
  refine TL.op (yq (y_assign ev_c)) rfl rfl rfl ?_
  refine TL.nil ?_
  refine TN.seq ?_
  obtain ⟨c14, hcj1⟩ : ∃ c, ((bif decide ((x.length : Int) < 1) then default else (Ctl.next ())) : Ctl (Unit) (Int)) = c := ⟨_, rfl⟩
  rw [hcj1] at hF
  refine TC.cut (fun a' w' => Slots 25 [(0, vx)] a' ∧ Hp w [] w' ∧ (Ctl.next () : Ctl (Unit) (Int)) = c14) ?_ ?_
  · refine TC.seq ?_
    refine TC.region ?_
    refine TL.op (yq (y_move (ev_t rfl))) rfl rfl rfl ?_
    refine TL.op (yq (y_len (ev_t rfl) Try.underlying25 (fun w hw => ((ri_arg hx) w hw).ln))) rfl rfl rfl ?_
    refine TL.op (yq (y_lss (ev_t rfl) ev_c)) rfl rfl rfl ?_
    refine TL.nil ?_
    refine TN.seq ?_
    refine TC.cond (b := decide ((x.length : Int) < 1)) (ev_t rfl) (fun h15 => ?_) (fun h15 => ?_)
    · rw [bif_pos h15] at hcj1
      have q16 := (of_decide_eq_true h15)
      exfalso; omega
    · rw [bif_neg h15] at hcj1
      have q16 := (of_decide_eq_false h15)
      refine TC.skip ?_
      exact fun a' w' hs hw => ⟨hs.sub ⟨rfl, trivial⟩, hw, hcj1⟩
  · rintro a' w' ⟨hs', hw', hdj1⟩
    rw [← hdj1, elim_next] at hF
    try dsimp only at hF
    refine (?_ : TC _ _ _ 25 (Hp w []) [(0, vx)]) a' w' hs' hw'
    clear hs' hw' hcj1
    refine TC.seq ?_
    refine TC.region ?_
    refine TL.op (yq (y_move (ev_t rfl))) rfl rfl rfl ?_
    have hb17 : 0 < x.length := (by first | omega | (simp only [List.length_set, List.length_append, List.length_cons, List.length_nil, List.length_replicate]; omega) | (rw [sortI_length]; simp only [List.length_cons, List.length_nil]; omega))
    refine TL.op (yq (y_idx (k := 0) (ev_t rfl) ev_c (by first | omega | simp) slT_25 (ri_arg hx) hb17)) rfl rfl rfl ?_
    refine TL.op (yq (y_ldi (ev_t rfl) one_3 (ri_arg hx) hb17)) rfl rfl rfl ?_
    refine TL.op (yq (y_assign (ev_t rfl))) rfl rfl rfl ?_
    refine TL.nil ?_
    refine TN.seq ?_
    refine TC.seq ?_
    refine TC.seq ?_
    refine TC.region ?_
    refine TL.op (yq (y_assign ev_c)) rfl rfl rfl ?_
    refine TL.nil ?_
    refine TN.seq ?_
    refine TC.block ?_
    obtain ⟨c18, hc19⟩ : ∃ c, F_slices_Min_Sint_int_L1 x ((x.length - 1) + 1) ((x.getD 0 0), 1) = c := ⟨_, rfl⟩
    rw [hc19] at hF
    refine TC.loop (ι := Nat × Int × Nat) (fun (fu1, m1, i1) => [(0, vx), (3, (.int .i64 m1)), (4, (.int .i64 (i1 : Int)))]) (fun (fu1, m1, i1) => Hp w []) (fun (fu1, m1, i1) => (i1 ≤ max x.length 1) ∧ x.length - i1 < fu1 ∧ F_slices_Min_Sint_int_L1 x fu1 (m1, i1) = c18) (fun (fu1, m1, i1) => fu1) ((x.length - 1) + 1, (x.getD 0 0), 1) ⟨(by first | omega | (simp [-List.getD_eq_getElem?_getD] <;> omega)), (by omega), hc19⟩ ⟨rfl, rfl, rfl, trivial⟩ (fun w hw => hw) ?_
    rintro ⟨fu1, m1, i1⟩ hJ1
    obtain ⟨hi1_0, hmu1, hL1⟩ : (i1 ≤ max x.length 1) ∧ x.length - i1 < fu1 ∧ F_slices_Min_Sint_int_L1 x fu1 (m1, i1) = c18 := hJ1
    change TC _ _ _ _ (Hp w []) [(0, vx), (3, (.int .i64 m1)), (4, (.int .i64 (i1 : Int)))]
    obtain ⟨mf1, rfl⟩ : ∃ m, fu1 = m + 1 := ⟨fu1 - 1, by omega⟩
    rw [F_slices_Min_Sint_int_L1_s] at hL1
    refine TC.seq ?_
    refine TC.seq ?_
    refine TC.region ?_
    refine TL.op (yq (y_move (ev_t rfl))) rfl rfl rfl ?_
    refine TL.op (yq (y_move (ev_t rfl))) rfl rfl rfl ?_
    refine TL.op (yq (y_len (ev_t rfl) Try.underlying25 (fun w hw => ((ri_arg hx) w hw).ln))) rfl rfl rfl ?_
    refine TL.op (yq (y_lss (ev_t rfl) (ev_t rfl))) rfl rfl rfl ?_
    refine TL.nil ?_
    refine TN.seq ?_
    refine TC.cond (b := decide ((i1 : Int) < (x.length : Int))) (ev_t rfl) (fun h20 => ?_) (fun h20 => ?_)
    · rw [bif_pos h20] at hL1
      have q21 := (of_decide_eq_true h20)
      refine TC.skip ?_
      refine TN.seq ?_
      refine TC.seq ?_
      refine TC.block ?_
      refine TC.region ?_
      refine TL.op (yq (y_move (ev_t rfl))) rfl rfl rfl ?_
      refine TL.op (yq (y_move (ev_t rfl))) rfl rfl rfl ?_
      refine TL.op (yq (y_move (ev_t rfl))) rfl rfl rfl ?_
      have hb22 : i1 < x.length := (by first | omega | (simp only [List.length_set, List.length_append, List.length_cons, List.length_nil, List.length_replicate]; omega) | (rw [sortI_length]; simp only [List.length_cons, List.length_nil]; omega))
      refine TL.op (yq (y_idx (k := i1) (ev_t rfl) (ev_t rfl) (by first | omega | simp) slT_25 (ri_arg hx) hb22)) rfl rfl rfl ?_
      refine TL.op (yq (y_ldi (ev_t rfl) one_3 (ri_arg hx) hb22)) rfl rfl rfl ?_
      refine TL.op (yq (y_min (ev_t rfl) (ev_t rfl))) rfl rfl rfl ?_
      refine TL.op (yq (y_assign (ev_t rfl))) rfl rfl rfl ?_
      refine TL.nil ?_
      refine TN.blockN ?_
      refine TN.seq ?_
      refine TC.region ?_
      refine TL.op (yq (y_move (ev_t rfl))) rfl rfl rfl ?_
      refine TL.op (yq (y_add (ev_t rfl) ev_c (by unfold In64; omega))) rfl rfl rfl ?_
      refine TL.op (yq (y_assign (ev_t rfl))) rfl rfl rfl ?_
      refine TL.nil ?_
      exact TN.hand (mf1, min m1 (x.getD i1 0), (i1 + 1)) ⟨(by first | omega | (simp [-List.getD_eq_getElem?_getD] <;> omega)), (by omega), hL1⟩ (Nat.lt_succ_self _) ⟨rfl, rfl, rfl, trivial⟩ (fun w hw => hw)
    · rw [bif_neg h20] at hL1
      have q21 := (of_decide_eq_false h20)
      refine TC.exit ?_
      refine TN.thenE ?_
      refine TN.thenE ?_
      rw [← hL1, elim_next] at hF
      try dsimp only at hF
      refine TN.blockH ?_
      refine TN.seq ?_
      refine TC.seq ?_
      refine TC.region ?_
      refine TL.op (yq (y_move (ev_t rfl))) rfl rfl rfl ?_
      refine TL.op (yq (y_assign (ev_t rfl))) rfl rfl rfl ?_
      refine TL.nil ?_
      refine TN.seq ?_
      refine TC.ret ?_
      subst hF
      exact TN.ret1 rfl (ev_t rfl) (fun w' hw => ⟨rfl, hw⟩)

set_option maxRecDepth 4000 in
set_option maxHeartbeats 1000000 in
theorem impl_leastWork_ok (w : World) (vm : Value) (um : List Value) (m : List (List Int)) (hm : RII w vm um m) (va : Value) (a : List Int) (ha : RI w va a) (vreqs : Value) (reqs : List Int) (hreqs : RI w vreqs reqs) (hp0 : Sv m a reqs) :
    Calls Try.prog 86 ([(.agg #[vm]), va, vreqs] : List Value).toArray w (Ret (.int .i64 (F_impl_leastWork m a reqs)) (Hp w [])) := by
  obtain ⟨rz, hF⟩ : ∃ rz, (F_impl_leastWork m a reqs) = rz := ⟨_, rfl⟩
  rw [hF]
  unfold F_impl_leastWork at hF
  have hS := hp0
  have hKs := hS.ks
  have hWd := hKs.wd
  have hix := hKs.index_lt hS.cf rfl
  have h56 := hWd.n56
  have hn1 := hWd.n1
  have hdl := hWd.len
  have hr60 := hS.r60
  have hlb := lists_bd hWd a reqs hix
  have hl1 := hlb.1
  have hl2 := (hlb.2 reqs.length (by omega)).1
  have hlen_m := argT_len hm
  have hlen_a := arg_len ha
  have hlen_reqs := arg_len hreqs
  refine calls_tc Try.func86 rfl rfl rfl ?_
  change TC _ _ _ _ (Hp w []) [(0, (.agg #[vm])), (1, va), (2, vreqs)]
  refine TC.seq ?_
  refine TC.region ?_
  refine TL.box (ev_t rfl) rfl (fun g0_0 => ?_)
  refine TL.op (yq (y_assign ev_c)) rfl rfl rfl ?_
  refine TL.nil ?_
  refine TN.seq ?_
  refine TC.seq ?_
  refine TC.region ?_
  refine TL.op (yq (y_ldagg (cs := [vm]) 0 (ev_t rfl) agg_29 rfl)) rfl rfl rfl ?_
  refine TL.op (yq (y_move (ev_t rfl))) rfl rfl rfl ?_
  refine TL.op (yq (y_len (ev_t rfl) Try.underlying25 (fun w hw => ((ri_arg ha) w hw).ln))) rfl rfl rfl ?_
  refine TL.callr (ι := Nat × Value × Value × List Value × Value × List Value) (vs := [(.agg #[vm]), (.int .i64 (a.length : Int))]) (fun i => (.pointer (some ⟨i.1, 0, none⟩))) (fun i => [.blk i.1 70 [i.2.1, i.2.2.1, i.2.2.2.2.1], tabI 25 3 i.2.2.1 i.2.2.2.1 ((F_impl_worksOf m (a.length : Int)).1), tabI 25 3 i.2.2.2.2.1 i.2.2.2.2.2 ((F_impl_worksOf m (a.length : Int)).2)]) en_56 ⟨(ev_t rfl), (ev_t rfl), trivial⟩ rfl (fun w hw => impl_worksOf_ok w vm um m ((rii_arg hm) w hw) (a.length : Int) (by first | assumption | omega | grind)) (fun r1_3 => ?_)
  refine TL.op (yq (y_move (ev_t rfl))) rfl rfl rfl ?_
  refine TL.op (yq (y_move (ev_t rfl))) rfl rfl rfl ?_
  refine TL.callr (ι := Value × List Value) (vs := [(.pointer (some ⟨r1_3.1, 0, none⟩)), va, vreqs]) (fun i => i.1) (fun i => [tabI 25 3 i.1 i.2 (F_impl_works_lists ((F_impl_worksOf m (a.length : Int)).1) ((F_impl_worksOf m (a.length : Int)).2) a reqs)]) en_88 ⟨(ev_t rfl), (ev_t rfl), (ev_t rfl), trivial⟩ rfl (fun w hw => impl_works_lists_ok w r1_3.1 r1_3.2.1 r1_3.2.2.1 r1_3.2.2.2.1 ((F_impl_worksOf m (a.length : Int)).1) r1_3.2.2.2.2.1 r1_3.2.2.2.2.2 ((F_impl_worksOf m (a.length : Int)).2) (blk_at 0 rfl hw) ((rii_tab 1 rfl) w hw) ((rii_tab 2 rfl) w hw) va a ((ri_arg ha) w hw) vreqs reqs ((ri_arg hreqs) w hw) (by first | assumption | omega | grind) (by first | assumption | omega | grind) (by first | assumption | omega | grind)) (fun r1_6 => ?_)
  refine TL.op (yq (y_move (ev_t rfl))) rfl rfl rfl ?_
  refine TL.op (yq (y_len (ev_t rfl) Try.underlying25 (fun w hw => ((ri_arg hreqs) w hw).ln))) rfl rfl rfl ?_
  have hb2 : reqs.length < (F_impl_works_lists ((F_impl_worksOf m (a.length : Int)).1) ((F_impl_worksOf m (a.length : Int)).2) a reqs).length := (by first | omega | (simp only [List.length_set, List.length_append, List.length_cons, List.length_nil, List.length_replicate]; omega) | (rw [sortI_length]; simp only [List.length_cons, List.length_nil]; omega))
  refine TL.op (yq (y_idx (k := reqs.length) (ev_t rfl) (ev_t rfl) (by first | omega | simp) slT_22 (fun w hw => ((rii_tab 0 rfl) w hw).1) hb2)) rfl rfl rfl ?_
  refine TL.op (yq (y_ldT 0 (ev_t rfl) one_25 rfl hb2)) rfl rfl rfl ?_
  refine TL.op (y_call (vs := [(r1_6.2.getD reqs.length undef)]) (v := (.int .i64 (F_slices_Min_Sint_int ((F_impl_works_lists ((F_impl_worksOf m (a.length : Int)).1) ((F_impl_worksOf m (a.length : Int)).2) a reqs).getD reqs.length [])))) en_119 ⟨(ev_t rfl), trivial⟩ (fun w hw => slices_Min_Sint_int_ok w (r1_6.2.getD reqs.length undef) ((F_impl_works_lists ((F_impl_worksOf m (a.length : Int)).1) ((F_impl_worksOf m (a.length : Int)).2) a reqs).getD reqs.length []) ((ri_tab 0 reqs.length rfl hb2) w hw) (by first | assumption | omega | grind))) rfl rfl rfl ?_
  refine TL.op (yq (y_assign (ev_t rfl))) rfl rfl rfl ?_
  refine TL.nil ?_
  refine TN.seq ?_
  refine TC.ret ?_
  subst hF
  exact TN.ret1 rfl (ev_t rfl) (fun w' hw => ⟨rfl, Hp.sublist hw (List.nil_sublist _)⟩)

set_option maxRecDepth 4000 in
set_option maxHeartbeats 1000000 in
theorem impl_LeastWork_ok (w : World) (vm : Value) (um : List Value) (m : List (List Int)) (hm : RII w vm um m) (va : Value) (a : List Int) (ha : RI w va a) (vreqs : Value) (reqs : List Int) (hreqs : RI w vreqs reqs)  :
    Calls Try.prog 45 ([(.agg #[vm]), va, vreqs] : List Value).toArray w (Ret (.tuple #[(.int .i64 ((F_impl_LeastWork m a reqs).1)), (.bool ((F_impl_LeastWork m a reqs).2))]) (Hp w [])) := by
  obtain ⟨rz, hF⟩ : ∃ rz, (F_impl_LeastWork m a reqs) = rz := ⟨_, rfl⟩
  rw [hF]
  unfold F_impl_LeastWork at hF
  have hlen_m := argT_len hm
  have hlen_a := arg_len ha
  have hlen_reqs := arg_len hreqs
  refine calls_tc Try.func45 rfl rfl rfl ?_
  change TC _ _ _ _ (Hp w []) [(0, (.agg #[vm])), (1, va), (2, vreqs)]
  refine TC.seq ?_
  refine TC.region ?_
  refine TL.box (ev_t rfl) rfl (fun g0_0 => ?_)
  refine TL.op (yq (y_assign ev_c)) rfl rfl rfl ?_
  refine TL.op (yq (y_assign ev_c)) rfl rfl rfl ?_
  refine TL.nil ?_
  refine TN.seq ?_
  refine TC.seq ?_
  refine TC.seq ?_
  refine TC.region ?_
  refine TL.op (yq (y_ldagg (cs := [vm]) 0 (ev_t rfl) agg_29 rfl)) rfl rfl rfl ?_
  refine TL.op (yq (y_move (ev_t rfl))) rfl rfl rfl ?_
  refine TL.op (yq (y_move (ev_t rfl))) rfl rfl rfl ?_
  refine TL.op (y_call (vs := [(.agg #[vm]), va, vreqs]) (v := (.bool (F_impl_isServed m a reqs))) en_67 ⟨(ev_t rfl), (ev_t rfl), (ev_t rfl), trivial⟩ (fun w hw => impl_isServed_ok w vm um m ((rii_arg hm) w hw) va a ((ri_arg ha) w hw) vreqs reqs ((ri_arg hreqs) w hw))) rfl rfl rfl ?_
  refine TL.op (yq (y_not (ev_t rfl))) rfl rfl rfl ?_
  refine TL.nil ?_
  refine TN.seq ?_
  refine TC.cond (b := !(F_impl_isServed m a reqs)) (ev_t rfl) (fun h3 => ?_) (fun h3 => ?_)
  · rw [bif_pos h3] at hF
    have q4 := (not_t h3)
    refine TC.seq ?_
    refine TC.region ?_
    refine TL.op (yq (y_assign ev_c)) rfl rfl rfl ?_
    refine TL.op (yq (y_assign ev_c)) rfl rfl rfl ?_
    refine TL.nil ?_
    refine TN.seq ?_
    refine TC.ret ?_
    refine TN.thenR ?_
    subst hF
    exact TN.ret2 rfl (ev_t rfl) (ev_t rfl) (fun w' hw => ⟨rfl, Hp.sublist hw (List.nil_sublist _)⟩)
  · rw [bif_neg h3] at hF
    have q4 := (isServed_t (not_f h3))
    refine TC.skip ?_
    refine TN.seq ?_
    refine TC.seq ?_
    refine TC.region ?_
    refine TL.op (yq (y_ldagg (cs := [vm]) 0 (ev_t rfl) agg_29 rfl)) rfl rfl rfl ?_
    refine TL.op (yq (y_move (ev_t rfl))) rfl rfl rfl ?_
    refine TL.op (yq (y_move (ev_t rfl))) rfl rfl rfl ?_
    refine TL.op (y_call (vs := [(.agg #[vm]), va, vreqs]) (v := (.int .i64 (F_impl_leastWork m a reqs))) en_86 ⟨(ev_t rfl), (ev_t rfl), (ev_t rfl), trivial⟩ (fun w hw => impl_leastWork_ok w vm um m ((rii_arg hm) w hw) va a ((ri_arg ha) w hw) vreqs reqs ((ri_arg hreqs) w hw) (by first | assumption | omega | grind))) rfl rfl rfl ?_
    refine TL.op (yq (y_assign (ev_t rfl))) rfl rfl rfl ?_
    refine TL.op (yq (y_assign ev_c)) rfl rfl rfl ?_
    refine TL.nil ?_
    refine TN.seq ?_
    refine TC.ret ?_
    subst hF
    exact TN.ret2 rfl (ev_t rfl) (ev_t rfl) (fun w' hw => ⟨rfl, Hp.sublist hw (List.nil_sublist _)⟩)

set_option maxRecDepth 4000 in
set_option maxHeartbeats 1000000 in
theorem impl_GrowthOf_ok (w : World) (vm : Value) (um : List Value) (m : List (List Int)) (hm : RII w vm um m) (k : Int) (vwk : Value) (wk : List Int) (hwk : RI w vwk wk) (r : Int)  :
    Calls Try.prog 37 ([(.agg #[vm]), (.int .i64 k), vwk, (.int .i64 r)] : List Value).toArray w (Ret (.tuple #[(.int .i64 ((F_impl_GrowthOf m k wk r).1)), (.bool ((F_impl_GrowthOf m k wk r).2))]) (Hp w [])) := by
  obtain ⟨rz, hF⟩ : ∃ rz, (F_impl_GrowthOf m k wk r) = rz := ⟨_, rfl⟩
  rw [hF]
  unfold F_impl_GrowthOf at hF
  have hlen_m := argT_len hm
  have hlen_wk := arg_len hwk
  refine calls_tc Try.func37 rfl rfl rfl ?_
  change TC _ _ _ _ (Hp w []) [(0, (.agg #[vm])), (1, (.int .i64 k)), (2, vwk), (3, (.int .i64 r))]
  refine TC.seq ?_
  refine TC.region ?_
  refine TL.box (ev_t rfl) rfl (fun g0_0 => ?_)
  refine TL.op (yq (y_assign ev_c)) rfl rfl rfl ?_
  refine TL.op (yq (y_assign ev_c)) rfl rfl rfl ?_
  refine TL.nil ?_
  refine TN.seq ?_
  refine TC.seq ?_
  refine TC.region ?_
  refine TL.op (yq (y_ldagg (cs := [vm]) 0 (ev_t rfl) agg_29 rfl)) rfl rfl rfl ?_
  refine TL.op (yq (y_move (ev_t rfl))) rfl rfl rfl ?_
  refine TL.op (yq (y_move (ev_t rfl))) rfl rfl rfl ?_
  refine TL.op (yq (y_move (ev_t rfl))) rfl rfl rfl ?_
  refine TL.callr (ι := Value) (vs := [(.agg #[vm]), (.int .i64 k), vwk, (.int .i64 r)]) (fun i => (.tuple #[i, (.bool ((F_impl_StepWork m k wk r).2))])) (fun i => [rowI 3 i ((F_impl_StepWork m k wk r).1)]) en_43 ⟨(ev_t rfl), (ev_t rfl), (ev_t rfl), (ev_t rfl), trivial⟩ rfl (fun w hw => impl_StepWork_ok w vm um m ((rii_arg hm) w hw) k vwk wk ((ri_arg hwk) w hw) r) (fun r1_4 => ?_)
  refine TL.op (yq (y_move (ev_t rfl))) rfl rfl rfl ?_
  refine TL.op (yq (y_extract (ev_t rfl) rfl)) rfl rfl rfl ?_
  refine TL.op (yq (y_extract (ev_t rfl) rfl)) rfl rfl rfl ?_
  refine TL.op (yq (y_assign (ev_t rfl))) rfl rfl rfl ?_
  refine TL.op (yq (y_assign (ev_t rfl))) rfl rfl rfl ?_
  refine TL.nil ?_
  refine TN.seq ?_
  refine TC.seq ?_
  refine TC.seq ?_
  refine TC.region ?_
  refine TL.op (yq (y_move (ev_t rfl))) rfl rfl rfl ?_
  refine TL.op (yq (y_not (ev_t rfl))) rfl rfl rfl ?_
  refine TL.nil ?_
  refine TN.seq ?_
  refine TC.cond (b := !((F_impl_StepWork m k wk r).2)) (ev_t rfl) (fun h15 => ?_) (fun h15 => ?_)
  · rw [bif_pos h15] at hF
    have q16 := (not_t h15)
    refine TC.seq ?_
    refine TC.region ?_
    refine TL.op (yq (y_assign ev_c)) rfl rfl rfl ?_
    refine TL.op (yq (y_assign ev_c)) rfl rfl rfl ?_
    refine TL.nil ?_
    refine TN.seq ?_
    refine TC.ret ?_
    refine TN.thenR ?_
    subst hF
    exact TN.ret2 rfl (ev_t rfl) (ev_t rfl) (fun w' hw => ⟨rfl, Hp.sublist hw (List.nil_sublist _)⟩)
  · rw [bif_neg h15] at hF
    have q16 := (not_f h15)
    have hsb := step_bd q16
    have hsl := hsb.1
    refine TC.skip ?_
    refine TN.seq ?_
    refine TC.seq ?_
    refine TC.region ?_
    refine TL.op (yq (y_assign ev_c)) rfl rfl rfl ?_
    refine TL.nil ?_
    refine TN.seq ?_
    refine TC.seq ?_
    refine TC.seq ?_
    refine TC.region ?_
    refine TL.op (yq (y_move (ev_t rfl))) rfl rfl rfl ?_
    refine TL.op (yq (y_len (ev_t rfl) Try.underlying25 (fun w hw => ((ri_row 0 rfl) w hw).ln))) rfl rfl rfl ?_
    refine TL.op (yq (y_move ev_c)) rfl rfl rfl ?_
    refine TL.nil ?_
    refine TN.seq ?_
    refine TC.block ?_
    obtain ⟨c17, hc18⟩ : ∃ c, F_impl_GrowthOf_L1 m k wk r ((((F_impl_StepWork m k wk r).1.length) - 0) + 1) (0, 0) = c := ⟨_, rfl⟩
    rw [hc18] at hF
    refine TC.loop (ι := Nat × Int × Nat) (fun (fu1, most1, k27_1) => [(2, vwk), (12, (.int .i64 most1)), (25, r1_4), (26, (.int .i64 ((F_impl_StepWork m k wk r).1.length : Int))), (27, (.int .i64 (k27_1 : Int)))]) (fun (fu1, most1, k27_1) => Hp w [rowI 3 r1_4 ((F_impl_StepWork m k wk r).1)]) (fun (fu1, most1, k27_1) => (k27_1 ≤ ((F_impl_StepWork m k wk r).1.length)) ∧ ((F_impl_StepWork m k wk r).1.length) - k27_1 < fu1 ∧ F_impl_GrowthOf_L1 m k wk r fu1 (most1, k27_1) = c17) (fun (fu1, most1, k27_1) => fu1) ((((F_impl_StepWork m k wk r).1.length) - 0) + 1, 0, 0) ⟨(by first | omega | (simp [-List.getD_eq_getElem?_getD] <;> omega)), (by omega), hc18⟩ ⟨rfl, rfl, rfl, rfl, rfl, trivial⟩ (fun w hw => Hp.sublist hw (.cons_cons _ (.cons _ .slnil))) ?_
    rintro ⟨fu1, most1, k27_1⟩ hJ1
    obtain ⟨hi1_0, hmu1, hL1⟩ : (k27_1 ≤ ((F_impl_StepWork m k wk r).1.length)) ∧ ((F_impl_StepWork m k wk r).1.length) - k27_1 < fu1 ∧ F_impl_GrowthOf_L1 m k wk r fu1 (most1, k27_1) = c17 := hJ1
    change TC _ _ _ _ (Hp w [rowI 3 r1_4 ((F_impl_StepWork m k wk r).1)]) [(2, vwk), (12, (.int .i64 most1)), (25, r1_4), (26, (.int .i64 ((F_impl_StepWork m k wk r).1.length : Int))), (27, (.int .i64 (k27_1 : Int)))]
    obtain ⟨mf1, rfl⟩ : ∃ m, fu1 = m + 1 := ⟨fu1 - 1, by omega⟩
    rw [F_impl_GrowthOf_L1_s] at hL1
    have h1 := hsb.2.1 k27_1
    have h2 := hsb.2.2 k27_1
    refine TC.seq ?_
    refine TC.region ?_
    refine TL.op (yq (y_lss (ev_t rfl) (ev_t rfl))) rfl rfl rfl ?_
    refine TL.nil ?_
    refine TN.seq ?_
    refine TC.seq ?_
    refine TC.cond (b := decide ((k27_1 : Int) < ((F_impl_StepWork m k wk r).1.length : Int))) (ev_t rfl) (fun h19 => ?_) (fun h19 => ?_)
    · rw [bif_pos h19] at hL1
      have q20 := (of_decide_eq_true h19)
      refine TC.skip ?_
      refine TN.seq ?_
      refine TC.seq ?_
      refine TC.block ?_
      refine TC.seq ?_
      refine TC.region ?_
      refine TL.op (yq (y_move (ev_t rfl))) rfl rfl rfl ?_
      have hb21 : k27_1 < (F_impl_StepWork m k wk r).1.length := (by first | omega | (simp only [List.length_set, List.length_append, List.length_cons, List.length_nil, List.length_replicate]; omega) | (rw [sortI_length]; simp only [List.length_cons, List.length_nil]; omega))
      refine TL.op (yq (y_idx (k := k27_1) (ev_t rfl) (ev_t rfl) (by first | omega | simp) slT_25 (ri_row 0 rfl) hb21)) rfl rfl rfl ?_
      refine TL.op (yq (y_ldi (ev_t rfl) one_3 (ri_row 0 rfl) hb21)) rfl rfl rfl ?_
      refine TL.op (yq (y_assign (ev_t rfl))) rfl rfl rfl ?_
      refine TL.op (yq (y_assign (ev_t rfl))) rfl rfl rfl ?_
      refine TL.nil ?_
      refine TN.seq ?_
      refine TC.region ?_
      refine TL.op (yq (y_move (ev_t rfl))) rfl rfl rfl ?_
      refine TL.op (yq (y_move (ev_t rfl))) rfl rfl rfl ?_
      refine TL.op (yq (y_move (ev_t rfl))) rfl rfl rfl ?_
      refine TL.op (yq (y_move (ev_t rfl))) rfl rfl rfl ?_
      have hb22 : k27_1 < wk.length := (by first | omega | (simp only [List.length_set, List.length_append, List.length_cons, List.length_nil, List.length_replicate]; omega) | (rw [sortI_length]; simp only [List.length_cons, List.length_nil]; omega))
      refine TL.op (yq (y_idx (k := k27_1) (ev_t rfl) (ev_t rfl) (by first | omega | simp) slT_25 (ri_arg hwk) hb22)) rfl rfl rfl ?_
      refine TL.op (yq (y_ldi (ev_t rfl) one_3 (ri_arg hwk) hb22)) rfl rfl rfl ?_
      refine TL.op (yq (y_sub (ev_t rfl) (ev_t rfl) (by unfold In64; omega))) rfl rfl rfl ?_
      refine TL.op (yq (y_max (ev_t rfl) (ev_t rfl))) rfl rfl rfl ?_
      refine TL.op (yq (y_assign (ev_t rfl))) rfl rfl rfl ?_
      refine TL.nil ?_
      refine TN.blockN ?_
      refine TN.seq ?_
      refine TC.region ?_
      refine TL.op (yq (y_add (ev_t rfl) ev_c (by unfold In64; omega))) rfl rfl rfl ?_
      refine TL.op (yq (y_move (ev_t rfl))) rfl rfl rfl ?_
      refine TL.nil ?_
      exact TN.hand (mf1, max most1 (((F_impl_StepWork m k wk r).1.getD k27_1 0) - (wk.getD k27_1 0)), (k27_1 + 1)) ⟨(by first | omega | (simp [-List.getD_eq_getElem?_getD] <;> omega)), (by omega), hL1⟩ (Nat.lt_succ_self _) ⟨rfl, rfl, rfl, rfl, rfl, trivial⟩ (fun w hw => hw)
    · rw [bif_neg h19] at hL1
      have q20 := (of_decide_eq_false h19)
      refine TC.exit ?_
      refine TN.thenE ?_
      refine TN.thenE ?_
      rw [← hL1, elim_next] at hF
      try dsimp only at hF
      refine TN.blockH ?_
      refine TN.seq ?_
      refine TC.seq ?_
      refine TC.region ?_
      refine TL.op (yq (y_move (ev_t rfl))) rfl rfl rfl ?_
      refine TL.op (yq (y_assign (ev_t rfl))) rfl rfl rfl ?_
      refine TL.op (yq (y_assign ev_c)) rfl rfl rfl ?_
      refine TL.nil ?_
      refine TN.seq ?_
      refine TC.ret ?_
      subst hF
      exact TN.ret2 rfl (ev_t rfl) (ev_t rfl) (fun w' hw => ⟨rfl, Hp.sublist hw (List.nil_sublist _)⟩)

set_option maxRecDepth 4000 in
set_option maxHeartbeats 1000000 in
theorem impl_FarConfig_ok (w : World) (vm : Value) (um : List Value) (m : List (List Int)) (hm : RII w vm um m) (k : Int) (vwk : Value) (wk : List Int) (hwk : RI w vwk wk) (r : Int)  :
    Calls Try.prog 23 ([(.agg #[vm]), (.int .i64 k), vwk, (.int .i64 r)] : List Value).toArray w (fun e w' => ∃ i : Value, e = .returned (.tuple #[i, (.bool ((F_impl_FarConfig m k wk r).2))]) ∧ Hp w [rowI 3 i ((F_impl_FarConfig m k wk r).1)] w') := by
  obtain ⟨rz, hF⟩ : ∃ rz, (F_impl_FarConfig m k wk r) = rz := ⟨_, rfl⟩
  rw [hF]
  unfold F_impl_FarConfig at hF
  have hlen_m := argT_len hm
  have hlen_wk := arg_len hwk
  refine calls_tc Try.func23 rfl rfl rfl ?_
  change TC _ _ _ _ (Hp w []) [(0, (.agg #[vm])), (1, (.int .i64 k)), (2, vwk), (3, (.int .i64 r))]
  refine TC.seq ?_
  refine TC.region ?_
  refine TL.box (ev_t rfl) rfl (fun g0_0 => ?_)
  refine TL.op (yq (y_assign ev_c)) rfl rfl rfl ?_
  refine TL.op (yq (y_assign ev_c)) rfl rfl rfl ?_
  refine TL.nil ?_
  refine TN.seq ?_
  refine TC.seq ?_
  refine TC.region ?_
  refine TL.op (yq (y_ldagg (cs := [vm]) 0 (ev_t rfl) agg_29 rfl)) rfl rfl rfl ?_
  refine TL.op (yq (y_move (ev_t rfl))) rfl rfl rfl ?_
  refine TL.op (yq (y_move (ev_t rfl))) rfl rfl rfl ?_
  refine TL.callr (ι := Nat × Value × Value × List Value × Value × List Value) (vs := [(.agg #[vm]), (.int .i64 k), vwk]) (fun i => (.tuple #[(wptr ((F_impl_worksFor m k wk).1) i.1), (.bool ((F_impl_worksFor m k wk).2.2.2))])) (fun i => [wblk ((F_impl_worksFor m k wk).1) i.1 70 [i.2.1, i.2.2.1, i.2.2.2.2.1], tabI 25 3 i.2.2.1 i.2.2.2.1 ((F_impl_worksFor m k wk).2.1), tabI 25 3 i.2.2.2.2.1 i.2.2.2.2.2 ((F_impl_worksFor m k wk).2.2.1)]) en_60 ⟨(ev_t rfl), (ev_t rfl), (ev_t rfl), trivial⟩ rfl (fun w hw => impl_worksFor_ok w vm um m ((rii_arg hm) w hw) k vwk wk ((ri_arg hwk) w hw)) (fun r1_3 => ?_)
  refine TL.op (yq (y_move (ev_t rfl))) rfl rfl rfl ?_
  refine TL.op (yq (y_extract (ev_t rfl) rfl)) rfl rfl rfl ?_
  refine TL.op (yq (y_extract (ev_t rfl) rfl)) rfl rfl rfl ?_
  refine TL.op (yq (y_assign (ev_t rfl))) rfl rfl rfl ?_
  refine TL.op (yq (y_assign (ev_t rfl))) rfl rfl rfl ?_
  refine TL.nil ?_
  refine TN.seq ?_
  refine TC.seq ?_
  refine TC.seq ?_
  refine TC.region ?_
  refine TL.op (yq (y_move (ev_t rfl))) rfl rfl rfl ?_
  refine TL.op (yq (y_not (ev_t rfl))) rfl rfl rfl ?_
  refine TL.op (yq (y_move (ev_t rfl))) rfl rfl rfl ?_
  refine TL.opw (w_f rfl rfl rfl) (fun hg => yq (y_ldagg (cs := [vm]) 3 (ev_t rfl) agg_29 rfl)) rfl rfl ?_
  refine TL.opw (w_f rfl rfl rfl) (fun hg => yq (y_move (ev_t rfl))) rfl rfl ?_
  refine TL.opw (w_f rfl rfl rfl) (fun hg => y_call (vs := [(.agg #[vm]), (.int .i64 r)]) (v := (.bool ((decide (0 ≤ r)) && (decide (r ≤ ((m.length : Int) - 1)))))) en_61 ⟨(ev_g rfl hg), (ev_g rfl hg), trivial⟩ (fun w hw => impl_Metric_isPoint_ok w vm um m ((rii_arg hm) w hw) r)) rfl rfl ?_
  refine TL.opw (w_f rfl rfl rfl) (fun hg => yq (y_not (ev_g rfl hg))) rfl rfl ?_
  refine TL.op (yq (y_or (ev_t rfl) (fun hq => (ev_g rfl hq)))) rfl rfl rfl ?_
  refine TL.nil ?_
  refine TN.seq ?_
  refine TC.cond (b := ((!((F_impl_worksFor m k wk).2.2.2)) || (!((decide (0 ≤ r)) && (decide (r ≤ ((m.length : Int) - 1))))))) (ev_t rfl) (fun h45 => ?_) (fun h45 => ?_)
  · rw [bif_pos h45] at hF
    have q46 := ((or_t h45).imp (fun h => (not_t h)) (fun h => ((and_f (not_t h)).imp (fun h => (of_decide_eq_false h)) (fun h => (of_decide_eq_false h)))))
    refine TC.seq ?_
    refine TC.region ?_
    refine TL.op (yq (y_assign ev_c)) rfl rfl rfl ?_
    refine TL.op (yq (y_assign ev_c)) rfl rfl rfl ?_
    refine TL.nil ?_
    refine TN.seq ?_
    refine TC.ret ?_
    refine TN.thenR ?_
    subst hF
    refine TN.cls (fun w hw => hw.nil 3 1) ?_
    exact TN.ret2 rfl (ev_t rfl) (ev_t rfl) (fun w' hw => ⟨(.slice none 0 0), rfl, Hp.sublist hw (.cons_cons _ (.cons _ (.cons _ (.cons _ (.cons _ .slnil)))))⟩)
  · rw [bif_neg h45] at hF
    have q46 := (and_imp (or_f h45) (fun h => (worksFor_t (not_f h))) (fun h => (and_imp (and_t (not_f h)) (fun h => (of_decide_eq_true h)) (fun h => (of_decide_eq_true h)))))
    have hWf := q46.1
    rw [wptr_t hWf.b, wblk_t hWf.b]
    have hWd := hWf.wd
    have hwl := hWf.len
    have hwe := hWf.el
    have hTab := hWf.ks.tab
    have h56 := hWd.n56
    refine TC.skip ?_
    refine TN.seq ?_
    refine TC.seq ?_
    refine TC.region ?_
    refine TL.op (yq (y_assign ev_c)) rfl rfl rfl ?_
    refine TL.nil ?_
    refine TN.seq ?_
    refine TC.seq ?_
    refine TC.region ?_
    refine TL.op (yq (y_assign ev_c)) rfl rfl rfl ?_
    refine TL.nil ?_
    refine TN.seq ?_
    refine TC.seq ?_
    refine TC.seq ?_
    refine TC.region ?_
    refine TL.op (yq (y_move (ev_t rfl))) rfl rfl rfl ?_
    refine TL.op (yq (y_nilp (ev_t rfl))) rfl rfl rfl ?_
    refine TL.op (yq (y_fa (fa_70_1 r1_3.1) (ev_t rfl))) rfl rfl rfl ?_
    refine TL.op (yq (y_ldb 0 (ev_t rfl) one_22 rfl rfl)) rfl rfl rfl ?_
    refine TL.op (yq (y_len (ev_t rfl) Try.underlying22 (fun w hw => ((fun w hw => ((rii_tab 1 rfl) w hw).1) w hw).ln))) rfl rfl rfl ?_
    refine TL.op (yq (y_move ev_c)) rfl rfl rfl ?_
    refine TL.nil ?_
    refine TN.seq ?_
    refine TC.block ?_
    obtain ⟨c48, hc49⟩ : ∃ c, F_impl_FarConfig_L1 m k wk r ((((F_impl_worksFor m k wk).2.1.length) - 0) + 1) (([]), 1073741824, 0) = c := ⟨_, rfl⟩
    rw [hc49] at hF
    refine TC.loop (ι := Nat × List Int × Int × Nat × Value) (fun (fu1, k12_1, k13_1, k39_1, vk12_1) => [(2, vwk), (3, (.int .i64 r)), (4, (.pointer (some ⟨g0_0, 0, none⟩))), (12, vk12_1), (13, (.int .i64 k13_1)), (37, r1_3.2.2.1), (38, (.int .i64 ((F_impl_worksFor m k wk).2.1.length : Int))), (39, (.int .i64 (k39_1 : Int)))]) (fun (fu1, k12_1, k13_1, k39_1, vk12_1) => Hp w [tabI 25 3 r1_3.2.2.1 r1_3.2.2.2.1 ((F_impl_worksFor m k wk).2.1), .blk g0_0 29 [vm]]) (fun (fu1, k12_1, k13_1, k39_1, vk12_1) => (k39_1 ≤ ((F_impl_worksFor m k wk).2.1.length)) ∧ (-1000000000 ≤ k13_1) ∧ (k13_1 ≤ 1073741824) ∧ (k12_1.length ≤ 3) ∧ (∀ w', Hp w [tabI 25 3 r1_3.2.2.1 r1_3.2.2.2.1 ((F_impl_worksFor m k wk).2.1)] w' → Hp w [rowI 3 vk12_1 k12_1] w') ∧ ((F_impl_worksFor m k wk).2.1.length) - k39_1 < fu1 ∧ F_impl_FarConfig_L1 m k wk r fu1 (k12_1, k13_1, k39_1) = c48) (fun (fu1, k12_1, k13_1, k39_1, vk12_1) => fu1) ((((F_impl_worksFor m k wk).2.1.length) - 0) + 1, [], 1073741824, 0, (.slice none 0 0)) ⟨(by first | omega | (simp [-List.getD_eq_getElem?_getD] <;> omega)), (by first | omega | (simp [-List.getD_eq_getElem?_getD] <;> omega)), (by first | omega | (simp [-List.getD_eq_getElem?_getD] <;> omega)), (by first | omega | (simp [-List.getD_eq_getElem?_getD] <;> omega)), (fun w hw => (Hp.sublist hw (List.nil_sublist _)).nil _ _), (by omega), hc49⟩ ⟨rfl, rfl, rfl, rfl, rfl, rfl, rfl, rfl, trivial⟩ (fun w hw => Hp.sublist hw (.cons _ (.cons_cons _ (.cons _ (.cons_cons _ .slnil))))) ?_
    rintro ⟨fu1, k12_1, k13_1, k39_1, vk12_1⟩ hJ1
    obtain ⟨hi1_0, hi1_1, hi1_2, hi1_3, hrk12_1, hmu1, hL1⟩ : (k39_1 ≤ ((F_impl_worksFor m k wk).2.1.length)) ∧ (-1000000000 ≤ k13_1) ∧ (k13_1 ≤ 1073741824) ∧ (k12_1.length ≤ 3) ∧ (∀ w', Hp w [tabI 25 3 r1_3.2.2.1 r1_3.2.2.2.1 ((F_impl_worksFor m k wk).2.1)] w' → Hp w [rowI 3 vk12_1 k12_1] w') ∧ ((F_impl_worksFor m k wk).2.1.length) - k39_1 < fu1 ∧ F_impl_FarConfig_L1 m k wk r fu1 (k12_1, k13_1, k39_1) = c48 := hJ1
    change TC _ _ _ _ (Hp w [tabI 25 3 r1_3.2.2.1 r1_3.2.2.2.1 ((F_impl_worksFor m k wk).2.1), .blk g0_0 29 [vm]]) [(2, vwk), (3, (.int .i64 r)), (4, (.pointer (some ⟨g0_0, 0, none⟩))), (12, vk12_1), (13, (.int .i64 k13_1)), (37, r1_3.2.2.1), (38, (.int .i64 ((F_impl_worksFor m k wk).2.1.length : Int))), (39, (.int .i64 (k39_1 : Int)))]
    obtain ⟨mf1, rfl⟩ : ∃ m, fu1 = m + 1 := ⟨fu1 - 1, by omega⟩
    rw [F_impl_FarConfig_L1_s] at hL1
    have hwi := hwe k39_1
    have hcf := hWf.cf k39_1
    have hcn := fun h => (hcf h).1.n3
    refine TC.seq ?_
    refine TC.region ?_
    refine TL.op (yq (y_lss (ev_t rfl) (ev_t rfl))) rfl rfl rfl ?_
    refine TL.nil ?_
    refine TN.seq ?_
    refine TC.seq ?_
    refine TC.cond (b := decide ((k39_1 : Int) < ((F_impl_worksFor m k wk).2.1.length : Int))) (ev_t rfl) (fun h50 => ?_) (fun h50 => ?_)
    · rw [bif_pos h50] at hL1
      have q51 := (of_decide_eq_true h50)
      refine TC.skip ?_
      refine TN.seq ?_
      refine TC.seq ?_
      refine TC.block ?_
      refine TC.seq ?_
      refine TC.region ?_
      refine TL.op (yq (y_move (ev_t rfl))) rfl rfl rfl ?_
      have hb52 : k39_1 < (F_impl_worksFor m k wk).2.1.length := (by first | omega | (simp only [List.length_set, List.length_append, List.length_cons, List.length_nil, List.length_replicate]; omega) | (rw [sortI_length]; simp only [List.length_cons, List.length_nil]; omega))
      refine TL.op (yq (y_idx (k := k39_1) (ev_t rfl) (ev_t rfl) (by first | omega | simp) slT_22 (fun w hw => ((rii_tab 0 rfl) w hw).1) hb52)) rfl rfl rfl ?_
      refine TL.op (yq (y_ldT 0 (ev_t rfl) one_25 rfl hb52)) rfl rfl rfl ?_
      refine TL.op (yq (y_assign (ev_t rfl))) rfl rfl rfl ?_
      refine TL.op (yq (y_assign (ev_t rfl))) rfl rfl rfl ?_
      refine TL.nil ?_
      refine TN.seq ?_
      refine TC.seq ?_
      refine TC.region ?_
      refine TL.op (yq (y_move (ev_t rfl))) rfl rfl rfl ?_
      refine TL.op (yq (y_move (ev_t rfl))) rfl rfl rfl ?_
      have hb53 : k39_1 < wk.length := (by first | omega | (simp only [List.length_set, List.length_append, List.length_cons, List.length_nil, List.length_replicate]; omega) | (rw [sortI_length]; simp only [List.length_cons, List.length_nil]; omega))
      refine TL.op (yq (y_idx (k := k39_1) (ev_t rfl) (ev_t rfl) (by first | omega | simp) slT_25 (ri_arg hwk) hb53)) rfl rfl rfl ?_
      refine TL.op (yq (y_ldi (ev_t rfl) one_3 (ri_arg hwk) hb53)) rfl rfl rfl ?_
      refine TL.op (yq (y_assign (ev_t rfl))) rfl rfl rfl ?_
      refine TL.nil ?_
      refine TN.seq ?_
      refine TC.seq ?_
      refine TC.seq ?_
      refine TC.region ?_
      refine TL.op (yq (y_move (ev_t rfl))) rfl rfl rfl ?_
      refine TL.op (yq (y_len (ev_t rfl) Try.underlying25 (fun w hw => ((ri_tab 0 k39_1 rfl hb52) w hw).ln))) rfl rfl rfl ?_
      refine TL.op (yq (y_move ev_c)) rfl rfl rfl ?_
      refine TL.nil ?_
      refine TN.seq ?_
      refine TC.block ?_
      obtain ⟨c54, hc55⟩ : ∃ c, F_impl_FarConfig_L2 m k wk r k39_1 (((((F_impl_worksFor m k wk).2.1.getD k39_1 []).length) - 0) + 1) ((wk.getD k39_1 0), 0) = c := ⟨_, rfl⟩
      rw [hc55] at hL1
      refine TC.loop (ι := Nat × Int × Nat) (fun (fu2, k16_2, k50_2) => [(2, vwk), (3, (.int .i64 r)), (4, (.pointer (some ⟨g0_0, 0, none⟩))), (12, vk12_1), (13, (.int .i64 k13_1)), (15, (r1_3.2.2.2.1.getD k39_1 undef)), (16, (.int .i64 k16_2)), (37, r1_3.2.2.1), (38, (.int .i64 ((F_impl_worksFor m k wk).2.1.length : Int))), (39, (.int .i64 (k39_1 : Int))), (48, (r1_3.2.2.2.1.getD k39_1 undef)), (49, (.int .i64 (((F_impl_worksFor m k wk).2.1.getD k39_1 []).length : Int))), (50, (.int .i64 (k50_2 : Int)))]) (fun (fu2, k16_2, k50_2) => Hp w [tabI 25 3 r1_3.2.2.1 r1_3.2.2.2.1 ((F_impl_worksFor m k wk).2.1), .blk g0_0 29 [vm]]) (fun (fu2, k16_2, k50_2) => (k50_2 ≤ (((F_impl_worksFor m k wk).2.1.getD k39_1 []).length)) ∧ (-99 * (k50_2 : Int) ≤ k16_2) ∧ (k16_2 ≤ 99999 + (k50_2 : Int)) ∧ (((F_impl_worksFor m k wk).2.1.getD k39_1 []).length) - k50_2 < fu2 ∧ F_impl_FarConfig_L2 m k wk r k39_1 fu2 (k16_2, k50_2) = c54) (fun (fu2, k16_2, k50_2) => fu2) (((((F_impl_worksFor m k wk).2.1.getD k39_1 []).length) - 0) + 1, (wk.getD k39_1 0), 0) ⟨(by first | omega | (simp [-List.getD_eq_getElem?_getD] <;> omega)), (by first | omega | (simp [-List.getD_eq_getElem?_getD] <;> omega)), (by first | omega | (simp [-List.getD_eq_getElem?_getD] <;> omega)), (by omega), hc55⟩ ⟨rfl, rfl, rfl, rfl, rfl, rfl, rfl, rfl, rfl, rfl, rfl, rfl, rfl, trivial⟩ (fun w hw => hw) ?_
      rintro ⟨fu2, k16_2, k50_2⟩ hJ2
      obtain ⟨hi2_0, hi2_1, hi2_2, hmu2, hL2⟩ : (k50_2 ≤ (((F_impl_worksFor m k wk).2.1.getD k39_1 []).length)) ∧ (-99 * (k50_2 : Int) ≤ k16_2) ∧ (k16_2 ≤ 99999 + (k50_2 : Int)) ∧ (((F_impl_worksFor m k wk).2.1.getD k39_1 []).length) - k50_2 < fu2 ∧ F_impl_FarConfig_L2 m k wk r k39_1 fu2 (k16_2, k50_2) = c54 := hJ2
      change TC _ _ _ _ (Hp w [tabI 25 3 r1_3.2.2.1 r1_3.2.2.2.1 ((F_impl_worksFor m k wk).2.1), .blk g0_0 29 [vm]]) [(2, vwk), (3, (.int .i64 r)), (4, (.pointer (some ⟨g0_0, 0, none⟩))), (12, vk12_1), (13, (.int .i64 k13_1)), (15, (r1_3.2.2.2.1.getD k39_1 undef)), (16, (.int .i64 k16_2)), (37, r1_3.2.2.1), (38, (.int .i64 ((F_impl_worksFor m k wk).2.1.length : Int))), (39, (.int .i64 (k39_1 : Int))), (48, (r1_3.2.2.2.1.getD k39_1 undef)), (49, (.int .i64 (((F_impl_worksFor m k wk).2.1.getD k39_1 []).length : Int))), (50, (.int .i64 (k50_2 : Int)))]
      obtain ⟨mf2, rfl⟩ : ∃ m, fu2 = m + 1 := ⟨fu2 - 1, by omega⟩
      rw [F_impl_FarConfig_L2_s] at hL2
      have hcf1 := (hcf (by omega)).1
      have hn3 := hcf1.n3
      have hpe := hcf1.el k50_2
      have hrw := hTab.rows (((F_impl_worksFor m k wk).2.1.getD k39_1 []).getD k50_2 0).toNat
      have hme := hTab.el (((F_impl_worksFor m k wk).2.1.getD k39_1 []).getD k50_2 0).toNat r.toNat
      refine TC.seq ?_
      refine TC.region ?_
      refine TL.op (yq (y_lss (ev_t rfl) (ev_t rfl))) rfl rfl rfl ?_
      refine TL.nil ?_
      refine TN.seq ?_
      refine TC.seq ?_
      refine TC.cond (b := decide ((k50_2 : Int) < (((F_impl_worksFor m k wk).2.1.getD k39_1 []).length : Int))) (ev_t rfl) (fun h56 => ?_) (fun h56 => ?_)
      · rw [bif_pos h56] at hL2
        have q57 := (of_decide_eq_true h56)
        refine TC.skip ?_
        refine TN.seq ?_
        refine TC.seq ?_
        refine TC.block ?_
        refine TC.seq ?_
        refine TC.region ?_
        have hb58 : k50_2 < ((F_impl_worksFor m k wk).2.1.getD k39_1 []).length := (by first | omega | (simp only [List.length_set, List.length_append, List.length_cons, List.length_nil, List.length_replicate]; omega) | (rw [sortI_length]; simp only [List.length_cons, List.length_nil]; omega))
        refine TL.op (yq (y_idx (k := k50_2) (ev_t rfl) (ev_t rfl) (by first | omega | simp) slT_25 (ri_tab 0 k39_1 rfl hb52) hb58)) rfl rfl rfl ?_
        refine TL.op (yq (y_ldi (ev_t rfl) one_3 (ri_tab 0 k39_1 rfl hb52) hb58)) rfl rfl rfl ?_
        refine TL.op (yq (y_assign (ev_t rfl))) rfl rfl rfl ?_
        refine TL.nil ?_
        refine TN.seq ?_
        refine TC.region ?_
        refine TL.op (yq (y_move (ev_t rfl))) rfl rfl rfl ?_
        refine TL.op (yq (y_fa (fa_29_0 g0_0) (ev_t rfl))) rfl rfl rfl ?_
        refine TL.op (yq (y_ldb 1 (ev_t rfl) one_22 rfl rfl)) rfl rfl rfl ?_
        refine TL.op (yq (y_move (ev_t rfl))) rfl rfl rfl ?_
        have hb59 : ((((F_impl_worksFor m k wk).2.1.getD k39_1 []).getD k50_2 0)).toNat < m.length := (by first | omega | (simp only [List.length_set, List.length_append, List.length_cons, List.length_nil, List.length_replicate]; omega) | (rw [sortI_length]; simp only [List.length_cons, List.length_nil]; omega))
        refine TL.op (yq (y_idx (k := ((((F_impl_worksFor m k wk).2.1.getD k39_1 []).getD k50_2 0)).toNat) (ev_t rfl) (ev_t rfl) (by first | omega | simp) slT_22 (fun w hw => ((rii_arg hm) w hw).1) hb59)) rfl rfl rfl ?_
        have ha60 := hm.row (i := ((((F_impl_worksFor m k wk).2.1.getD k39_1 []).getD k50_2 0)).toNat) hb59
        refine TL.op (yq (y_ldA (ev_t rfl) one_25 (rii_arg hm) hb59)) rfl rfl rfl ?_
        refine TL.op (yq (y_move (ev_t rfl))) rfl rfl rfl ?_
        have hb61 : (r).toNat < (m.getD (((((F_impl_worksFor m k wk).2.1.getD k39_1 []).getD k50_2 0)).toNat) []).length := (by first | omega | (simp only [List.length_set, List.length_append, List.length_cons, List.length_nil, List.length_replicate]; omega) | (rw [sortI_length]; simp only [List.length_cons, List.length_nil]; omega))
        refine TL.op (yq (y_idx (k := (r).toNat) (ev_t rfl) (ev_t rfl) (by first | omega | simp) slT_25 (ri_arg ha60) hb61)) rfl rfl rfl ?_
        refine TL.op (yq (y_ldi (ev_t rfl) one_3 (ri_arg ha60) hb61)) rfl rfl rfl ?_
        refine TL.op (yq (y_sub (ev_t rfl) (ev_t rfl) (by unfold In64; omega))) rfl rfl rfl ?_
        refine TL.op (yq (y_assign (ev_t rfl))) rfl rfl rfl ?_
        refine TL.nil ?_
        refine TN.blockN ?_
        refine TN.seq ?_
        refine TC.region ?_
        refine TL.op (yq (y_add (ev_t rfl) ev_c (by unfold In64; omega))) rfl rfl rfl ?_
        refine TL.op (yq (y_move (ev_t rfl))) rfl rfl rfl ?_
        refine TL.nil ?_
        exact TN.hand (mf2, k16_2 - ((m.getD (((((F_impl_worksFor m k wk).2.1.getD k39_1 []).getD k50_2 0)).toNat) []).getD ((r).toNat) 0), (k50_2 + 1)) ⟨(by first | omega | (simp [-List.getD_eq_getElem?_getD] <;> omega)), (by first | omega | (simp [-List.getD_eq_getElem?_getD] <;> omega)), (by first | omega | (simp [-List.getD_eq_getElem?_getD] <;> omega)), (by omega), hL2⟩ (Nat.lt_succ_self _) ⟨rfl, rfl, rfl, rfl, rfl, rfl, rfl, rfl, rfl, rfl, rfl, rfl, rfl, trivial⟩ (fun w hw => hw)
      · rw [bif_neg h56] at hL2
        have q57 := (of_decide_eq_false h56)
        refine TC.exit ?_
        refine TN.thenE ?_
        refine TN.thenE ?_
        rw [← hL2, elim_next] at hL1
        try dsimp only at hL1
        refine TN.blockH ?_
        refine TN.seq ?_
        refine TC.seq ?_
        refine TC.region ?_
        refine TL.op (yq (y_move (ev_t rfl))) rfl rfl rfl ?_
        refine TL.op (yq (y_move (ev_t rfl))) rfl rfl rfl ?_
        refine TL.op (yq (y_lss (ev_t rfl) (ev_t rfl))) rfl rfl rfl ?_
        refine TL.nil ?_
        refine TN.seq ?_
        refine TC.cond (b := decide (k16_2 < k13_1)) (ev_t rfl) (fun h62 => ?_) (fun h62 => ?_)
        · rw [bif_pos h62] at hL1
          have q63 := (of_decide_eq_true h62)
          refine TC.region ?_
          refine TL.op (yq (y_move (ev_t rfl))) rfl rfl rfl ?_
          refine TL.op (yq (y_move (ev_t rfl))) rfl rfl rfl ?_
          refine TL.op (yq (y_assign (ev_t rfl))) rfl rfl rfl ?_
          refine TL.op (yq (y_assign (ev_t rfl))) rfl rfl rfl ?_
          refine TL.nil ?_
          refine TN.blockN ?_
          refine TN.seq ?_
          refine TC.region ?_
          refine TL.op (yq (y_add (ev_t rfl) ev_c (by unfold In64; omega))) rfl rfl rfl ?_
          refine TL.op (yq (y_move (ev_t rfl))) rfl rfl rfl ?_
          refine TL.nil ?_
          exact TN.hand (mf1, ((F_impl_worksFor m k wk).2.1.getD k39_1 []), k16_2, (k39_1 + 1), (r1_3.2.2.2.1.getD k39_1 undef)) ⟨(by first | omega | (simp [-List.getD_eq_getElem?_getD] <;> omega)), (by first | omega | (simp [-List.getD_eq_getElem?_getD] <;> omega)), (by first | omega | (simp [-List.getD_eq_getElem?_getD] <;> omega)), (by first | omega | (simp [-List.getD_eq_getElem?_getD] <;> omega)), (fun w hw => ext_row 0 rfl hb52 hw), (by omega), hL1⟩ (Nat.lt_succ_self _) ⟨rfl, rfl, rfl, rfl, rfl, rfl, rfl, rfl, trivial⟩ (fun w hw => hw)
        · rw [bif_neg h62] at hL1
          have q63 := (of_decide_eq_false h62)
          refine TC.skip ?_
          refine TN.blockN ?_
          refine TN.seq ?_
          refine TC.region ?_
          refine TL.op (yq (y_add (ev_t rfl) ev_c (by unfold In64; omega))) rfl rfl rfl ?_
          refine TL.op (yq (y_move (ev_t rfl))) rfl rfl rfl ?_
          refine TL.nil ?_
          exact TN.hand (mf1, k12_1, k13_1, (k39_1 + 1), vk12_1) ⟨(by first | omega | (simp [-List.getD_eq_getElem?_getD] <;> omega)), (by first | omega | (simp [-List.getD_eq_getElem?_getD] <;> omega)), (by first | omega | (simp [-List.getD_eq_getElem?_getD] <;> omega)), (by first | omega | (simp [-List.getD_eq_getElem?_getD] <;> omega)), hrk12_1, (by omega), hL1⟩ (Nat.lt_succ_self _) ⟨rfl, rfl, rfl, rfl, rfl, rfl, rfl, rfl, trivial⟩ (fun w hw => hw)
    · rw [bif_neg h50] at hL1
      have q51 := (of_decide_eq_false h50)
      refine TC.exit ?_
      refine TN.thenE ?_
      refine TN.thenE ?_
      rw [← hL1, elim_next] at hF
      try dsimp only at hF
      refine TN.blockH ?_
      refine TN.seq ?_
      refine TC.seq ?_
      refine TC.region ?_
      refine TL.op (yq (y_move (ev_t rfl))) rfl rfl rfl ?_
      refine TL.callr (ι := Value) (vs := [vk12_1]) (fun i => i) (fun i => [rowI 3 i k12_1]) en_62 ⟨(ev_t rfl), trivial⟩ rfl (fun w hw => slices_Clone_Sint_int_ok w vk12_1 k12_1 ((fun w hw => rd_own (Hp.get (hrk12_1 w (Hp.sublist hw (.cons_cons _ (.cons _ .slnil)))) 0 rfl)) w hw) (by first | assumption | omega | grind)) (fun r18_1 => ?_)
      refine TL.op (yq (y_assign (ev_t rfl))) rfl rfl rfl ?_
      refine TL.op (yq (y_assign ev_c)) rfl rfl rfl ?_
      refine TL.nil ?_
      refine TN.seq ?_
      refine TC.ret ?_
      subst hF
      exact TN.ret2 rfl (ev_t rfl) (ev_t rfl) (fun w' hw => ⟨r18_1, rfl, Hp.sublist hw (.cons_cons _ (.cons _ (.cons _ .slnil)))⟩)


end Go.Proofs.Ytilmadapmcnlgaa
