/-
  Walks of functions of the program: each computes its plain function. No condition but the bounds that are typed.
-/
import Derived.Test.YtcfjjnajeccbhaaFnJ
import Derived.Test.YtcfjjnajeccbhaaSort
import Derived.Test.YtcfjjnajeccbhaaLawTree
import Derived.Test.YtcfjjnajeccbhaaDefM
namespace Go.Proofs.Ytcfjjnajeccbhaa
open Go Go.RowKit

set_option maxRecDepth 4000 in
set_option maxHeartbeats 1000000 in
theorem slices_Repeat_Sint_int_ok (w : World) (vx : Value) (x : List Int) (hx : RI w vx x) (count : Int) (hp0 : x.length = 1) (hp1 : 0 ≤ count) (hp2 : count ≤ 1000000) :
    Calls Try.prog 83 ([vx, (.int .i64 count)] : List Value).toArray w (fun e w' => ∃ i : Value, e = .returned i ∧ Hp w [rowI 3 i (F_slices_Repeat_Sint_int x count)] w') := by
  obtain ⟨rz, hF⟩ : ∃ rz, (F_slices_Repeat_Sint_int x count) = rz := ⟨_, rfl⟩
  rw [hF]
  unfold F_slices_Repeat_Sint_int at hF
  have hmu := mulU_one hp0 hp1 hp2
  have hmu1 := hmu.1
  have hmu2 := hmu.2
  have hlen_x := arg_len hx
  refine calls_tc Try.func83 rfl rfl rfl ?_
  change TC _ _ _ _ (Hp w []) [(0, vx), (1, (.int .i64 count))]
  refine TC.seq ?_
  refine TC.region ?_
  refine TL.op (yq (y_assign ev_c)) rfl rfl rfl ?_
  refine TL.nil ?_
  refine TN.seq ?_
  obtain ⟨c57, hcj1⟩ : ∃ c, ((bif decide (count < 0) then default else (Ctl.next ())) : Ctl (Unit) (List Int)) = c := ⟨_, rfl⟩
  rw [hcj1] at hF
  refine TC.cut (fun a' w' => Slots 48 [(0, vx), (1, (.int .i64 count))] a' ∧ Hp w [] w' ∧ (Ctl.next () : Ctl (Unit) (List Int)) = c57) ?_ ?_
  · refine TC.seq ?_
    refine TC.region ?_
    refine TL.op (yq (y_move (ev_t rfl))) rfl rfl rfl ?_
    refine TL.op (yq (y_lss (ev_t rfl) ev_c)) rfl rfl rfl ?_
    refine TL.nil ?_
    refine TN.seq ?_
    refine TC.cond (b := decide (count < 0)) (ev_t rfl) (fun h58 => ?_) (fun h58 => ?_)
    · rw [bif_pos h58] at hcj1
      have q59 := (of_decide_eq_true h58)
      exfalso; omega
    · rw [bif_neg h58] at hcj1
      have q59 := (of_decide_eq_false h58)
      refine TC.skip ?_
      exact fun a' w' hs hw => ⟨hs.sub ⟨rfl, rfl, trivial⟩, hw, hcj1⟩
  · rintro a' w' ⟨hs', hw', hdj1⟩
    rw [← hdj1, elim_next] at hF
    try dsimp only at hF
    refine (?_ : TC _ _ _ 48 (Hp w []) [(0, vx), (1, (.int .i64 count))]) a' w' hs' hw'
    clear hs' hw' hcj1
    refine TC.seq ?_
    refine TC.region ?_
    refine TL.op (yq (y_move (ev_t rfl))) rfl rfl rfl ?_
    refine TL.op (yq (y_len (ev_t rfl) Try.underlying25 (fun w hw => ((ri_arg hx) w hw).ln))) rfl rfl rfl ?_
    refine TL.op (yq (y_conv_u64 (ev_t rfl) Try.underlying3 Try.underlying89 (by first | omega | (simp only [List.length_set, List.length_append, List.length_cons, List.length_nil, List.length_replicate]; omega) | (rw [sortI_length]; simp only [List.length_cons, List.length_nil]; omega)))) rfl rfl rfl ?_
    refine TL.op (yq (y_move (ev_t rfl))) rfl rfl rfl ?_
    refine TL.op (yq (y_conv_u64 (ev_t rfl) Try.underlying3 Try.underlying89 (by first | omega | (simp only [List.length_set, List.length_append, List.length_cons, List.length_nil, List.length_replicate]; omega) | (rw [sortI_length]; simp only [List.length_cons, List.length_nil]; omega)))) rfl rfl rfl ?_
    refine TL.op (y_call (vs := [(.int .u64 (x.length : Int)), (.int .u64 count)]) (v := (.tuple #[(.int .u64 ((mulU (x.length : Int) count).1)), (.int .u64 ((mulU (x.length : Int) count).2))])) en_110 ⟨(ev_t rfl), (ev_t rfl), trivial⟩ (fun w hw => bits_Mul_ok w (x.length : Int) count (by omega) (by omega) (by omega) (by omega))) rfl rfl rfl ?_
    refine TL.op (yq (y_move (ev_t rfl))) rfl rfl rfl ?_
    refine TL.op (yq (y_extract (ev_t rfl) rfl)) rfl rfl rfl ?_
    refine TL.op (yq (y_extract (ev_t rfl) rfl)) rfl rfl rfl ?_
    refine TL.op (yq (y_assign (ev_t rfl))) rfl rfl rfl ?_
    refine TL.op (yq (y_assign (ev_t rfl))) rfl rfl rfl ?_
    refine TL.nil ?_
    refine TN.seq ?_
    obtain ⟨c62, hcj4⟩ : ∃ c, ((bif ((decide (0 < (mulU (x.length : Int) count).1)) || (decide (9223372036854775807 < (mulU (x.length : Int) count).2))) then default else (Ctl.next ())) : Ctl (Unit) (List Int)) = c := ⟨_, rfl⟩
    rw [hcj4] at hF
    refine TC.cut (fun a' w' => Slots 48 [(0, vx), (6, (.int .u64 ((mulU (x.length : Int) count).2)))] a' ∧ Hp w [] w' ∧ (Ctl.next () : Ctl (Unit) (List Int)) = c62) ?_ ?_
    · refine TC.seq ?_
      refine TC.region ?_
      refine TL.op (yq (y_move (ev_t rfl))) rfl rfl rfl ?_
      refine TL.op (yq (y_gtr (ev_t rfl) ev_c)) rfl rfl rfl ?_
      refine TL.op (yq (y_move (ev_t rfl))) rfl rfl rfl ?_
      refine TL.opw (w_f rfl rfl rfl) (fun hg => yq (y_move (ev_t rfl))) rfl rfl ?_
      refine TL.opw (w_f rfl rfl rfl) (fun hg => yq (y_gtr (ev_g rfl hg) ev_c)) rfl rfl ?_
      refine TL.op (yq (y_or (ev_t rfl) (fun hq => (ev_g rfl hq)))) rfl rfl rfl ?_
      refine TL.nil ?_
      refine TN.seq ?_
      refine TC.cond (b := ((decide (0 < (mulU (x.length : Int) count).1)) || (decide (9223372036854775807 < (mulU (x.length : Int) count).2)))) (ev_t rfl) (fun h63 => ?_) (fun h63 => ?_)
      · rw [bif_pos h63] at hcj4
        have q64 := ((or_t h63).imp (fun h => (of_decide_eq_true h)) (fun h => (of_decide_eq_true h)))
        exfalso; omega
      · rw [bif_neg h63] at hcj4
        have q64 := (and_imp (or_f h63) (fun h => (of_decide_eq_false h)) (fun h => (of_decide_eq_false h)))
        refine TC.skip ?_
        exact fun a' w' hs hw => ⟨hs.sub ⟨rfl, rfl, trivial⟩, hw, hcj4⟩
    · rintro a' w' ⟨hs', hw', hdj4⟩
      rw [← hdj4, elim_next] at hF
      try dsimp only at hF
      refine (?_ : TC _ _ _ 48 (Hp w []) [(0, vx), (6, (.int .u64 ((mulU (x.length : Int) count).2)))]) a' w' hs' hw'
      clear hs' hw' hcj4
      refine TC.seq ?_
      refine TC.region ?_
      refine TL.op (yq (y_move (ev_t rfl))) rfl rfl rfl ?_
      refine TL.op (yq (y_conv_i64 (ev_t rfl) Try.underlying89 Try.underlying3 (by first | omega | (simp only [List.length_set, List.length_append, List.length_cons, List.length_nil, List.length_replicate]; omega) | (rw [sortI_length]; simp only [List.length_cons, List.length_nil]; omega)))) rfl rfl rfl ?_
      refine TL.makeSlice (n := ((mulU (x.length : Int) count).2).toNat) (ev_t rfl) (ev_t rfl) (by omega) slT_25 rfl (by omega) (by unfold maxLen; omega) rfl (fun v6_2 => ?_)
      refine TL.cls (fun w hw => hw.zeros) ?_
      refine TL.op (yq (y_assign (ev_t rfl))) rfl rfl rfl ?_
      refine TL.nil ?_
      refine TN.seq ?_
      refine TC.seq ?_
      refine TC.region ?_
      refine TL.op (yq (y_move (ev_t rfl))) rfl rfl rfl ?_
      refine TL.op (yq (y_move (ev_t rfl))) rfl rfl rfl ?_
      refine TL.copyW 0 (qs := x) (ev_t rfl) (ev_t rfl) rfl slT_25 (ri_arg hx) rfl ?_
      refine TL.op (yq (y_assign (ev_t rfl))) rfl rfl rfl ?_
      refine TL.nil ?_
      refine TN.seq ?_
      refine TC.seq ?_
      refine TC.block ?_
      have hd0 : (x.take (List.replicate (((mulU (x.length : Int) count).2).toNat) (0 : Int)).length ++ (List.replicate (((mulU (x.length : Int) count).2).toNat) (0 : Int)).drop (min x.length (List.replicate (((mulU (x.length : Int) count).2).toNat) (0 : Int)).length)).length = count.toNat := by simp; omega
      have hd3 : (List.replicate (((mulU (x.length : Int) count).2).toNat) (0 : Int)).length = count.toNat := by simp; omega
      obtain ⟨c65, hc66⟩ : ∃ c, F_slices_Repeat_Sint_int_L1  (((x.take (List.replicate (((mulU (x.length : Int) count).2).toNat) (0 : Int)).length ++ (List.replicate (((mulU (x.length : Int) count).2).toNat) (0 : Int)).drop (min x.length (List.replicate (((mulU (x.length : Int) count).2).toNat) (0 : Int)).length)).length - (min x.length (List.replicate (((mulU (x.length : Int) count).2).toNat) (0 : Int)).length)) + 1) ((min x.length (List.replicate (((mulU (x.length : Int) count).2).toNat) (0 : Int)).length), (x.take (List.replicate (((mulU (x.length : Int) count).2).toNat) (0 : Int)).length ++ (List.replicate (((mulU (x.length : Int) count).2).toNat) (0 : Int)).drop (min x.length (List.replicate (((mulU (x.length : Int) count).2).toNat) (0 : Int)).length))) = c := ⟨_, rfl⟩
      rw [hc66] at hF
      refine TC.loop (ι := Nat × Nat × List Int) (fun (fu1, n1, newslice1) => [(7, v6_2), (8, (.int .i64 (n1 : Int)))]) (fun (fu1, n1, newslice1) => Hp w [rowI 3 v6_2 newslice1]) (fun (fu1, n1, newslice1) => (n1 ≤ newslice1.length) ∧ (0 < n1 ∨ newslice1.length = 0) ∧ (newslice1.length ≤ 1000000) ∧ newslice1.length - n1 < fu1 ∧ F_slices_Repeat_Sint_int_L1  fu1 (n1, newslice1) = c65) (fun (fu1, n1, newslice1) => fu1) (((x.take (List.replicate (((mulU (x.length : Int) count).2).toNat) (0 : Int)).length ++ (List.replicate (((mulU (x.length : Int) count).2).toNat) (0 : Int)).drop (min x.length (List.replicate (((mulU (x.length : Int) count).2).toNat) (0 : Int)).length)).length - (min x.length (List.replicate (((mulU (x.length : Int) count).2).toNat) (0 : Int)).length)) + 1, (min x.length (List.replicate (((mulU (x.length : Int) count).2).toNat) (0 : Int)).length), (x.take (List.replicate (((mulU (x.length : Int) count).2).toNat) (0 : Int)).length ++ (List.replicate (((mulU (x.length : Int) count).2).toNat) (0 : Int)).drop (min x.length (List.replicate (((mulU (x.length : Int) count).2).toNat) (0 : Int)).length))) ⟨(by first | omega | (simp [-List.getD_eq_getElem?_getD] <;> omega)), (by first | omega | (simp [-List.getD_eq_getElem?_getD] <;> omega)), (by first | omega | (simp [-List.getD_eq_getElem?_getD] <;> omega)), (by omega), hc66⟩ ⟨rfl, rfl, trivial⟩ (fun w hw => hw) ?_
      rintro ⟨fu1, n1, newslice1⟩ hJ1
      obtain ⟨hi1_0, hi1_1, hi1_2, hmu1, hL1⟩ : (n1 ≤ newslice1.length) ∧ (0 < n1 ∨ newslice1.length = 0) ∧ (newslice1.length ≤ 1000000) ∧ newslice1.length - n1 < fu1 ∧ F_slices_Repeat_Sint_int_L1  fu1 (n1, newslice1) = c65 := hJ1
      change TC _ _ _ _ (Hp w [rowI 3 v6_2 newslice1]) [(7, v6_2), (8, (.int .i64 (n1 : Int)))]
      obtain ⟨mf1, rfl⟩ : ∃ m, fu1 = m + 1 := ⟨fu1 - 1, by omega⟩
      rw [F_slices_Repeat_Sint_int_L1_s] at hL1
      have hd1 : ((newslice1.take n1).drop 0).length = n1 := by simp; omega
      have hd2 : (newslice1.take n1 ++ ((newslice1.take n1).drop 0).take (newslice1.length - n1) ++ newslice1.drop (n1 + (min ((newslice1.take n1).drop 0).length (newslice1.length - n1)))).length = newslice1.length := by simp; omega
      refine TC.seq ?_
      refine TC.seq ?_
      refine TC.region ?_
      refine TL.op (yq (y_move (ev_t rfl))) rfl rfl rfl ?_
      refine TL.op (yq (y_move (ev_t rfl))) rfl rfl rfl ?_
      refine TL.op (yq (y_len (ev_t rfl) Try.underlying25 (fun w hw => ((ri_row 0 rfl) w hw).ln))) rfl rfl rfl ?_
      refine TL.op (yq (y_lss (ev_t rfl) (ev_t rfl))) rfl rfl rfl ?_
      refine TL.nil ?_
      refine TN.seq ?_
      refine TC.cond (b := decide ((n1 : Int) < (newslice1.length : Int))) (ev_t rfl) (fun h67 => ?_) (fun h67 => ?_)
      · rw [bif_pos h67] at hL1
        have q68 := (of_decide_eq_true h67)
        refine TC.skip ?_
        refine TN.seq ?_
        refine TC.block ?_
        refine TC.mid (fun a' w' => Slots 48 [(7, v6_2), (8, (.int .i64 ((n1 : Int) + ((min ((newslice1.take n1).drop 0).length (newslice1.length - n1)) : Nat))))] a' ∧ Hp w [rowI 3 v6_2 (newslice1.take n1 ++ ((newslice1.take n1).drop 0).take (newslice1.length - n1) ++ newslice1.drop (n1 + (min ((newslice1.take n1).drop 0).length (newslice1.length - n1))))] w') ?_ ?_
        · refine TC.regionH 10 (Hp w []) rfl (by kernel_rfl) dr_hp (fun w hw => Hp.sublist hw (List.nil_sublist _)) ?_
          refine TH.take 0 rfl (by kernel_rfl) (y_move (ev_t rfl)) rfl rfl rfl ?_
          refine TH.take 1 rfl (by kernel_rfl) (y_move (ev_t rfl)) rfl rfl rfl ?_
          refine TH.take 2 rfl (by kernel_rfl) (y_move (ev_t rfl)) rfl rfl rfl ?_
          refine TH.take 4 rfl (by kernel_rfl) (y_move (ev_t rfl)) rfl rfl rfl ?_
          refine TH.take 5 rfl (by kernel_rfl) (y_move (ev_t rfl)) rfl rfl rfl ?_
          refine TH.loud2 3 6 rfl rfl (by kernel_rfl) ?_ ?_
          · have hs73 : n1 ≤ newslice1.length := (by first | omega | (simp only [List.length_set, List.length_append, List.length_cons, List.length_nil, List.length_replicate]; omega) | (rw [sortI_length]; simp only [List.length_cons, List.length_nil]; omega))
            have hs74 : newslice1.length ≤ newslice1.length := (by first | omega | (simp only [List.length_set, List.length_append, List.length_cons, List.length_nil, List.length_replicate]; omega) | (rw [sortI_length]; simp only [List.length_cons, List.length_nil]; omega))
            refine TL.op (yq (y_slice_lo (ev_t rfl) (ev_t rfl) (lo := n1) (by omega) slT_25 (ri_row 0 rfl) hs73)) rfl rfl rfl ?_
            refine TL.nil ?_
            refine TH.back (fun w hw => Hp.sublist hw (List.nil_sublist _)) ?_
            refine TH.loud 6 rfl (by kernel_rfl) ?_
            have hs75 : 0 ≤ n1 := (by first | omega | (simp only [List.length_set, List.length_append, List.length_cons, List.length_nil, List.length_replicate]; omega) | (rw [sortI_length]; simp only [List.length_cons, List.length_nil]; omega))
            have hs76 : n1 ≤ newslice1.length := (by first | omega | (simp only [List.length_set, List.length_append, List.length_cons, List.length_nil, List.length_replicate]; omega) | (rw [sortI_length]; simp only [List.length_cons, List.length_nil]; omega))
            refine TL.op (yq (y_slice_hi (ev_t rfl) (ev_t rfl) (hi := n1) (by omega) slT_25 (ri_row 0 rfl) hs76)) rfl rfl rfl ?_
            refine TL.nil ?_
            refine TH.back (fun w hw => Hp.sublist hw (List.nil_sublist _)) ?_
            refine TH.loud 7 rfl (by kernel_rfl) ?_
            refine TL.copyI 0 (lo := n1) (hi := newslice1.length) (qs := ((newslice1.take n1).drop 0)) (ev_t rfl) (ev_t rfl) rfl slT_25 (fun w hw => ri_resl ((ri_row 0 rfl) w hw) hs75 hs76) hs73 hs74 rfl ?_
            refine TL.nil ?_
            refine TH.back (fun w hw => Hp.sublist hw (List.nil_sublist _)) ?_
            refine TH.take 8 rfl (by kernel_rfl) (y_add (ev_t rfl) (ev_t rfl) (by unfold In64; omega)) rfl rfl rfl ?_
            refine TH.take 9 rfl (by kernel_rfl) (y_assign (ev_t rfl)) rfl rfl rfl ?_
            refine TH.done (by kernel_rfl) ?_
            exact fun a' w' hs hw => ⟨hs.sub ⟨rfl, rfl, trivial⟩, hw⟩
          · have hs77 : 0 ≤ n1 := (by first | omega | (simp only [List.length_set, List.length_append, List.length_cons, List.length_nil, List.length_replicate]; omega) | (rw [sortI_length]; simp only [List.length_cons, List.length_nil]; omega))
            have hs78 : n1 ≤ newslice1.length := (by first | omega | (simp only [List.length_set, List.length_append, List.length_cons, List.length_nil, List.length_replicate]; omega) | (rw [sortI_length]; simp only [List.length_cons, List.length_nil]; omega))
            refine TL.op (yq (y_slice_hi (ev_t rfl) (ev_t rfl) (hi := n1) (by omega) slT_25 (ri_row 0 rfl) hs78)) rfl rfl rfl ?_
            refine TL.nil ?_
            refine TH.back (fun w hw => Hp.sublist hw (List.nil_sublist _)) ?_
            refine TH.loud 3 rfl (by kernel_rfl) ?_
            have hs79 : n1 ≤ newslice1.length := (by first | omega | (simp only [List.length_set, List.length_append, List.length_cons, List.length_nil, List.length_replicate]; omega) | (rw [sortI_length]; simp only [List.length_cons, List.length_nil]; omega))
            have hs80 : newslice1.length ≤ newslice1.length := (by first | omega | (simp only [List.length_set, List.length_append, List.length_cons, List.length_nil, List.length_replicate]; omega) | (rw [sortI_length]; simp only [List.length_cons, List.length_nil]; omega))
            refine TL.op (yq (y_slice_lo (ev_t rfl) (ev_t rfl) (lo := n1) (by omega) slT_25 (ri_row 0 rfl) hs79)) rfl rfl rfl ?_
            refine TL.nil ?_
            refine TH.back (fun w hw => Hp.sublist hw (List.nil_sublist _)) ?_
            refine TH.loud 7 rfl (by kernel_rfl) ?_
            refine TL.copyI 0 (lo := n1) (hi := newslice1.length) (qs := ((newslice1.take n1).drop 0)) (ev_t rfl) (ev_t rfl) rfl slT_25 (fun w hw => ri_resl ((ri_row 0 rfl) w hw) hs77 hs78) hs79 hs80 rfl ?_
            refine TL.nil ?_
            refine TH.back (fun w hw => Hp.sublist hw (List.nil_sublist _)) ?_
            refine TH.take 8 rfl (by kernel_rfl) (y_add (ev_t rfl) (ev_t rfl) (by unfold In64; omega)) rfl rfl rfl ?_
            refine TH.take 9 rfl (by kernel_rfl) (y_assign (ev_t rfl)) rfl rfl rfl ?_
            refine TH.done (by kernel_rfl) ?_
            exact fun a' w' hs hw => ⟨hs.sub ⟨rfl, rfl, trivial⟩, hw⟩
        · rintro a' w' ⟨hs', hw'⟩
          refine (?_ : TN _ .normal 48 (Hp w [rowI 3 v6_2 (newslice1.take n1 ++ ((newslice1.take n1).drop 0).take (newslice1.length - n1) ++ newslice1.drop (n1 + (min ((newslice1.take n1).drop 0).length (newslice1.length - n1))))]) [(7, v6_2), (8, (.int .i64 ((n1 : Int) + ((min ((newslice1.take n1).drop 0).length (newslice1.length - n1)) : Nat))))]) a' w' hs' hw'
          clear hs' hw'
          refine TN.blockN ?_
          exact TN.hand (mf1, (n1 + (min ((newslice1.take n1).drop 0).length (newslice1.length - n1))), (newslice1.take n1 ++ ((newslice1.take n1).drop 0).take (newslice1.length - n1) ++ newslice1.drop (n1 + (min ((newslice1.take n1).drop 0).length (newslice1.length - n1))))) ⟨(by first | omega | (simp [-List.getD_eq_getElem?_getD] <;> omega)), (by first | omega | (simp [-List.getD_eq_getElem?_getD] <;> omega)), (by first | omega | (simp [-List.getD_eq_getElem?_getD] <;> omega)), (by omega), hL1⟩ (Nat.lt_succ_self _) ⟨rfl, rfl, trivial⟩ (fun w hw => hw)
      · rw [bif_neg h67] at hL1
        have q68 := (of_decide_eq_false h67)
        refine TC.exit ?_
        refine TN.thenE ?_
        refine TN.thenE ?_
        rw [← hL1, elim_next] at hF
        try dsimp only at hF
        refine TN.blockH ?_
        refine TN.seq ?_
        refine TC.seq ?_
        refine TC.region ?_
        refine TL.op (yq (y_move (ev_t rfl))) rfl rfl rfl ?_
        refine TL.op (yq (y_assign (ev_t rfl))) rfl rfl rfl ?_
        refine TL.nil ?_
        refine TN.seq ?_
        refine TC.ret ?_
        subst hF
        exact TN.ret1 rfl (ev_t rfl) (fun w' hw => ⟨v6_2, rfl, hw⟩)

set_option maxRecDepth 4000 in
set_option maxHeartbeats 1000000 in
theorem impl_TreeMetric_ok (w : World) (vup : Value) (up : List Int) (hup : RI w vup up) (vln : Value) (ln : List Int) (hln : RI w vln ln)  :
    Calls Try.prog 40 ([vup, vln] : List Value).toArray w (fun e w' => ∃ i : Value × List Value, e = .returned (.tuple #[(.agg #[i.1]), (.bool ((F_impl_TreeMetric up ln).2))]) ∧ Hp w [tabI 25 3 i.1 i.2 ((F_impl_TreeMetric up ln).1)] w') := by
  obtain ⟨rz, hF⟩ : ∃ rz, (F_impl_TreeMetric up ln) = rz := ⟨_, rfl⟩
  rw [hF]
  unfold F_impl_TreeMetric at hF
  have hlen_up := arg_len hup
  have hlen_ln := arg_len hln
  refine calls_tc Try.func40 rfl rfl rfl ?_
  change TC _ _ _ _ (Hp w []) [(0, vup), (1, vln)]
  refine TC.seq ?_
  refine TC.region ?_
  refine TL.alloc (u := (.agg #[(.slice none 0 0)])) (by kernel_rfl) rfl (fun g0_0 => ?_)
  refine TL.op (yq (y_assign ev_c)) rfl rfl rfl ?_
  refine TL.nil ?_
  refine TN.seq ?_
  refine TC.seq ?_
  refine TC.seq ?_
  refine TC.region ?_
  refine TL.op (yq (y_move (ev_t rfl))) rfl rfl rfl ?_
  refine TL.op (yq (y_len (ev_t rfl) Try.underlying25 (fun w hw => ((ri_arg hup) w hw).ln))) rfl rfl rfl ?_
  refine TL.op (yq (y_geq (ev_t rfl) ev_c)) rfl rfl rfl ?_
  refine TL.op (yq (y_move (ev_t rfl))) rfl rfl rfl ?_
  refine TL.opw (w_f rfl rfl rfl) (fun hg => yq (y_move (ev_t rfl))) rfl rfl ?_
  refine TL.opw (w_f rfl rfl rfl) (fun hg => yq (y_len (ev_g rfl hg) Try.underlying25 (fun w hw => ((ri_arg hln) w hw).ln))) rfl rfl ?_
  refine TL.opw (w_f rfl rfl rfl) (fun hg => yq (y_move (ev_t rfl))) rfl rfl ?_
  refine TL.opw (w_f rfl rfl rfl) (fun hg => yq (y_len (ev_g rfl hg) Try.underlying25 (fun w hw => ((ri_arg hup) w hw).ln))) rfl rfl ?_
  refine TL.opw (w_f rfl rfl rfl) (fun hg => yq (y_neq (ev_g rfl hg) (ev_g rfl hg))) rfl rfl ?_
  refine TL.op (yq (y_or (ev_t rfl) (fun hq => (ev_g rfl hq)))) rfl rfl rfl ?_
  refine TL.nil ?_
  refine TN.seq ?_
  refine TC.cond (b := ((decide (6 ≤ (up.length : Int))) || (!decide ((ln.length : Int) = (up.length : Int))))) (ev_t rfl) (fun h82 => ?_) (fun h82 => ?_)
  · rw [bif_pos h82] at hF
    have q83 := ((or_t h82).imp (fun h => (of_decide_eq_true h)) (fun h => (of_decide_eq_false (not_t h))))
    refine TC.seq ?_
    refine TC.region ?_
    refine TL.op (yq (y_bld0 bd_29_0)) rfl rfl rfl ?_
    refine TL.storeAgg (cs := [(.slice none 0 0)]) (us := [(.slice none 0 0)]) 0 (ev_t rfl) (ev_t rfl) agg_29 rfl rfl (fun w hw => (ocs_cons rfl ocs_nil)) ?_
    refine TL.op (yq (y_assign ev_c)) rfl rfl rfl ?_
    refine TL.nil ?_
    refine TN.seq ?_
    refine TC.ret ?_
    refine TN.thenR ?_
    subst hF
    refine TN.cls (fun w hw => hw.nilTab 25 3) ?_
    exact TN.retCT (cs := [(.slice none 0 0)]) 1 (by simp) rfl (ev_t rfl) (ev_t rfl) agg_29 rfl (fun w' hw => ⟨((.slice none 0 0), []), rfl, Hp.sublist hw (.cons_cons _ (.cons _ .slnil))⟩)
  · rw [bif_neg h82] at hF
    have q83 := (and_imp (or_f h82) (fun h => (of_decide_eq_false h)) (fun h => (of_decide_eq_true (not_f h))))
    refine TC.skip ?_
    refine TN.seq ?_
    refine TC.seq ?_
    refine TC.region ?_
    refine TL.op (yq (y_move (ev_t rfl))) rfl rfl rfl ?_
    refine TL.op (yq (y_len (ev_t rfl) Try.underlying25 (fun w hw => ((ri_arg hup) w hw).ln))) rfl rfl rfl ?_
    refine TL.op (yq (y_add (ev_t rfl) ev_c (by unfold In64; omega))) rfl rfl rfl ?_
    refine TL.op (yq (y_assign (ev_t rfl))) rfl rfl rfl ?_
    refine TL.nil ?_
    refine TN.seq ?_
    refine TC.seq ?_
    refine TC.region ?_
    refine TL.op (yq (y_bld0 bd_29_0)) rfl rfl rfl ?_
    refine TL.alloc (u := (.agg #[(.slice none 0 0)])) (by kernel_rfl) rfl (fun g4_1 => ?_)
    refine TL.storeAgg (cs := [(.slice none 0 0)]) (us := [(.slice none 0 0)]) 0 (ev_t rfl) (ev_t rfl) agg_29 rfl rfl (fun w hw => (ocs_cons rfl ocs_nil)) ?_
    refine TL.nil ?_
    refine TN.seq ?_
    refine TC.seq ?_
    refine TC.seq ?_
    refine TC.region ?_
    refine TL.op (yq (y_move (ev_t rfl))) rfl rfl rfl ?_
    refine TL.op (yq (y_move ev_c)) rfl rfl rfl ?_
    refine TL.nil ?_
    refine TN.seq ?_
    refine TC.block ?_
    refine TC.cls (fun w hw => hw.nilTab 25 3) ?_
    obtain ⟨c85, hc86⟩ : ∃ c, F_impl_TreeMetric_L1 up (((((up.length : Int) + 1).toNat) - 0) + 1) (0, ([])) = c := ⟨_, rfl⟩
    rw [hc86] at hF
    refine TC.loop (ι := Nat × Nat × List (List Int) × Value × List Value) (fun (fu1, k27_1, zg4_1_0_1, vzg4_1_0_1, uzg4_1_0_1) => [(0, vup), (1, vln), (4, (.pointer (some ⟨g0_0, 0, none⟩))), (6, (.int .i64 ((up.length : Int) + 1))), (7, (.pointer (some ⟨g4_1, 0, none⟩))), (26, (.int .i64 ((up.length : Int) + 1))), (27, (.int .i64 (k27_1 : Int)))]) (fun (fu1, k27_1, zg4_1_0_1, vzg4_1_0_1, uzg4_1_0_1) => Hp w [tabI 25 3 vzg4_1_0_1 uzg4_1_0_1 zg4_1_0_1, .blk g4_1 29 [vzg4_1_0_1], .blk g0_0 29 [(.slice none 0 0)]]) (fun (fu1, k27_1, zg4_1_0_1, vzg4_1_0_1, uzg4_1_0_1) => (k27_1 ≤ (((up.length : Int) + 1).toNat)) ∧ (zg4_1_0_1 = List.replicate k27_1 (List.replicate (up.length + 1) (-1))) ∧ (((up.length : Int) + 1).toNat) - k27_1 < fu1 ∧ F_impl_TreeMetric_L1 up fu1 (k27_1, zg4_1_0_1) = c85) (fun (fu1, k27_1, zg4_1_0_1, vzg4_1_0_1, uzg4_1_0_1) => fu1) (((((up.length : Int) + 1).toNat) - 0) + 1, 0, [], (.slice none 0 0), []) ⟨(by first | omega | (simp [-List.getD_eq_getElem?_getD] <;> omega)), rfl, (by omega), hc86⟩ ⟨rfl, rfl, rfl, rfl, rfl, rfl, rfl, trivial⟩ (fun w hw => hw) ?_
    rintro ⟨fu1, k27_1, zg4_1_0_1, vzg4_1_0_1, uzg4_1_0_1⟩ hJ1
    obtain ⟨hi1_0, hi1_1, hmu1, hL1⟩ : (k27_1 ≤ (((up.length : Int) + 1).toNat)) ∧ (zg4_1_0_1 = List.replicate k27_1 (List.replicate (up.length + 1) (-1))) ∧ (((up.length : Int) + 1).toNat) - k27_1 < fu1 ∧ F_impl_TreeMetric_L1 up fu1 (k27_1, zg4_1_0_1) = c85 := hJ1
    change TC _ _ _ _ (Hp w [tabI 25 3 vzg4_1_0_1 uzg4_1_0_1 zg4_1_0_1, .blk g4_1 29 [vzg4_1_0_1], .blk g0_0 29 [(.slice none 0 0)]]) [(0, vup), (1, vln), (4, (.pointer (some ⟨g0_0, 0, none⟩))), (6, (.int .i64 ((up.length : Int) + 1))), (7, (.pointer (some ⟨g4_1, 0, none⟩))), (26, (.int .i64 ((up.length : Int) + 1))), (27, (.int .i64 (k27_1 : Int)))]
    obtain ⟨mf1, rfl⟩ : ∃ m, fu1 = m + 1 := ⟨fu1 - 1, by omega⟩
    rw [F_impl_TreeMetric_L1_s] at hL1
    have hzl : zg4_1_0_1.length = k27_1 := by rw [hi1_1]; simp
    refine TC.seq ?_
    refine TC.region ?_
    refine TL.op (yq (y_lss (ev_t rfl) (ev_t rfl))) rfl rfl rfl ?_
    refine TL.nil ?_
    refine TN.seq ?_
    refine TC.seq ?_
    refine TC.cond (b := decide ((k27_1 : Int) < (up.length : Int) + 1)) (ev_t rfl) (fun h87 => ?_) (fun h87 => ?_)
    · rw [bif_pos h87] at hL1
      have q88 := (of_decide_eq_true h87)
      refine TC.skip ?_
      refine TN.seq ?_
      refine TC.seq ?_
      refine TC.block ?_
      refine TC.mid (fun a' w' => ∃ r7_4 : Value, ∃ v7_6 : Value, Slots 101 [(0, vup), (1, vln), (4, (.pointer (some ⟨g0_0, 0, none⟩))), (6, (.int .i64 ((up.length : Int) + 1))), (7, (.pointer (some ⟨g4_1, 0, none⟩))), (26, (.int .i64 ((up.length : Int) + 1))), (27, (.int .i64 (k27_1 : Int)))] a' ∧ Hp w [tabI 25 3 v7_6 (uzg4_1_0_1 ++ [r7_4]) (zg4_1_0_1 ++ [(F_slices_Repeat_Sint_int ([-1]) ((up.length : Int) + 1))]), .blk g4_1 29 [v7_6], .blk g0_0 29 [(.slice none 0 0)]] w') ?_ ?_
      · refine TC.regionH 9 (Hp w [.blk g0_0 29 [(.slice none 0 0)]]) rfl (by kernel_rfl) dr_hp (fun w hw => Hp.sublist hw (.cons _ (.cons _ (.cons_cons _ .slnil)))) ?_
        refine TH.take 0 rfl (by kernel_rfl) (y_fa (fa_29_0 g4_1) (ev_t rfl)) rfl rfl rfl ?_
        refine TH.take 3 rfl (by kernel_rfl) (y_move (ev_t rfl)) rfl rfl rfl ?_
        refine TH.loud2 1 2 rfl rfl (by kernel_rfl) ?_ ?_
        · refine TL.op (yq (y_ldb 1 (ev_t rfl) one_22 rfl rfl)) rfl rfl rfl ?_
          refine TL.nil ?_
          refine TH.back (fun w hw => Hp.sublist hw (.cons _ (.cons _ (.cons_cons _ .slnil)))) ?_
          refine TH.loud 2 rfl (by kernel_rfl) ?_
          refine TL.buildI (zs := [.const (.int .i64 (-1))]) (qs := [-1]) slT_25 rfl ⟨ev_c, trivial⟩ rfl (by decide) rfl (fun v7_2 => ?_)
          refine TL.nil ?_
          refine TH.back (fun w hw => Hp.sublist hw (.cons _ (.cons _ (.cons _ (.cons_cons _ .slnil))))) ?_
          refine TH.loud 4 rfl (by kernel_rfl) ?_
          refine TL.callr (ι := Value) (vs := [v7_2, (.int .i64 ((up.length : Int) + 1))]) (fun i => i) (fun i => [rowI 3 i (F_slices_Repeat_Sint_int ([-1]) ((up.length : Int) + 1))]) en_83 ⟨(ev_t rfl), (ev_t rfl), trivial⟩ rfl (fun w hw => slices_Repeat_Sint_int_ok w v7_2 ([-1]) ((ri_row 0 rfl) w hw) ((up.length : Int) + 1) (by first | omega | rfl) (by first | omega | rfl) (by first | omega | rfl)) (fun r7_4 => ?_)
          refine TL.nil ?_
          refine TH.back (fun w hw => Hp.sublist hw (.cons _ (.cons _ (.cons _ (.cons _ (.cons_cons _ .slnil)))))) ?_
          refine TH.loud 5 rfl (by kernel_rfl) ?_
          refine TL.buildU slT_22 (ev_t rfl) (fun w hw => ((ri_row 0 rfl) w hw).ln) rfl (fun v7_5 => ?_)
          refine TL.nil ?_
          refine TH.back (fun w hw => Hp.sublist hw (.cons _ (.cons _ (.cons _ (.cons _ (.cons _ (.cons_cons _ .slnil))))))) ?_
          refine TH.loud 6 rfl (by kernel_rfl) ?_
          refine TL.appendT 3 1 rfl (ev_t rfl) (ev_t rfl) rfl rfl slT_22 (rd_row 0 rfl) (by first | omega | (simp [-List.getD_eq_getElem?_getD] <;> omega)) rfl (fun v7_6 => ?_)
          refine TL.nil ?_
          refine TH.back (fun w hw => Hp.sublist hw (.cons _ (.cons _ (.cons _ (.cons _ (.cons _ (.cons_cons _ .slnil))))))) ?_
          refine TH.take 7 rfl (by kernel_rfl) (y_fa (fa_29_0 g4_1) (ev_t rfl)) rfl rfl rfl ?_
          refine TH.loud 8 rfl (by kernel_rfl) ?_
          refine TL.storeB 4 (ev_t rfl) (ev_t rfl) one_22 rfl (by first | decide | simp) (fun w hw => (ln_one ((fun w hw => ((rii_tab 3 rfl) w hw).1) w hw).ln)) ?_
          refine TL.nil ?_
          refine TH.back (fun w hw => Hp.sublist hw (.cons _ (.cons _ (.cons _ (.cons _ (.cons _ (.cons_cons _ .slnil))))))) ?_
          refine TH.done (by kernel_rfl) ?_
          exact fun a' w' hs hw => ⟨r7_4, v7_6, hs.sub ⟨rfl, rfl, rfl, rfl, rfl, rfl, rfl, trivial⟩, Hp.sublist hw (.cons _ (.cons _ (.cons _ (.cons_cons _ (.cons_cons _ (.cons_cons _ .slnil))))))⟩
        · refine TL.buildI (zs := [.const (.int .i64 (-1))]) (qs := [-1]) slT_25 rfl ⟨ev_c, trivial⟩ rfl (by decide) rfl (fun v7_2 => ?_)
          refine TL.nil ?_
          refine TH.back (fun w hw => Hp.sublist hw (.cons _ (.cons _ (.cons _ (.cons_cons _ .slnil))))) ?_
          refine TH.loud2 1 4 rfl rfl (by kernel_rfl) ?_ ?_
          · refine TL.op (yq (y_ldb 2 (ev_t rfl) one_22 rfl rfl)) rfl rfl rfl ?_
            refine TL.nil ?_
            refine TH.back (fun w hw => Hp.sublist hw (.cons _ (.cons _ (.cons _ (.cons_cons _ .slnil))))) ?_
            refine TH.loud 4 rfl (by kernel_rfl) ?_
            refine TL.callr (ι := Value) (vs := [v7_2, (.int .i64 ((up.length : Int) + 1))]) (fun i => i) (fun i => [rowI 3 i (F_slices_Repeat_Sint_int ([-1]) ((up.length : Int) + 1))]) en_83 ⟨(ev_t rfl), (ev_t rfl), trivial⟩ rfl (fun w hw => slices_Repeat_Sint_int_ok w v7_2 ([-1]) ((ri_row 0 rfl) w hw) ((up.length : Int) + 1) (by first | omega | rfl) (by first | omega | rfl) (by first | omega | rfl)) (fun r7_4 => ?_)
            refine TL.nil ?_
            refine TH.back (fun w hw => Hp.sublist hw (.cons _ (.cons _ (.cons _ (.cons _ (.cons_cons _ .slnil)))))) ?_
            refine TH.loud 5 rfl (by kernel_rfl) ?_
            refine TL.buildU slT_22 (ev_t rfl) (fun w hw => ((ri_row 0 rfl) w hw).ln) rfl (fun v7_5 => ?_)
            refine TL.nil ?_
            refine TH.back (fun w hw => Hp.sublist hw (.cons _ (.cons _ (.cons _ (.cons _ (.cons _ (.cons_cons _ .slnil))))))) ?_
            refine TH.loud 6 rfl (by kernel_rfl) ?_
            refine TL.appendT 3 1 rfl (ev_t rfl) (ev_t rfl) rfl rfl slT_22 (rd_row 0 rfl) (by first | omega | (simp [-List.getD_eq_getElem?_getD] <;> omega)) rfl (fun v7_6 => ?_)
            refine TL.nil ?_
            refine TH.back (fun w hw => Hp.sublist hw (.cons _ (.cons _ (.cons _ (.cons _ (.cons _ (.cons_cons _ .slnil))))))) ?_
            refine TH.take 7 rfl (by kernel_rfl) (y_fa (fa_29_0 g4_1) (ev_t rfl)) rfl rfl rfl ?_
            refine TH.loud 8 rfl (by kernel_rfl) ?_
            refine TL.storeB 4 (ev_t rfl) (ev_t rfl) one_22 rfl (by first | decide | simp) (fun w hw => (ln_one ((fun w hw => ((rii_tab 3 rfl) w hw).1) w hw).ln)) ?_
            refine TL.nil ?_
            refine TH.back (fun w hw => Hp.sublist hw (.cons _ (.cons _ (.cons _ (.cons _ (.cons _ (.cons_cons _ .slnil))))))) ?_
            refine TH.done (by kernel_rfl) ?_
            exact fun a' w' hs hw => ⟨r7_4, v7_6, hs.sub ⟨rfl, rfl, rfl, rfl, rfl, rfl, rfl, trivial⟩, Hp.sublist hw (.cons _ (.cons _ (.cons _ (.cons_cons _ (.cons_cons _ (.cons_cons _ .slnil))))))⟩
          · refine TL.callr (ι := Value) (vs := [v7_2, (.int .i64 ((up.length : Int) + 1))]) (fun i => i) (fun i => [rowI 3 i (F_slices_Repeat_Sint_int ([-1]) ((up.length : Int) + 1))]) en_83 ⟨(ev_t rfl), (ev_t rfl), trivial⟩ rfl (fun w hw => slices_Repeat_Sint_int_ok w v7_2 ([-1]) ((ri_row 0 rfl) w hw) ((up.length : Int) + 1) (by first | omega | rfl) (by first | omega | rfl) (by first | omega | rfl)) (fun r7_4 => ?_)
            refine TL.nil ?_
            refine TH.back (fun w hw => Hp.sublist hw (.cons _ (.cons _ (.cons _ (.cons _ (.cons_cons _ .slnil)))))) ?_
            refine TH.loud2 1 5 rfl rfl (by kernel_rfl) ?_ ?_
            · refine TL.op (yq (y_ldb 3 (ev_t rfl) one_22 rfl rfl)) rfl rfl rfl ?_
              refine TL.nil ?_
              refine TH.back (fun w hw => Hp.sublist hw (.cons _ (.cons _ (.cons _ (.cons _ (.cons_cons _ .slnil)))))) ?_
              refine TH.loud 5 rfl (by kernel_rfl) ?_
              refine TL.buildU slT_22 (ev_t rfl) (fun w hw => ((ri_row 0 rfl) w hw).ln) rfl (fun v7_5 => ?_)
              refine TL.nil ?_
              refine TH.back (fun w hw => Hp.sublist hw (.cons _ (.cons _ (.cons _ (.cons _ (.cons _ (.cons_cons _ .slnil))))))) ?_
              refine TH.loud 6 rfl (by kernel_rfl) ?_
              refine TL.appendT 3 1 rfl (ev_t rfl) (ev_t rfl) rfl rfl slT_22 (rd_row 0 rfl) (by first | omega | (simp [-List.getD_eq_getElem?_getD] <;> omega)) rfl (fun v7_6 => ?_)
              refine TL.nil ?_
              refine TH.back (fun w hw => Hp.sublist hw (.cons _ (.cons _ (.cons _ (.cons _ (.cons _ (.cons_cons _ .slnil))))))) ?_
              refine TH.take 7 rfl (by kernel_rfl) (y_fa (fa_29_0 g4_1) (ev_t rfl)) rfl rfl rfl ?_
              refine TH.loud 8 rfl (by kernel_rfl) ?_
              refine TL.storeB 4 (ev_t rfl) (ev_t rfl) one_22 rfl (by first | decide | simp) (fun w hw => (ln_one ((fun w hw => ((rii_tab 3 rfl) w hw).1) w hw).ln)) ?_
              refine TL.nil ?_
              refine TH.back (fun w hw => Hp.sublist hw (.cons _ (.cons _ (.cons _ (.cons _ (.cons _ (.cons_cons _ .slnil))))))) ?_
              refine TH.done (by kernel_rfl) ?_
              exact fun a' w' hs hw => ⟨r7_4, v7_6, hs.sub ⟨rfl, rfl, rfl, rfl, rfl, rfl, rfl, trivial⟩, Hp.sublist hw (.cons _ (.cons _ (.cons _ (.cons_cons _ (.cons_cons _ (.cons_cons _ .slnil))))))⟩
            · refine TL.buildU slT_22 (ev_t rfl) (fun w hw => ((ri_row 0 rfl) w hw).ln) rfl (fun v7_5 => ?_)
              refine TL.nil ?_
              refine TH.back (fun w hw => Hp.sublist hw (.cons _ (.cons _ (.cons _ (.cons _ (.cons _ (.cons_cons _ .slnil))))))) ?_
              refine TH.loud 1 rfl (by kernel_rfl) ?_
              refine TL.op (yq (y_ldb 4 (ev_t rfl) one_22 rfl rfl)) rfl rfl rfl ?_
              refine TL.nil ?_
              refine TH.back (fun w hw => Hp.sublist hw (.cons _ (.cons _ (.cons _ (.cons _ (.cons _ (.cons_cons _ .slnil))))))) ?_
              refine TH.loud 6 rfl (by kernel_rfl) ?_
              refine TL.appendT 3 1 rfl (ev_t rfl) (ev_t rfl) rfl rfl slT_22 (rd_row 0 rfl) (by first | omega | (simp [-List.getD_eq_getElem?_getD] <;> omega)) rfl (fun v7_6 => ?_)
              refine TL.nil ?_
              refine TH.back (fun w hw => Hp.sublist hw (.cons _ (.cons _ (.cons _ (.cons _ (.cons _ (.cons_cons _ .slnil))))))) ?_
              refine TH.take 7 rfl (by kernel_rfl) (y_fa (fa_29_0 g4_1) (ev_t rfl)) rfl rfl rfl ?_
              refine TH.loud 8 rfl (by kernel_rfl) ?_
              refine TL.storeB 4 (ev_t rfl) (ev_t rfl) one_22 rfl (by first | decide | simp) (fun w hw => (ln_one ((fun w hw => ((rii_tab 3 rfl) w hw).1) w hw).ln)) ?_
              refine TL.nil ?_
              refine TH.back (fun w hw => Hp.sublist hw (.cons _ (.cons _ (.cons _ (.cons _ (.cons _ (.cons_cons _ .slnil))))))) ?_
              refine TH.done (by kernel_rfl) ?_
              exact fun a' w' hs hw => ⟨r7_4, v7_6, hs.sub ⟨rfl, rfl, rfl, rfl, rfl, rfl, rfl, trivial⟩, Hp.sublist hw (.cons _ (.cons _ (.cons _ (.cons_cons _ (.cons_cons _ (.cons_cons _ .slnil))))))⟩
      · rintro a' w' ⟨r7_4, v7_6, hs', hw'⟩
        refine (?_ : TN _ .normal 101 (Hp w [tabI 25 3 v7_6 (uzg4_1_0_1 ++ [r7_4]) (zg4_1_0_1 ++ [(F_slices_Repeat_Sint_int ([-1]) ((up.length : Int) + 1))]), .blk g4_1 29 [v7_6], .blk g0_0 29 [(.slice none 0 0)]]) [(0, vup), (1, vln), (4, (.pointer (some ⟨g0_0, 0, none⟩))), (6, (.int .i64 ((up.length : Int) + 1))), (7, (.pointer (some ⟨g4_1, 0, none⟩))), (26, (.int .i64 ((up.length : Int) + 1))), (27, (.int .i64 (k27_1 : Int)))]) a' w' hs' hw'
        clear hs' hw'
        refine TN.blockN ?_
        refine TN.seq ?_
        refine TC.region ?_
        refine TL.op (yq (y_add (ev_t rfl) ev_c (by unfold In64; omega))) rfl rfl rfl ?_
        refine TL.op (yq (y_move (ev_t rfl))) rfl rfl rfl ?_
        refine TL.nil ?_
        exact TN.hand (mf1, (k27_1 + 1), (zg4_1_0_1 ++ [(F_slices_Repeat_Sint_int ([-1]) ((up.length : Int) + 1))]), v7_6, (uzg4_1_0_1 ++ [r7_4])) ⟨(by first | omega | (simp [-List.getD_eq_getElem?_getD] <;> omega)), (blank_push hi1_1 (by omega)), (by omega), hL1⟩ (Nat.lt_succ_self _) ⟨rfl, rfl, rfl, rfl, rfl, rfl, rfl, trivial⟩ (fun w hw => hw)
    · rw [bif_neg h87] at hL1
      have q88 := (of_decide_eq_false h87)
      refine TC.exit ?_
      refine TN.thenE ?_
      refine TN.thenE ?_
      rw [← hL1, elim_next] at hF
      try dsimp only at hF
      have hz0 := blank_row hi1_1 (by omega)
      refine TN.blockH ?_
      refine TN.seq ?_
      refine TC.seq ?_
      refine TC.region ?_
      refine TL.op (yq (y_fa (fa_29_0 g4_1) (ev_t rfl))) rfl rfl rfl ?_
      refine TL.op (yq (y_ldb 1 (ev_t rfl) one_22 rfl rfl)) rfl rfl rfl ?_
      have hb89 : 0 < zg4_1_0_1.length := (by first | omega | (simp only [List.length_set, List.length_append, List.length_cons, List.length_nil, List.length_replicate]; omega) | (rw [sortI_length]; simp only [List.length_cons, List.length_nil]; omega))
      refine TL.op (yq (y_idx (k := 0) (ev_t rfl) ev_c (by first | omega | simp) slT_22 (fun w hw => ((rii_tab 0 rfl) w hw).1) hb89)) rfl rfl rfl ?_
      refine TL.op (yq (y_ldT 0 (ev_t rfl) one_25 rfl hb89)) rfl rfl rfl ?_
      have hb90 : 0 < (zg4_1_0_1.getD 0 []).length := (by first | omega | (simp only [List.length_set, List.length_append, List.length_cons, List.length_nil, List.length_replicate]; omega) | (rw [sortI_length]; simp only [List.length_cons, List.length_nil]; omega))
      refine TL.op (yq (y_idx (k := 0) (ev_t rfl) ev_c (by first | omega | simp) slT_25 (ri_tab 0 0 rfl hb89) hb90)) rfl rfl rfl ?_
      refine TL.storeT 0 (ev_t rfl) ev_c one_3 rfl hb89 hb90 ?_
      refine TL.nil ?_
      refine TN.seq ?_
      refine TC.seq ?_
      refine TC.seq ?_
      refine TC.region ?_
      refine TL.op (yq (y_move (ev_t rfl))) rfl rfl rfl ?_
      refine TL.op (yq (y_len (ev_t rfl) Try.underlying25 (fun w hw => ((ri_arg hup) w hw).ln))) rfl rfl rfl ?_
      refine TL.op (yq (y_move ev_c)) rfl rfl rfl ?_
      refine TL.nil ?_
      refine TN.seq ?_
      refine TC.block ?_
      obtain ⟨c91, hc92⟩ : ∃ c, F_impl_TreeMetric_L2 up ln ((up.length - 0) + 1) (0, (zg4_1_0_1.set 0 ((zg4_1_0_1.getD 0 []).set 0 0))) = c := ⟨_, rfl⟩
      rw [hc92] at hF
      refine TC.loop (ι := Nat × Nat × List (List Int)) (fun (fu2, k45_2, m0_2) => [(1, vln), (4, (.pointer (some ⟨g0_0, 0, none⟩))), (7, (.pointer (some ⟨g4_1, 0, none⟩))), (43, vup), (44, (.int .i64 (up.length : Int))), (45, (.int .i64 (k45_2 : Int)))]) (fun (fu2, k45_2, m0_2) => Hp w [tabI 25 3 vzg4_1_0_1 uzg4_1_0_1 m0_2, .blk g4_1 29 [vzg4_1_0_1], .blk g0_0 29 [(.slice none 0 0)]]) (fun (fu2, k45_2, m0_2) => (k45_2 ≤ up.length) ∧ (TrI (up.length + 1) (k45_2 + 1) m0_2) ∧ up.length - k45_2 < fu2 ∧ F_impl_TreeMetric_L2 up ln fu2 (k45_2, m0_2) = c91) (fun (fu2, k45_2, m0_2) => fu2) ((up.length - 0) + 1, 0, (zg4_1_0_1.set 0 ((zg4_1_0_1.getD 0 []).set 0 0))) ⟨(by first | omega | (simp [-List.getD_eq_getElem?_getD] <;> omega)), (blank_dia hi1_1 (by omega)), (by omega), hc92⟩ ⟨rfl, rfl, rfl, rfl, rfl, rfl, trivial⟩ (fun w hw => hw) ?_
      rintro ⟨fu2, k45_2, m0_2⟩ hJ2
      obtain ⟨hi2_0, hi2_1, hmu2, hL2⟩ : (k45_2 ≤ up.length) ∧ (TrI (up.length + 1) (k45_2 + 1) m0_2) ∧ up.length - k45_2 < fu2 ∧ F_impl_TreeMetric_L2 up ln fu2 (k45_2, m0_2) = c91 := hJ2
      change TC _ _ _ _ (Hp w [tabI 25 3 vzg4_1_0_1 uzg4_1_0_1 m0_2, .blk g4_1 29 [vzg4_1_0_1], .blk g0_0 29 [(.slice none 0 0)]]) [(1, vln), (4, (.pointer (some ⟨g0_0, 0, none⟩))), (7, (.pointer (some ⟨g4_1, 0, none⟩))), (43, vup), (44, (.int .i64 (up.length : Int))), (45, (.int .i64 (k45_2 : Int)))]
      obtain ⟨mf2, rfl⟩ : ∃ m, fu2 = m + 1 := ⟨fu2 - 1, by omega⟩
      rw [F_impl_TreeMetric_L2_s] at hL2
      have hsl := hi2_1.sq.len
      have hr1 := hi2_1.sq.rows (k45_2 + 1)
      refine TC.seq ?_
      refine TC.region ?_
      refine TL.op (yq (y_lss (ev_t rfl) (ev_t rfl))) rfl rfl rfl ?_
      refine TL.nil ?_
      refine TN.seq ?_
      refine TC.seq ?_
      refine TC.cond (b := decide ((k45_2 : Int) < (up.length : Int))) (ev_t rfl) (fun h93 => ?_) (fun h93 => ?_)
      · rw [bif_pos h93] at hL2
        have q94 := (of_decide_eq_true h93)
        refine TC.skip ?_
        refine TN.seq ?_
        refine TC.seq ?_
        refine TC.block ?_
        refine TC.seq ?_
        refine TC.region ?_
        refine TL.op (yq (y_move (ev_t rfl))) rfl rfl rfl ?_
        have hb95 : k45_2 < up.length := (by first | omega | (simp only [List.length_set, List.length_append, List.length_cons, List.length_nil, List.length_replicate]; omega) | (rw [sortI_length]; simp only [List.length_cons, List.length_nil]; omega))
        refine TL.op (yq (y_idx (k := k45_2) (ev_t rfl) (ev_t rfl) (by first | omega | simp) slT_25 (ri_arg hup) hb95)) rfl rfl rfl ?_
        refine TL.op (yq (y_ldi (ev_t rfl) one_3 (ri_arg hup) hb95)) rfl rfl rfl ?_
        refine TL.op (yq (y_assign (ev_t rfl))) rfl rfl rfl ?_
        refine TL.op (yq (y_assign (ev_t rfl))) rfl rfl rfl ?_
        refine TL.nil ?_
        refine TN.seq ?_
        refine TC.seq ?_
        refine TC.region ?_
        refine TL.op (yq (y_move (ev_t rfl))) rfl rfl rfl ?_
        refine TL.op (yq (y_add (ev_t rfl) ev_c (by unfold In64; omega))) rfl rfl rfl ?_
        refine TL.op (yq (y_assign (ev_t rfl))) rfl rfl rfl ?_
        refine TL.nil ?_
        refine TN.seq ?_
        refine TC.seq ?_
        refine TC.seq ?_
        refine TC.region ?_
        refine TL.op (yq (y_move (ev_t rfl))) rfl rfl rfl ?_
        refine TL.op (yq (y_move (ev_t rfl))) rfl rfl rfl ?_
        refine TL.op (yq (y_sub (ev_t rfl) ev_c (by unfold In64; omega))) rfl rfl rfl ?_
        refine TL.op (y_call (vs := [(.int .i64 (up.getD k45_2 0)), (.int .i64 0), (.int .i64 (((k45_2 : Int) + 1) - 1))]) (v := (.bool ((decide (0 ≤ (up.getD k45_2 0))) && (decide ((up.getD k45_2 0) ≤ (((k45_2 : Int) + 1) - 1)))))) en_84 ⟨(ev_t rfl), ev_c, (ev_t rfl), trivial⟩ (fun w hw => impl_within_ok w (up.getD k45_2 0) 0 (((k45_2 : Int) + 1) - 1))) rfl rfl rfl ?_
        refine TL.op (yq (y_not (ev_t rfl))) rfl rfl rfl ?_
        refine TL.op (yq (y_move (ev_t rfl))) rfl rfl rfl ?_
        refine TL.opw (w_f rfl rfl rfl) (fun hg => yq (y_move (ev_t rfl))) rfl rfl ?_
        refine TL.opw (w_f rfl rfl rfl) (fun hg => yq (y_move (ev_t rfl))) rfl rfl ?_
        refine TL.opw (w_f rfl rfl rfl) (fun hg => yq (y_idx (k := k45_2) (ev_g rfl hg) (ev_g rfl hg) (by first | omega | simp) slT_25 (ri_arg hln) (show k45_2 < ln.length by have hgf := (and_imp (and_t (not_f (not_t hg))) (fun h => (of_decide_eq_true h)) (fun h => (of_decide_eq_true h))); omega))) rfl rfl ?_
        refine TL.opw (w_f rfl rfl rfl) (fun hg => yq (y_ldi (ev_g rfl hg) one_3 (ri_arg hln) (show k45_2 < ln.length by have hgf := (and_imp (and_t (not_f (not_t hg))) (fun h => (of_decide_eq_true h)) (fun h => (of_decide_eq_true h))); omega))) rfl rfl ?_
        refine TL.opw (w_f rfl rfl rfl) (fun hg => y_call (vs := [(.int .i64 (ln.getD k45_2 0)), (.int .i64 1), (.int .i64 99)]) (v := (.bool ((decide (1 ≤ (ln.getD k45_2 0))) && (decide ((ln.getD k45_2 0) ≤ 99))))) en_84 ⟨(ev_g rfl hg), ev_c, ev_c, trivial⟩ (fun w hw => impl_within_ok w (ln.getD k45_2 0) 1 99)) rfl rfl ?_
        refine TL.opw (w_f rfl rfl rfl) (fun hg => yq (y_not (ev_g rfl hg))) rfl rfl ?_
        refine TL.op (yq (y_or (ev_t rfl) (fun hq => (ev_g rfl hq)))) rfl rfl rfl ?_
        refine TL.nil ?_
        refine TN.seq ?_
        refine TC.cond (b := ((!((decide (0 ≤ (up.getD k45_2 0))) && (decide ((up.getD k45_2 0) ≤ (((k45_2 : Int) + 1) - 1))))) || (!((decide (1 ≤ (ln.getD k45_2 0))) && (decide ((ln.getD k45_2 0) ≤ 99)))))) (ev_t rfl) (fun h96 => ?_) (fun h96 => ?_)
        · rw [bif_pos h96] at hL2
          have q97 := ((or_t h96).imp (fun h => ((and_f (not_t h)).imp (fun h => (of_decide_eq_false h)) (fun h => (of_decide_eq_false h)))) (fun h => ((and_f (not_t h)).imp (fun h => (of_decide_eq_false h)) (fun h => (of_decide_eq_false h)))))
          refine TC.seq ?_
          refine TC.region ?_
          refine TL.op (yq (y_bld0 bd_29_0)) rfl rfl rfl ?_
          refine TL.storeAgg (cs := [(.slice none 0 0)]) (us := [(.slice none 0 0)]) 2 (ev_t rfl) (ev_t rfl) agg_29 rfl rfl (fun w hw => (ocs_cons rfl ocs_nil)) ?_
          refine TL.op (yq (y_assign ev_c)) rfl rfl rfl ?_
          refine TL.nil ?_
          refine TN.seq ?_
          refine TC.ret ?_
          refine TN.thenR ?_
          refine TN.blockR ?_
          refine TN.thenR ?_
          refine TN.thenR ?_
          rw [← hL2, elim_ret] at hF
          refine TN.blockR ?_
          refine TN.thenR ?_
          subst hF
          refine TN.cls (fun w hw => hw.nilTab 25 3) ?_
          exact TN.retCT (cs := [(.slice none 0 0)]) 3 (by simp) rfl (ev_t rfl) (ev_t rfl) agg_29 rfl (fun w' hw => ⟨((.slice none 0 0), []), rfl, Hp.sublist hw (.cons_cons _ (.cons _ (.cons _ (.cons _ .slnil))))⟩)
        · rw [bif_neg h96] at hL2
          have q97 := (and_imp (or_f h96) (fun h => (and_imp (and_t (not_f h)) (fun h => (of_decide_eq_true h)) (fun h => (of_decide_eq_true h)))) (fun h => (and_imp (and_t (not_f h)) (fun h => (of_decide_eq_true h)) (fun h => (of_decide_eq_true h)))))
          have hs1 := (hi2_1.dia (by omega)).sq
          have hs2 := hs1.set (x := k45_2 + 1) (y := ((up.getD k45_2 0)).toNat) (v := (ln.getD k45_2 0)) (by omega) (by omega)
          have l1 := hs1.len
          have l2 := hs2.len
          have r1 := hs1.rows (k45_2 + 1) (by omega)
          have r2 := hs2.rows (((up.getD k45_2 0)).toNat) (by omega)
          refine TC.skip ?_
          refine TN.seq ?_
          have hsb105 : ∀ wr, (fun wq => ∃ x0w : List (List Int), x0w.length = m0_2.length ∧ Hp w [tabI 25 3 vzg4_1_0_1 uzg4_1_0_1 x0w, .blk g4_1 29 [vzg4_1_0_1], .blk g0_0 29 [(.slice none 0 0)]] wq) wr → Hp w [.blk g4_1 29 [vzg4_1_0_1], .blk g0_0 29 [(.slice none 0 0)]] wr := fun wr ⟨_, _, hw⟩ => Hp.sublist hw (.cons _ (.cons_cons _ (.cons_cons _ .slnil)))
          have hwk106 : ∀ wr, (fun wq => ∃ x0w : List (List Int), x0w.length = m0_2.length ∧ Hp w [tabI 25 3 vzg4_1_0_1 uzg4_1_0_1 x0w, .blk g4_1 29 [vzg4_1_0_1], .blk g0_0 29 [(.slice none 0 0)]] wq) wr → Rd wr vzg4_1_0_1 1 m0_2.length uzg4_1_0_1 := fun wr ⟨_, hl0, hw⟩ => hl0 ▸ (rii_tab 0 rfl wr hw).1
          refine TC.regionH 32 (fun wq => ∃ x0w : List (List Int), x0w.length = m0_2.length ∧ Hp w [tabI 25 3 vzg4_1_0_1 uzg4_1_0_1 x0w, .blk g4_1 29 [vzg4_1_0_1], .blk g0_0 29 [(.slice none 0 0)]] wq) rfl (by kernel_rfl) dr_hp (fun w hw => ⟨_, rfl, hw⟩) ?_
          refine TH.take 0 rfl (by kernel_rfl) (Ys.cls hsb105 (y_fa (fa_29_0 g4_1) (ev_t rfl))) rfl rfl rfl ?_
          refine TH.take 1 rfl (by kernel_rfl) (Ys.cls hsb105 (y_ldb 0 (ev_t rfl) one_22 rfl rfl)) rfl rfl rfl ?_
          refine TH.take 2 rfl (by kernel_rfl) (Ys.cls hsb105 (y_move (ev_t rfl))) rfl rfl rfl ?_
          have hb107 : (k45_2 + 1) < m0_2.length := (by first | omega | (simp only [List.length_set, List.length_append, List.length_cons, List.length_nil, List.length_replicate]; omega) | (rw [sortI_length]; simp only [List.length_cons, List.length_nil]; omega))
          refine TH.take 3 rfl (by kernel_rfl) (y_idx (k := (k45_2 + 1)) (ev_t rfl) (ev_t rfl) (by first | omega | simp) slT_22 hwk106 hb107) rfl rfl rfl ?_
          refine TH.take 4 rfl (by kernel_rfl) (y_ldn (ev_t rfl) one_25 hwk106 hb107) rfl rfl rfl ?_
          refine TH.take 5 rfl (by kernel_rfl) (Ys.cls hsb105 (y_move (ev_t rfl))) rfl rfl rfl ?_
          refine TH.take 6 rfl (by kernel_rfl) (Ys.cls hsb105 (y_fa (fa_29_0 g4_1) (ev_t rfl))) rfl rfl rfl ?_
          refine TH.take 7 rfl (by kernel_rfl) (Ys.cls hsb105 (y_ldb 0 (ev_t rfl) one_22 rfl rfl)) rfl rfl rfl ?_
          refine TH.take 8 rfl (by kernel_rfl) (Ys.cls hsb105 (y_move (ev_t rfl))) rfl rfl rfl ?_
          have hb108 : (k45_2 + 1) < m0_2.length := (by first | omega | (simp only [List.length_set, List.length_append, List.length_cons, List.length_nil, List.length_replicate]; omega) | (rw [sortI_length]; simp only [List.length_cons, List.length_nil]; omega))
          refine TH.take 9 rfl (by kernel_rfl) (y_idx (k := (k45_2 + 1)) (ev_t rfl) (ev_t rfl) (by first | omega | simp) slT_22 hwk106 hb108) rfl rfl rfl ?_
          refine TH.take 10 rfl (by kernel_rfl) (y_ldn (ev_t rfl) one_25 hwk106 hb108) rfl rfl rfl ?_
          refine TH.take 11 rfl (by kernel_rfl) (Ys.cls hsb105 (y_move (ev_t rfl))) rfl rfl rfl ?_
          refine TH.take 12 rfl (by kernel_rfl) (Ys.cls hsb105 (y_fa (fa_29_0 g4_1) (ev_t rfl))) rfl rfl rfl ?_
          refine TH.take 13 rfl (by kernel_rfl) (Ys.cls hsb105 (y_ldb 0 (ev_t rfl) one_22 rfl rfl)) rfl rfl rfl ?_
          refine TH.take 14 rfl (by kernel_rfl) (Ys.cls hsb105 (y_move (ev_t rfl))) rfl rfl rfl ?_
          have hb109 : ((up.getD k45_2 0)).toNat < m0_2.length := (by first | omega | (simp only [List.length_set, List.length_append, List.length_cons, List.length_nil, List.length_replicate]; omega) | (rw [sortI_length]; simp only [List.length_cons, List.length_nil]; omega))
          refine TH.take 15 rfl (by kernel_rfl) (y_idx (k := ((up.getD k45_2 0)).toNat) (ev_t rfl) (ev_t rfl) (by first | omega | simp) slT_22 hwk106 hb109) rfl rfl rfl ?_
          refine TH.take 16 rfl (by kernel_rfl) (y_ldn (ev_t rfl) one_25 hwk106 hb109) rfl rfl rfl ?_
          refine TH.take 17 rfl (by kernel_rfl) (Ys.cls hsb105 (y_move (ev_t rfl))) rfl rfl rfl ?_
          refine TH.take 18 rfl (by kernel_rfl) (Ys.cls hsb105 (y_move (ev_t rfl))) rfl rfl rfl ?_
          refine TH.take 19 rfl (by kernel_rfl) (Ys.cls hsb105 (y_move (ev_t rfl))) rfl rfl rfl ?_
          have hb110 : k45_2 < ln.length := (by first | omega | (simp only [List.length_set, List.length_append, List.length_cons, List.length_nil, List.length_replicate]; omega) | (rw [sortI_length]; simp only [List.length_cons, List.length_nil]; omega))
          refine TH.take 20 rfl (by kernel_rfl) (Ys.cls hsb105 (y_idx (k := k45_2) (ev_t rfl) (ev_t rfl) (by first | omega | simp) slT_25 (ri_arg hln) hb110)) rfl rfl rfl ?_
          refine TH.take 21 rfl (by kernel_rfl) (Ys.cls hsb105 (y_ldi (ev_t rfl) one_3 (ri_arg hln) hb110)) rfl rfl rfl ?_
          refine TH.take 22 rfl (by kernel_rfl) (Ys.cls hsb105 (y_move (ev_t rfl))) rfl rfl rfl ?_
          refine TH.take 23 rfl (by kernel_rfl) (Ys.cls hsb105 (y_move (ev_t rfl))) rfl rfl rfl ?_
          have hb111 : k45_2 < ln.length := (by first | omega | (simp only [List.length_set, List.length_append, List.length_cons, List.length_nil, List.length_replicate]; omega) | (rw [sortI_length]; simp only [List.length_cons, List.length_nil]; omega))
          refine TH.take 24 rfl (by kernel_rfl) (Ys.cls hsb105 (y_idx (k := k45_2) (ev_t rfl) (ev_t rfl) (by first | omega | simp) slT_25 (ri_arg hln) hb111)) rfl rfl rfl ?_
          refine TH.take 25 rfl (by kernel_rfl) (Ys.cls hsb105 (y_ldi (ev_t rfl) one_3 (ri_arg hln) hb111)) rfl rfl rfl ?_
          refine TH.loud 26 rfl (by kernel_rfl) ?_
          have hb112 : (k45_2 + 1) < (m0_2.getD (k45_2 + 1) []).length := (by first | omega | (simp only [List.length_set, List.length_append, List.length_cons, List.length_nil, List.length_replicate]; omega) | (rw [sortI_length]; simp only [List.length_cons, List.length_nil]; omega))
          refine TL.op (yq (y_idx (k := (k45_2 + 1)) (ev_t rfl) (ev_t rfl) (by first | omega | simp) slT_25 (ri_tab 0 (k45_2 + 1) rfl hb107) hb112)) rfl rfl rfl ?_
          refine TL.nil ?_
          refine TH.back (fun w hw => ⟨_, rfl, hw⟩) ?_
          refine TH.loud 27 rfl (by kernel_rfl) ?_
          refine TL.storeT 0 (ev_t rfl) ev_c one_3 rfl hb107 hb112 ?_
          refine TL.nil ?_
          refine TH.back (fun w hw => ⟨_, (by simp only [List.length_set]), hw⟩) ?_
          refine TH.loud 28 rfl (by kernel_rfl) ?_
          have hb113 : ((up.getD k45_2 0)).toNat < ((m0_2.set (k45_2 + 1) ((m0_2.getD (k45_2 + 1) []).set (k45_2 + 1) 0)).getD (k45_2 + 1) []).length := (by first | omega | (simp only [List.length_set, List.length_append, List.length_cons, List.length_nil, List.length_replicate]; omega) | (rw [sortI_length]; simp only [List.length_cons, List.length_nil]; omega))
          refine TL.op (yq (y_idx (k := ((up.getD k45_2 0)).toNat) (ev_t rfl) (ev_t rfl) (by first | omega | simp) slT_25 (ri_tab 0 (k45_2 + 1) rfl (by first | exact hb108 | (simp only [List.length_set]; exact hb108))) hb113)) rfl rfl rfl ?_
          refine TL.nil ?_
          refine TH.back (fun w hw => ⟨_, (by simp only [List.length_set]), hw⟩) ?_
          refine TH.loud 29 rfl (by kernel_rfl) ?_
          refine TL.storeT 0 (ev_t rfl) (ev_t rfl) one_3 rfl (by first | exact hb108 | (simp only [List.length_set]; exact hb108)) hb113 ?_
          refine TL.nil ?_
          refine TH.back (fun w hw => ⟨_, (by simp only [List.length_set]), hw⟩) ?_
          refine TH.loud 30 rfl (by kernel_rfl) ?_
          have hb114 : (k45_2 + 1) < (((m0_2.set (k45_2 + 1) ((m0_2.getD (k45_2 + 1) []).set (k45_2 + 1) 0)).set (k45_2 + 1) (((m0_2.set (k45_2 + 1) ((m0_2.getD (k45_2 + 1) []).set (k45_2 + 1) 0)).getD (k45_2 + 1) []).set (((up.getD k45_2 0)).toNat) (ln.getD k45_2 0))).getD (((up.getD k45_2 0)).toNat) []).length := (by first | omega | (simp only [List.length_set, List.length_append, List.length_cons, List.length_nil, List.length_replicate]; omega) | (rw [sortI_length]; simp only [List.length_cons, List.length_nil]; omega))
          refine TL.op (yq (y_idx (k := (k45_2 + 1)) (ev_t rfl) (ev_t rfl) (by first | omega | simp) slT_25 (ri_tab 0 (((up.getD k45_2 0)).toNat) rfl (by first | exact hb109 | (simp only [List.length_set]; exact hb109))) hb114)) rfl rfl rfl ?_
          refine TL.nil ?_
          refine TH.back (fun w hw => ⟨_, (by simp only [List.length_set]), hw⟩) ?_
          refine TH.loud 31 rfl (by kernel_rfl) ?_
          refine TL.storeT 0 (ev_t rfl) (ev_t rfl) one_3 rfl (by first | exact hb109 | (simp only [List.length_set]; exact hb109)) hb114 ?_
          refine TL.nil ?_
          refine TH.back (fun w hw => ⟨_, (by simp only [List.length_set]), hw⟩) ?_
          refine TH.done (by kernel_rfl) ?_
          refine TN.blockN ?_
          refine TN.seq ?_
          refine TC.region ?_
          refine TL.op (yq (y_add (ev_t rfl) ev_c (by unfold In64; omega))) rfl rfl rfl ?_
          refine TL.op (yq (y_move (ev_t rfl))) rfl rfl rfl ?_
          refine TL.nil ?_
          exact TN.hand (mf2, (k45_2 + 1), (((m0_2.set (k45_2 + 1) ((m0_2.getD (k45_2 + 1) []).set (k45_2 + 1) 0)).set (k45_2 + 1) (((m0_2.set (k45_2 + 1) ((m0_2.getD (k45_2 + 1) []).set (k45_2 + 1) 0)).getD (k45_2 + 1) []).set (((up.getD k45_2 0)).toNat) (ln.getD k45_2 0))).set (((up.getD k45_2 0)).toNat) ((((m0_2.set (k45_2 + 1) ((m0_2.getD (k45_2 + 1) []).set (k45_2 + 1) 0)).set (k45_2 + 1) (((m0_2.set (k45_2 + 1) ((m0_2.getD (k45_2 + 1) []).set (k45_2 + 1) 0)).getD (k45_2 + 1) []).set (((up.getD k45_2 0)).toNat) (ln.getD k45_2 0))).getD (((up.getD k45_2 0)).toNat) []).set (k45_2 + 1) (ln.getD k45_2 0)))) ⟨(by first | omega | (simp [-List.getD_eq_getElem?_getD] <;> omega)), ((hi2_1.dia (by omega)).two (by omega) (by omega) (by omega) (by omega) (by omega)), (by omega), hL2⟩ (Nat.lt_succ_self _) ⟨rfl, rfl, rfl, rfl, rfl, rfl, trivial⟩ (fun w hw => hw)
      · rw [bif_neg h93] at hL2
        have q94 := (of_decide_eq_false h93)
        refine TC.exit ?_
        refine TN.thenE ?_
        refine TN.thenE ?_
        rw [← hL2, elim_next] at hF
        try dsimp only at hF
        have hTP : TabP true m0_2 := TrI.tabP (n := up.length + 1) (by have e : k45_2 = up.length := (by omega); rw [e] at hi2_1; exact hi2_1) (by omega) (by omega)
        have hTab := hTP.tab
        refine TN.blockH ?_
        refine TN.seq ?_
        refine TC.seq ?_
        refine TC.region ?_
        refine TL.op (yq (y_ldagg (cs := [vzg4_1_0_1]) 1 (ev_t rfl) agg_29 rfl)) rfl rfl rfl ?_
        refine TL.callr (ι := Value × List Value) (vs := [(.agg #[vzg4_1_0_1])]) (fun i => i.1) (fun i => [tabI 25 3 i.1 i.2 (F_impl_Metric_closed m0_2)]) en_65 ⟨(ev_t rfl), trivial⟩ rfl (fun w hw => impl_Metric_closed_ok w vzg4_1_0_1 uzg4_1_0_1 m0_2 ((rii_tab 0 rfl) w hw) (by first | assumption | omega | grind)) (fun r18_1 => ?_)
        refine TL.callm (ι := Value × List Value) 0 (vs := [r18_1.1]) (fun i => (.tuple #[(.agg #[i.1]), (.bool ((F_impl_metricOf (F_impl_Metric_closed m0_2)).2))])) (fun i => tabI 25 3 i.1 i.2 ((F_impl_metricOf (F_impl_Metric_closed m0_2)).1)) en_77 ⟨(ev_t rfl), trivial⟩ rfl rfl (fun w1 fr1 hw => impl_metricOf_ok w w1 fr1 r18_1.1 r18_1.2 (F_impl_Metric_closed m0_2) hw) (fun r18_2 => ?_)
        refine TL.op (yq (y_extract (ev_t rfl) rfl)) rfl rfl rfl ?_
        refine TL.op (yq (y_extract (ev_t rfl) rfl)) rfl rfl rfl ?_
        refine TL.storeAgg (cs := [(.slice none 0 0)]) (us := [r18_2.1]) 3 (ev_t rfl) (ev_t rfl) agg_29 rfl rfl (fun w hw => (ocs_cons (ln_one ((fun w hw => ((rii_tab 0 rfl) w hw).1) w hw).ln) ocs_nil)) ?_
        refine TL.op (yq (y_assign (ev_t rfl))) rfl rfl rfl ?_
        refine TL.nil ?_
        refine TN.seq ?_
        refine TC.ret ?_
        subst hF
        exact TN.retCT (cs := [r18_2.1]) 3 (by simp) rfl (ev_t rfl) (ev_t rfl) agg_29 rfl (fun w' hw => ⟨(r18_2.1, r18_2.2), rfl, Hp.sublist hw (.cons_cons _ (.cons _ (.cons _ (.cons _ .slnil))))⟩)

set_option maxRecDepth 4000 in
set_option maxHeartbeats 1000000 in
theorem spec_TreeMetric_ok (w : World) (vup : Value) (up : List Int) (hup : RI w vup up) (vln : Value) (ln : List Int) (hln : RI w vln ln) (hp0 : up.length ≤ 1048576) :
    Calls Try.prog 39 ([vup, vln] : List Value).toArray w (fun e w' => ∃ i : Value × List Value, e = .returned (.tuple #[(.agg #[i.1]), (.bool ((F_spec_TreeMetric up ln).2))]) ∧ Hp w [tabI 25 3 i.1 i.2 ((F_spec_TreeMetric up ln).1)] w') := by
  obtain ⟨rz, hF⟩ : ∃ rz, (F_spec_TreeMetric up ln) = rz := ⟨_, rfl⟩
  rw [hF]
  unfold F_spec_TreeMetric at hF
  have hlen_up := arg_len hup
  have hlen_ln := arg_len hln
  refine calls_tc Try.func39 rfl rfl rfl ?_
  change TC _ _ _ _ (Hp w []) [(0, vup), (1, vln)]
  refine TC.seq ?_
  refine TC.region ?_
  refine TL.alloc (u := (.agg #[(.slice none 0 0)])) (by kernel_rfl) rfl (fun g0_0 => ?_)
  refine TL.op (yq (y_assign ev_c)) rfl rfl rfl ?_
  refine TL.nil ?_
  refine TN.seq ?_
  refine TC.seq ?_
  refine TC.region ?_
  refine TL.op (yq (y_move (ev_t rfl))) rfl rfl rfl ?_
  refine TL.op (yq (y_len (ev_t rfl) Try.underlying25 (fun w hw => ((ri_arg hup) w hw).ln))) rfl rfl rfl ?_
  refine TL.op (yq (y_add (ev_t rfl) ev_c (by unfold In64; omega))) rfl rfl rfl ?_
  refine TL.op (yq (y_assign (ev_t rfl))) rfl rfl rfl ?_
  refine TL.nil ?_
  refine TN.seq ?_
  refine TC.seq ?_
  refine TC.seq ?_
  refine TC.region ?_
  refine TL.op (yq (y_move (ev_t rfl))) rfl rfl rfl ?_
  refine TL.op (yq (y_gtr (ev_t rfl) ev_c)) rfl rfl rfl ?_
  refine TL.op (yq (y_move (ev_t rfl))) rfl rfl rfl ?_
  refine TL.opw (w_f rfl rfl rfl) (fun hg => yq (y_move (ev_t rfl))) rfl rfl ?_
  refine TL.opw (w_f rfl rfl rfl) (fun hg => yq (y_len (ev_g rfl hg) Try.underlying25 (fun w hw => ((ri_arg hln) w hw).ln))) rfl rfl ?_
  refine TL.opw (w_f rfl rfl rfl) (fun hg => yq (y_move (ev_t rfl))) rfl rfl ?_
  refine TL.opw (w_f rfl rfl rfl) (fun hg => yq (y_len (ev_g rfl hg) Try.underlying25 (fun w hw => ((ri_arg hup) w hw).ln))) rfl rfl ?_
  refine TL.opw (w_f rfl rfl rfl) (fun hg => yq (y_neq (ev_g rfl hg) (ev_g rfl hg))) rfl rfl ?_
  refine TL.op (yq (y_or (ev_t rfl) (fun hq => (ev_g rfl hq)))) rfl rfl rfl ?_
  refine TL.nil ?_
  refine TN.seq ?_
  refine TC.cond (b := ((decide (6 < (up.length : Int) + 1)) || (!decide ((ln.length : Int) = (up.length : Int))))) (ev_t rfl) (fun h36 => ?_) (fun h36 => ?_)
  · rw [bif_pos h36] at hF
    have q37 := ((or_t h36).imp (fun h => (of_decide_eq_true h)) (fun h => (of_decide_eq_false (not_t h))))
    refine TC.seq ?_
    refine TC.region ?_
    refine TL.op (yq (y_bld0 bd_29_0)) rfl rfl rfl ?_
    refine TL.storeAgg (cs := [(.slice none 0 0)]) (us := [(.slice none 0 0)]) 0 (ev_t rfl) (ev_t rfl) agg_29 rfl rfl (fun w hw => (ocs_cons rfl ocs_nil)) ?_
    refine TL.op (yq (y_assign ev_c)) rfl rfl rfl ?_
    refine TL.nil ?_
    refine TN.seq ?_
    refine TC.ret ?_
    refine TN.thenR ?_
    subst hF
    refine TN.cls (fun w hw => hw.nilTab 25 3) ?_
    exact TN.retCT (cs := [(.slice none 0 0)]) 1 (by simp) rfl (ev_t rfl) (ev_t rfl) agg_29 rfl (fun w' hw => ⟨((.slice none 0 0), []), rfl, Hp.sublist hw (.cons_cons _ (.cons _ .slnil))⟩)
  · rw [bif_neg h36] at hF
    have q37 := (and_imp (or_f h36) (fun h => (of_decide_eq_false h)) (fun h => (of_decide_eq_true (not_f h))))
    refine TC.skip ?_
    refine TN.seq ?_
    refine TC.seq ?_
    refine TC.region ?_
    refine TL.op (yq (y_move (ev_t rfl))) rfl rfl rfl ?_
    refine TL.callr (ι := Value × List Value) (vs := [(.int .i64 ((up.length : Int) + 1)), (.int .i64 (-1))]) (fun i => (.agg #[i.1])) (fun i => [tabI 25 3 i.1 i.2 (F_spec_l6Uniform ((up.length : Int) + 1) (-1))]) en_82 ⟨(ev_t rfl), ev_c, trivial⟩ rfl (fun w hw => spec_l6Uniform_ok w ((up.length : Int) + 1) (-1) (by first | assumption | omega | grind)) (fun r4_1 => ?_)
    refine TL.alloc (u := (.agg #[(.slice none 0 0)])) (by kernel_rfl) rfl (fun g4_2 => ?_)
    refine TL.storeAgg (cs := [(.slice none 0 0)]) (us := [r4_1.1]) 0 (ev_t rfl) (ev_t rfl) agg_29 rfl rfl (fun w hw => (ocs_cons (ln_one ((fun w hw => ((rii_tab 1 rfl) w hw).1) w hw).ln) ocs_nil)) ?_
    refine TL.nil ?_
    refine TN.seq ?_
    refine TC.seq ?_
    refine TC.seq ?_
    refine TC.region ?_
    refine TL.op (yq (y_assign ev_c)) rfl rfl rfl ?_
    refine TL.nil ?_
    refine TN.seq ?_
    refine TC.block ?_
    obtain ⟨c39, hc40⟩ : ∃ c, F_spec_TreeMetric_L1 up ln (((((up.length : Int) + 1).toNat) - 1) + 1) (1, (F_spec_l6Uniform ((up.length : Int) + 1) (-1))) = c := ⟨_, rfl⟩
    rw [hc40] at hF
    refine TC.loop (ι := Nat × Nat × List (List Int)) (fun (fu1, k8_1, m0_1) => [(0, vup), (1, vln), (4, (.pointer (some ⟨g0_0, 0, none⟩))), (6, (.int .i64 ((up.length : Int) + 1))), (7, (.pointer (some ⟨g4_2, 0, none⟩))), (8, (.int .i64 (k8_1 : Int)))]) (fun (fu1, k8_1, m0_1) => Hp w [.blk g4_2 29 [r4_1.1], tabI 25 3 r4_1.1 r4_1.2 m0_1, .blk g0_0 29 [(.slice none 0 0)]]) (fun (fu1, k8_1, m0_1) => (k8_1 ≤ max (((up.length : Int) + 1).toNat) 1) ∧ (1 ≤ k8_1) ∧ (TrI (up.length + 1) (up.length + 1) m0_1) ∧ (((up.length : Int) + 1).toNat) - k8_1 < fu1 ∧ F_spec_TreeMetric_L1 up ln fu1 (k8_1, m0_1) = c39) (fun (fu1, k8_1, m0_1) => fu1) (((((up.length : Int) + 1).toNat) - 1) + 1, 1, (F_spec_l6Uniform ((up.length : Int) + 1) (-1))) ⟨(by first | omega | (simp [-List.getD_eq_getElem?_getD] <;> omega)), (by first | omega | (simp [-List.getD_eq_getElem?_getD] <;> omega)), (trI_uniform (up.length + 1)), (by omega), hc40⟩ ⟨rfl, rfl, rfl, rfl, rfl, rfl, trivial⟩ (fun w hw => hw) ?_
    rintro ⟨fu1, k8_1, m0_1⟩ hJ1
    obtain ⟨hi1_0, hi1_1, hi1_2, hmu1, hL1⟩ : (k8_1 ≤ max (((up.length : Int) + 1).toNat) 1) ∧ (1 ≤ k8_1) ∧ (TrI (up.length + 1) (up.length + 1) m0_1) ∧ (((up.length : Int) + 1).toNat) - k8_1 < fu1 ∧ F_spec_TreeMetric_L1 up ln fu1 (k8_1, m0_1) = c39 := hJ1
    change TC _ _ _ _ (Hp w [.blk g4_2 29 [r4_1.1], tabI 25 3 r4_1.1 r4_1.2 m0_1, .blk g0_0 29 [(.slice none 0 0)]]) [(0, vup), (1, vln), (4, (.pointer (some ⟨g0_0, 0, none⟩))), (6, (.int .i64 ((up.length : Int) + 1))), (7, (.pointer (some ⟨g4_2, 0, none⟩))), (8, (.int .i64 (k8_1 : Int)))]
    obtain ⟨mf1, rfl⟩ : ∃ m, fu1 = m + 1 := ⟨fu1 - 1, by omega⟩
    rw [F_spec_TreeMetric_L1_s] at hL1
    have hsl := hi1_2.sq.len
    have hr1 := hi1_2.sq.rows k8_1
    refine TC.seq ?_
    refine TC.seq ?_
    refine TC.region ?_
    refine TL.op (yq (y_move (ev_t rfl))) rfl rfl rfl ?_
    refine TL.op (yq (y_move (ev_t rfl))) rfl rfl rfl ?_
    refine TL.op (yq (y_lss (ev_t rfl) (ev_t rfl))) rfl rfl rfl ?_
    refine TL.nil ?_
    refine TN.seq ?_
    refine TC.cond (b := decide ((k8_1 : Int) < (up.length : Int) + 1)) (ev_t rfl) (fun h41 => ?_) (fun h41 => ?_)
    · rw [bif_pos h41] at hL1
      have q42 := (of_decide_eq_true h41)
      refine TC.skip ?_
      refine TN.seq ?_
      refine TC.seq ?_
      refine TC.block ?_
      refine TC.seq ?_
      refine TC.region ?_
      refine TL.op (yq (y_move (ev_t rfl))) rfl rfl rfl ?_
      refine TL.op (yq (y_move (ev_t rfl))) rfl rfl rfl ?_
      refine TL.op (yq (y_sub (ev_t rfl) ev_c (by unfold In64; omega))) rfl rfl rfl ?_
      have hb43 : ((k8_1 : Int) - 1).toNat < up.length := (by first | omega | (simp only [List.length_set, List.length_append, List.length_cons, List.length_nil, List.length_replicate]; omega) | (rw [sortI_length]; simp only [List.length_cons, List.length_nil]; omega))
      refine TL.op (yq (y_idx (k := ((k8_1 : Int) - 1).toNat) (ev_t rfl) (ev_t rfl) (by first | omega | simp) slT_25 (ri_arg hup) hb43)) rfl rfl rfl ?_
      refine TL.op (yq (y_ldi (ev_t rfl) one_3 (ri_arg hup) hb43)) rfl rfl rfl ?_
      refine TL.op (yq (y_assign (ev_t rfl))) rfl rfl rfl ?_
      refine TL.nil ?_
      refine TN.seq ?_
      refine TC.seq ?_
      refine TC.seq ?_
      refine TC.region ?_
      refine TL.op (yq (y_move (ev_t rfl))) rfl rfl rfl ?_
      refine TL.op (yq (y_move (ev_t rfl))) rfl rfl rfl ?_
      refine TL.op (yq (y_sub (ev_t rfl) ev_c (by unfold In64; omega))) rfl rfl rfl ?_
      refine TL.op (y_call (vs := [(.int .i64 (up.getD (((k8_1 : Int) - 1).toNat) 0)), (.int .i64 0), (.int .i64 ((k8_1 : Int) - 1))]) (v := (.bool ((decide (0 ≤ (up.getD (((k8_1 : Int) - 1).toNat) 0))) && (decide ((up.getD (((k8_1 : Int) - 1).toNat) 0) ≤ ((k8_1 : Int) - 1)))))) en_61 ⟨(ev_t rfl), ev_c, (ev_t rfl), trivial⟩ (fun w hw => spec_l1In_ok w (up.getD (((k8_1 : Int) - 1).toNat) 0) 0 ((k8_1 : Int) - 1))) rfl rfl rfl ?_
      refine TL.op (yq (y_not (ev_t rfl))) rfl rfl rfl ?_
      refine TL.op (yq (y_move (ev_t rfl))) rfl rfl rfl ?_
      refine TL.opw (w_f rfl rfl rfl) (fun hg => yq (y_move (ev_t rfl))) rfl rfl ?_
      refine TL.opw (w_f rfl rfl rfl) (fun hg => yq (y_move (ev_t rfl))) rfl rfl ?_
      refine TL.opw (w_f rfl rfl rfl) (fun hg => yq (y_sub (ev_g rfl hg) ev_c (by unfold In64; omega))) rfl rfl ?_
      refine TL.opw (w_f rfl rfl rfl) (fun hg => yq (y_idx (k := ((k8_1 : Int) - 1).toNat) (ev_g rfl hg) (ev_g rfl hg) (by first | omega | simp) slT_25 (ri_arg hln) (show ((k8_1 : Int) - 1).toNat < ln.length by have hgf := (and_imp (and_t (not_f (not_t hg))) (fun h => (of_decide_eq_true h)) (fun h => (of_decide_eq_true h))); omega))) rfl rfl ?_
      refine TL.opw (w_f rfl rfl rfl) (fun hg => yq (y_ldi (ev_g rfl hg) one_3 (ri_arg hln) (show ((k8_1 : Int) - 1).toNat < ln.length by have hgf := (and_imp (and_t (not_f (not_t hg))) (fun h => (of_decide_eq_true h)) (fun h => (of_decide_eq_true h))); omega))) rfl rfl ?_
      refine TL.opw (w_f rfl rfl rfl) (fun hg => y_call (vs := [(.int .i64 (ln.getD (((k8_1 : Int) - 1).toNat) 0)), (.int .i64 1), (.int .i64 99)]) (v := (.bool ((decide (1 ≤ (ln.getD (((k8_1 : Int) - 1).toNat) 0))) && (decide ((ln.getD (((k8_1 : Int) - 1).toNat) 0) ≤ 99))))) en_61 ⟨(ev_g rfl hg), ev_c, ev_c, trivial⟩ (fun w hw => spec_l1In_ok w (ln.getD (((k8_1 : Int) - 1).toNat) 0) 1 99)) rfl rfl ?_
      refine TL.opw (w_f rfl rfl rfl) (fun hg => yq (y_not (ev_g rfl hg))) rfl rfl ?_
      refine TL.op (yq (y_or (ev_t rfl) (fun hq => (ev_g rfl hq)))) rfl rfl rfl ?_
      refine TL.nil ?_
      refine TN.seq ?_
      refine TC.cond (b := ((!((decide (0 ≤ (up.getD (((k8_1 : Int) - 1).toNat) 0))) && (decide ((up.getD (((k8_1 : Int) - 1).toNat) 0) ≤ ((k8_1 : Int) - 1))))) || (!((decide (1 ≤ (ln.getD (((k8_1 : Int) - 1).toNat) 0))) && (decide ((ln.getD (((k8_1 : Int) - 1).toNat) 0) ≤ 99)))))) (ev_t rfl) (fun h44 => ?_) (fun h44 => ?_)
      · rw [bif_pos h44] at hL1
        have q45 := ((or_t h44).imp (fun h => ((and_f (not_t h)).imp (fun h => (of_decide_eq_false h)) (fun h => (of_decide_eq_false h)))) (fun h => ((and_f (not_t h)).imp (fun h => (of_decide_eq_false h)) (fun h => (of_decide_eq_false h)))))
        refine TC.seq ?_
        refine TC.region ?_
        refine TL.op (yq (y_bld0 bd_29_0)) rfl rfl rfl ?_
        refine TL.storeAgg (cs := [(.slice none 0 0)]) (us := [(.slice none 0 0)]) 2 (ev_t rfl) (ev_t rfl) agg_29 rfl rfl (fun w hw => (ocs_cons rfl ocs_nil)) ?_
        refine TL.op (yq (y_assign ev_c)) rfl rfl rfl ?_
        refine TL.nil ?_
        refine TN.seq ?_
        refine TC.ret ?_
        refine TN.thenR ?_
        refine TN.blockR ?_
        refine TN.thenR ?_
        refine TN.thenR ?_
        rw [← hL1, elim_ret] at hF
        refine TN.blockR ?_
        refine TN.thenR ?_
        subst hF
        refine TN.cls (fun w hw => hw.nilTab 25 3) ?_
        exact TN.retCT (cs := [(.slice none 0 0)]) 3 (by simp) rfl (ev_t rfl) (ev_t rfl) agg_29 rfl (fun w' hw => ⟨((.slice none 0 0), []), rfl, Hp.sublist hw (.cons_cons _ (.cons _ (.cons _ (.cons _ .slnil))))⟩)
      · rw [bif_neg h44] at hL1
        have q45 := (and_imp (or_f h44) (fun h => (and_imp (and_t (not_f h)) (fun h => (of_decide_eq_true h)) (fun h => (of_decide_eq_true h)))) (fun h => (and_imp (and_t (not_f h)) (fun h => (of_decide_eq_true h)) (fun h => (of_decide_eq_true h)))))
        have hs1 := hi1_2.sq.set (x := k8_1) (y := ((up.getD (((k8_1 : Int) - 1).toNat) 0)).toNat) (v := (ln.getD (((k8_1 : Int) - 1).toNat) 0)) (by omega) (by omega)
        have l1 := hs1.len
        have r1 := hi1_2.sq.rows k8_1 (by omega)
        have r2 := hs1.rows (((up.getD (((k8_1 : Int) - 1).toNat) 0)).toNat) (by omega)
        refine TC.skip ?_
        refine TN.seq ?_
        refine TC.seq ?_
        refine TC.regionT 12 (by kernel_rfl) (by kernel_rfl) dr_hp ?_
        refine TQ.op (yq (y_fa (fa_29_0 g4_2) (ev_t rfl))) rfl rfl rfl ?_
        refine TQ.op (yq (y_ldb 0 (ev_t rfl) one_22 rfl rfl)) rfl rfl rfl ?_
        refine TQ.op (yq (y_move (ev_t rfl))) rfl rfl rfl ?_
        have hb47 : k8_1 < m0_1.length := (by first | omega | (simp only [List.length_set, List.length_append, List.length_cons, List.length_nil, List.length_replicate]; omega) | (rw [sortI_length]; simp only [List.length_cons, List.length_nil]; omega))
        refine TQ.op (yq (y_idx (k := k8_1) (ev_t rfl) (ev_t rfl) (by first | omega | simp) slT_22 (fun w hw => ((rii_tab 1 rfl) w hw).1) hb47)) rfl rfl rfl ?_
        refine TQ.op (yq (y_ldT 1 (ev_t rfl) one_25 rfl hb47)) rfl rfl rfl ?_
        refine TQ.op (yq (y_move (ev_t rfl))) rfl rfl rfl ?_
        refine TQ.op (yq (y_move (ev_t rfl))) rfl rfl rfl ?_
        refine TQ.op (yq (y_move (ev_t rfl))) rfl rfl rfl ?_
        refine TQ.op (yq (y_sub (ev_t rfl) ev_c (by unfold In64; omega))) rfl rfl rfl ?_
        have hb48 : ((k8_1 : Int) - 1).toNat < ln.length := (by first | omega | (simp only [List.length_set, List.length_append, List.length_cons, List.length_nil, List.length_replicate]; omega) | (rw [sortI_length]; simp only [List.length_cons, List.length_nil]; omega))
        refine TQ.op (yq (y_idx (k := ((k8_1 : Int) - 1).toNat) (ev_t rfl) (ev_t rfl) (by first | omega | simp) slT_25 (ri_arg hln) hb48)) rfl rfl rfl ?_
        refine TQ.op (yq (y_ldi (ev_t rfl) one_3 (ri_arg hln) hb48)) rfl rfl rfl ?_
        have hb49 : ((up.getD (((k8_1 : Int) - 1).toNat) 0)).toNat < (m0_1.getD k8_1 []).length := (by first | omega | (simp only [List.length_set, List.length_append, List.length_cons, List.length_nil, List.length_replicate]; omega) | (rw [sortI_length]; simp only [List.length_cons, List.length_nil]; omega))
        refine TQ.op (yq (y_idx (k := ((up.getD (((k8_1 : Int) - 1).toNat) 0)).toNat) (ev_t rfl) (ev_t rfl) (by first | omega | simp) slT_25 (ri_tab 1 k8_1 rfl hb47) hb49)) rfl rfl rfl ?_
        refine TQ.tail ?_
        refine TL.storeT 1 (ev_t rfl) (ev_t rfl) one_3 rfl hb47 hb49 ?_
        refine TL.nil ?_
        refine TN.seq ?_
        refine TC.regionT 12 (by kernel_rfl) (by kernel_rfl) dr_hp ?_
        refine TQ.op (yq (y_fa (fa_29_0 g4_2) (ev_t rfl))) rfl rfl rfl ?_
        refine TQ.op (yq (y_ldb 0 (ev_t rfl) one_22 rfl rfl)) rfl rfl rfl ?_
        refine TQ.op (yq (y_move (ev_t rfl))) rfl rfl rfl ?_
        have hb50 : ((up.getD (((k8_1 : Int) - 1).toNat) 0)).toNat < (m0_1.set k8_1 ((m0_1.getD k8_1 []).set (((up.getD (((k8_1 : Int) - 1).toNat) 0)).toNat) (ln.getD (((k8_1 : Int) - 1).toNat) 0))).length := (by first | omega | (simp only [List.length_set, List.length_append, List.length_cons, List.length_nil, List.length_replicate]; omega) | (rw [sortI_length]; simp only [List.length_cons, List.length_nil]; omega))
        refine TQ.op (yq (y_idx (k := ((up.getD (((k8_1 : Int) - 1).toNat) 0)).toNat) (ev_t rfl) (ev_t rfl) (by first | omega | simp) slT_22 (fun w hw => ((rii_tab 1 rfl) w hw).1) hb50)) rfl rfl rfl ?_
        refine TQ.op (yq (y_ldT 1 (ev_t rfl) one_25 rfl hb50)) rfl rfl rfl ?_
        refine TQ.op (yq (y_move (ev_t rfl))) rfl rfl rfl ?_
        refine TQ.op (yq (y_move (ev_t rfl))) rfl rfl rfl ?_
        refine TQ.op (yq (y_move (ev_t rfl))) rfl rfl rfl ?_
        refine TQ.op (yq (y_sub (ev_t rfl) ev_c (by unfold In64; omega))) rfl rfl rfl ?_
        have hb51 : ((k8_1 : Int) - 1).toNat < ln.length := (by first | omega | (simp only [List.length_set, List.length_append, List.length_cons, List.length_nil, List.length_replicate]; omega) | (rw [sortI_length]; simp only [List.length_cons, List.length_nil]; omega))
        refine TQ.op (yq (y_idx (k := ((k8_1 : Int) - 1).toNat) (ev_t rfl) (ev_t rfl) (by first | omega | simp) slT_25 (ri_arg hln) hb51)) rfl rfl rfl ?_
        refine TQ.op (yq (y_ldi (ev_t rfl) one_3 (ri_arg hln) hb51)) rfl rfl rfl ?_
        have hb52 : k8_1 < ((m0_1.set k8_1 ((m0_1.getD k8_1 []).set (((up.getD (((k8_1 : Int) - 1).toNat) 0)).toNat) (ln.getD (((k8_1 : Int) - 1).toNat) 0))).getD (((up.getD (((k8_1 : Int) - 1).toNat) 0)).toNat) []).length := (by first | omega | (simp only [List.length_set, List.length_append, List.length_cons, List.length_nil, List.length_replicate]; omega) | (rw [sortI_length]; simp only [List.length_cons, List.length_nil]; omega))
        refine TQ.op (yq (y_idx (k := k8_1) (ev_t rfl) (ev_t rfl) (by first | omega | simp) slT_25 (ri_tab 1 (((up.getD (((k8_1 : Int) - 1).toNat) 0)).toNat) rfl hb50) hb52)) rfl rfl rfl ?_
        refine TQ.tail ?_
        refine TL.storeT 1 (ev_t rfl) (ev_t rfl) one_3 rfl hb50 hb52 ?_
        refine TL.nil ?_
        refine TN.blockN ?_
        refine TN.seq ?_
        refine TC.region ?_
        refine TL.op (yq (y_move (ev_t rfl))) rfl rfl rfl ?_
        refine TL.op (yq (y_add (ev_t rfl) ev_c (by unfold In64; omega))) rfl rfl rfl ?_
        refine TL.op (yq (y_assign (ev_t rfl))) rfl rfl rfl ?_
        refine TL.nil ?_
        exact TN.hand (mf1, (k8_1 + 1), ((m0_1.set k8_1 ((m0_1.getD k8_1 []).set (((up.getD (((k8_1 : Int) - 1).toNat) 0)).toNat) (ln.getD (((k8_1 : Int) - 1).toNat) 0))).set (((up.getD (((k8_1 : Int) - 1).toNat) 0)).toNat) (((m0_1.set k8_1 ((m0_1.getD k8_1 []).set (((up.getD (((k8_1 : Int) - 1).toNat) 0)).toNat) (ln.getD (((k8_1 : Int) - 1).toNat) 0))).getD (((up.getD (((k8_1 : Int) - 1).toNat) 0)).toNat) []).set k8_1 (ln.getD (((k8_1 : Int) - 1).toNat) 0)))) ⟨(by first | omega | (simp [-List.getD_eq_getElem?_getD] <;> omega)), (by first | omega | (simp [-List.getD_eq_getElem?_getD] <;> omega)), (hi1_2.two (by omega) (by omega) (by omega) (by omega) (by omega)), (by omega), hL1⟩ (Nat.lt_succ_self _) ⟨rfl, rfl, rfl, rfl, rfl, rfl, trivial⟩ (fun w hw => hw)
    · rw [bif_neg h41] at hL1
      have q42 := (of_decide_eq_false h41)
      refine TC.exit ?_
      refine TN.thenE ?_
      refine TN.thenE ?_
      rw [← hL1, elim_next] at hF
      try dsimp only at hF
      have hTP : TabP true m0_1 := TrI.tabP hi1_2 (by omega) (by omega)
      refine TN.blockH ?_
      refine TN.seq ?_
      refine TC.seq ?_
      refine TC.region ?_
      refine TL.op (yq (y_ldagg (cs := [r4_1.1]) 0 (ev_t rfl) agg_29 rfl)) rfl rfl rfl ?_
      refine TL.callr (ι := Value × List Value) (vs := [(.agg #[r4_1.1])]) (fun i => (.agg #[i.1])) (fun i => [tabI 25 3 i.1 i.2 (F_spec_l6Close m0_1)]) en_76 ⟨(ev_t rfl), trivial⟩ rfl (fun w hw => spec_l6Close_ok w r4_1.1 r4_1.2 m0_1 ((rii_tab 1 rfl) w hw) (by first | assumption | omega | grind)) (fun r13_1 => ?_)
      refine TL.callm (ι := Value × List Value) 0 (vs := [(.agg #[r13_1.1])]) (fun i => (.tuple #[(.agg #[i.1]), (.bool ((F_spec_l6Give (F_spec_l6Close m0_1)).2))])) (fun i => tabI 25 3 i.1 i.2 ((F_spec_l6Give (F_spec_l6Close m0_1)).1)) en_75 ⟨(ev_t rfl), trivial⟩ rfl rfl (fun w1 fr1 hw => spec_l6Give_ok w w1 fr1 r13_1.1 r13_1.2 (F_spec_l6Close m0_1) hw) (fun r13_2 => ?_)
      refine TL.op (yq (y_extract (ev_t rfl) rfl)) rfl rfl rfl ?_
      refine TL.op (yq (y_extract (ev_t rfl) rfl)) rfl rfl rfl ?_
      refine TL.storeAgg (cs := [(.slice none 0 0)]) (us := [r13_2.1]) 3 (ev_t rfl) (ev_t rfl) agg_29 rfl rfl (fun w hw => (ocs_cons (ln_one ((fun w hw => ((rii_tab 0 rfl) w hw).1) w hw).ln) ocs_nil)) ?_
      refine TL.op (yq (y_assign (ev_t rfl))) rfl rfl rfl ?_
      refine TL.nil ?_
      refine TN.seq ?_
      refine TC.ret ?_
      subst hF
      exact TN.retCT (cs := [r13_2.1]) 3 (by simp) rfl (ev_t rfl) (ev_t rfl) agg_29 rfl (fun w' hw => ⟨(r13_2.1, r13_2.2), rfl, Hp.sublist hw (.cons_cons _ (.cons _ (.cons _ (.cons _ .slnil))))⟩)

set_option maxRecDepth 4000 in
set_option maxHeartbeats 1000000 in
theorem laws_FnExactTreeMetric_ok (w : World) (va : Value) (a : List Int) (ha : RI w va a) (vb : Value) (b : List Int) (hb : RI w vb b)  :
    Calls Try.prog 9 ([va, vb] : List Value).toArray w (Ret (.bool (F_laws_FnExactTreeMetric a b)) (Hp w [])) := by
  obtain ⟨rz, hF⟩ : ∃ rz, (F_laws_FnExactTreeMetric a b) = rz := ⟨_, rfl⟩
  rw [hF]
  unfold F_laws_FnExactTreeMetric at hF
  have hta := toIntS_eq a
  have htb := toIntS_eq b
  have hta2 : (F_laws_toIntS a).length = a.length := by rw [hta]
  have hut := treeMetric_total (F_laws_toIntS a) (F_laws_toIntS b)
  have hmt := markMetric_total (F_impl_TreeMetric (F_laws_toIntS a) (F_laws_toIntS b)).1 1
  have hml := markIntS_len a 1
  have hk2 := markIntS_fst (F_laws_toIntS a) 1
  have hlen_a := arg_len ha
  have hlen_b := arg_len hb
  refine calls_tc Try.func9 rfl rfl rfl ?_
  change TC _ _ _ _ (Hp w []) [(0, va), (1, vb)]
  refine TC.seq ?_
  refine TC.region ?_
  refine TL.op (yq (y_assign ev_c)) rfl rfl rfl ?_
  refine TL.nil ?_
  refine TN.seq ?_
  refine TC.seq ?_
  refine TC.seq ?_
  refine TC.region ?_
  refine TL.op (yq (y_move (ev_t rfl))) rfl rfl rfl ?_
  refine TL.op (yq (y_len (ev_t rfl) Try.underlying25 (fun w hw => ((ri_arg ha) w hw).ln))) rfl rfl rfl ?_
  refine TL.op (yq (y_gtr (ev_t rfl) ev_c)) rfl rfl rfl ?_
  refine TL.nil ?_
  refine TN.seq ?_
  refine TC.cond (b := decide (1048576 < (a.length : Int))) (ev_t rfl) (fun h23 => ?_) (fun h23 => ?_)
  · rw [bif_pos h23] at hF
    have q24 := (of_decide_eq_true h23)
    refine TC.seq ?_
    refine TC.region ?_
    refine TL.op (yq (y_assign ev_c)) rfl rfl rfl ?_
    refine TL.nil ?_
    refine TN.seq ?_
    refine TC.ret ?_
    refine TN.thenR ?_
    subst hF
    exact TN.ret1 rfl (ev_t rfl) (fun w' hw => ⟨rfl, hw⟩)
  · rw [bif_neg h23] at hF
    have q24 := (of_decide_eq_false h23)
    refine TC.skip ?_
    refine TN.seq ?_
    refine TC.seq ?_
    refine TC.seq ?_
    refine TC.region ?_
    refine TL.op (yq (y_move (ev_t rfl))) rfl rfl rfl ?_
    refine TL.op (yq (y_len (ev_t rfl) Try.underlying25 (fun w hw => ((ri_arg hb) w hw).ln))) rfl rfl rfl ?_
    refine TL.op (yq (y_gtr (ev_t rfl) ev_c)) rfl rfl rfl ?_
    refine TL.nil ?_
    refine TN.seq ?_
    refine TC.cond (b := decide (1048576 < (b.length : Int))) (ev_t rfl) (fun h25 => ?_) (fun h25 => ?_)
    · rw [bif_pos h25] at hF
      have q26 := (of_decide_eq_true h25)
      refine TC.seq ?_
      refine TC.region ?_
      refine TL.op (yq (y_assign ev_c)) rfl rfl rfl ?_
      refine TL.nil ?_
      refine TN.seq ?_
      refine TC.ret ?_
      refine TN.thenR ?_
      subst hF
      exact TN.ret1 rfl (ev_t rfl) (fun w' hw => ⟨rfl, hw⟩)
    · rw [bif_neg h25] at hF
      have q26 := (of_decide_eq_false h25)
      refine TC.skip ?_
      refine TN.seq ?_
      refine TC.seq ?_
      refine TC.region ?_
      refine TL.op (yq (y_move (ev_t rfl))) rfl rfl rfl ?_
      refine TL.callr (ι := Value) (vs := [va]) (fun i => i) (fun i => [rowI 3 i (F_laws_toIntS a)]) en_18 ⟨(ev_t rfl), trivial⟩ rfl (fun w hw => laws_toIntS_ok w va a ((ri_arg ha) w hw) (by first | assumption | omega | grind)) (fun r5_1 => ?_)
      refine TL.op (yq (y_move (ev_t rfl))) rfl rfl rfl ?_
      refine TL.callr (ι := Value) (vs := [vb]) (fun i => i) (fun i => [rowI 3 i (F_laws_toIntS b)]) en_18 ⟨(ev_t rfl), trivial⟩ rfl (fun w hw => laws_toIntS_ok w vb b ((ri_arg hb) w hw) (by first | assumption | omega | grind)) (fun r5_3 => ?_)
      refine TL.callr (ι := Value × List Value) (vs := [r5_1, r5_3]) (fun i => (.tuple #[(.agg #[i.1]), (.bool ((F_spec_TreeMetric (F_laws_toIntS a) (F_laws_toIntS b)).2))])) (fun i => [tabI 25 3 i.1 i.2 ((F_spec_TreeMetric (F_laws_toIntS a) (F_laws_toIntS b)).1)]) en_39 ⟨(ev_t rfl), (ev_t rfl), trivial⟩ rfl (fun w hw => spec_TreeMetric_ok w r5_1 (F_laws_toIntS a) ((ri_row 1 rfl) w hw) r5_3 (F_laws_toIntS b) ((ri_row 0 rfl) w hw) (by first | assumption | omega | grind)) (fun r5_4 => ?_)
      refine TL.op (yq (y_move (ev_t rfl))) rfl rfl rfl ?_
      refine TL.op (yq (y_extract (ev_t rfl) rfl)) rfl rfl rfl ?_
      refine TL.op (yq (y_extract (ev_t rfl) rfl)) rfl rfl rfl ?_
      refine TL.alloc (u := (.agg #[(.slice none 0 0)])) (by kernel_rfl) rfl (fun g5_8 => ?_)
      refine TL.storeAgg (cs := [(.slice none 0 0)]) (us := [r5_4.1]) 0 (ev_t rfl) (ev_t rfl) agg_29 rfl rfl (fun w hw => (ocs_cons (ln_one ((fun w hw => ((rii_tab 1 rfl) w hw).1) w hw).ln) ocs_nil)) ?_
      refine TL.op (yq (y_assign (ev_t rfl))) rfl rfl rfl ?_
      refine TL.nil ?_
      refine TN.seq ?_
      refine TC.seq ?_
      refine TC.region ?_
      refine TL.op (yq (y_move (ev_t rfl))) rfl rfl rfl ?_
      refine TL.callr (ι := Value) (vs := [va]) (fun i => i) (fun i => [rowI 3 i (F_laws_toIntS a)]) en_18 ⟨(ev_t rfl), trivial⟩ rfl (fun w hw => laws_toIntS_ok w va a ((ri_arg ha) w hw) (by first | assumption | omega | grind)) (fun r6_1 => ?_)
      refine TL.op (yq (y_assign (ev_t rfl))) rfl rfl rfl ?_
      refine TL.nil ?_
      refine TN.seq ?_
      refine TC.seq ?_
      refine TC.region ?_
      refine TL.op (yq (y_move (ev_t rfl))) rfl rfl rfl ?_
      refine TL.callr (ι := Value) (vs := [vb]) (fun i => i) (fun i => [rowI 3 i (F_laws_toIntS b)]) en_18 ⟨(ev_t rfl), trivial⟩ rfl (fun w hw => laws_toIntS_ok w vb b ((ri_arg hb) w hw) (by first | assumption | omega | grind)) (fun r7_1 => ?_)
      refine TL.op (yq (y_assign (ev_t rfl))) rfl rfl rfl ?_
      refine TL.nil ?_
      refine TN.seq ?_
      refine TC.seq ?_
      refine TC.region ?_
      refine TL.op (yq (y_move (ev_t rfl))) rfl rfl rfl ?_
      refine TL.op (yq (y_move (ev_t rfl))) rfl rfl rfl ?_
      refine TL.callr (ι := Value × List Value) (vs := [r6_1, r7_1]) (fun i => (.tuple #[(.agg #[i.1]), (.bool ((F_impl_TreeMetric (F_laws_toIntS a) (F_laws_toIntS b)).2))])) (fun i => [tabI 25 3 i.1 i.2 ((F_impl_TreeMetric (F_laws_toIntS a) (F_laws_toIntS b)).1)]) en_40 ⟨(ev_t rfl), (ev_t rfl), trivial⟩ rfl (fun w hw => impl_TreeMetric_ok w r6_1 (F_laws_toIntS a) ((ri_row 1 rfl) w hw) r7_1 (F_laws_toIntS b) ((ri_row 0 rfl) w hw)) (fun r8_2 => ?_)
      refine TL.op (yq (y_move (ev_t rfl))) rfl rfl rfl ?_
      refine TL.op (yq (y_extract (ev_t rfl) rfl)) rfl rfl rfl ?_
      refine TL.op (yq (y_extract (ev_t rfl) rfl)) rfl rfl rfl ?_
      refine TL.alloc (u := (.agg #[(.slice none 0 0)])) (by kernel_rfl) rfl (fun g8_6 => ?_)
      refine TL.storeAgg (cs := [(.slice none 0 0)]) (us := [r8_2.1]) 0 (ev_t rfl) (ev_t rfl) agg_29 rfl rfl (fun w hw => (ocs_cons (ln_one ((fun w hw => ((rii_tab 1 rfl) w hw).1) w hw).ln) ocs_nil)) ?_
      refine TL.op (yq (y_assign (ev_t rfl))) rfl rfl rfl ?_
      refine TL.nil ?_
      refine TN.seq ?_
      refine TC.seq ?_
      refine TC.seq ?_
      refine TC.region ?_
      refine TL.op (yq (y_ldagg (cs := [r8_2.1]) 0 (ev_t rfl) agg_29 rfl)) rfl rfl rfl ?_
      refine TL.op (yq (y_ldagg (cs := [r5_4.1]) 4 (ev_t rfl) agg_29 rfl)) rfl rfl rfl ?_
      refine TL.op (y_call (vs := [(.agg #[r8_2.1]), (.agg #[r5_4.1])]) (v := (.bool (F_laws_eqMetric ((F_impl_TreeMetric (F_laws_toIntS a) (F_laws_toIntS b)).1) ((F_spec_TreeMetric (F_laws_toIntS a) (F_laws_toIntS b)).1)))) en_20 ⟨(ev_t rfl), (ev_t rfl), trivial⟩ (fun w hw => laws_eqMetric_ok w r8_2.1 r8_2.2 ((F_impl_TreeMetric (F_laws_toIntS a) (F_laws_toIntS b)).1) ((rii_tab 1 rfl) w hw) r5_4.1 r5_4.2 ((F_spec_TreeMetric (F_laws_toIntS a) (F_laws_toIntS b)).1) ((rii_tab 5 rfl) w hw))) rfl rfl rfl ?_
      refine TL.op (yq (y_not (ev_t rfl))) rfl rfl rfl ?_
      refine TL.op (yq (y_move (ev_t rfl))) rfl rfl rfl ?_
      refine TL.opw (w_f rfl rfl rfl) (fun hg => yq (y_move (ev_t rfl))) rfl rfl ?_
      refine TL.opw (w_f rfl rfl rfl) (fun hg => yq (y_move (ev_t rfl))) rfl rfl ?_
      refine TL.opw (w_f rfl rfl rfl) (fun hg => yq (y_bneq (ev_g rfl hg) (ev_g rfl hg) Try.underlying4)) rfl rfl ?_
      refine TL.op (yq (y_or (ev_t rfl) (fun hq => (ev_g rfl hq)))) rfl rfl rfl ?_
      refine TL.nil ?_
      refine TN.seq ?_
      refine TC.cond (b := ((!(F_laws_eqMetric ((F_impl_TreeMetric (F_laws_toIntS a) (F_laws_toIntS b)).1) ((F_spec_TreeMetric (F_laws_toIntS a) (F_laws_toIntS b)).1))) || (((F_impl_TreeMetric (F_laws_toIntS a) (F_laws_toIntS b)).2) != ((F_spec_TreeMetric (F_laws_toIntS a) (F_laws_toIntS b)).2)))) (ev_t rfl) (fun h27 => ?_) (fun h27 => ?_)
      · rw [bif_pos h27] at hF
        have q28 := ((or_t h27).imp (fun h => (not_t h)) (fun h => h))
        refine TC.seq ?_
        refine TC.region ?_
        refine TL.op (yq (y_assign ev_c)) rfl rfl rfl ?_
        refine TL.nil ?_
        refine TN.seq ?_
        refine TC.ret ?_
        refine TN.thenR ?_
        subst hF
        exact TN.ret1 rfl (ev_t rfl) (fun w' hw => ⟨rfl, Hp.sublist hw (List.nil_sublist _)⟩)
      · rw [bif_neg h27] at hF
        have q28 := (and_imp (or_f h27) (fun h => (not_f h)) (fun h => h))
        refine TC.skip ?_
        refine TN.seq ?_
        refine TC.seq ?_
        refine TC.seq ?_
        refine TC.region ?_
        refine TL.op (yq (y_move (ev_t rfl))) rfl rfl rfl ?_
        refine TL.op (yq (y_move (ev_t rfl))) rfl rfl rfl ?_
        refine TL.callr (ι := Value) (vs := [va]) (fun i => i) (fun i => [rowI 3 i (F_laws_toIntS a)]) en_18 ⟨(ev_t rfl), trivial⟩ rfl (fun w hw => laws_toIntS_ok w va a ((ri_arg ha) w hw) (by first | assumption | omega | grind)) (fun r11_2 => ?_)
        refine TL.op (y_call (vs := [r6_1, r11_2]) (v := (.bool (F_laws_eqIntS (F_laws_toIntS a) (F_laws_toIntS a)))) en_21 ⟨(ev_t rfl), (ev_t rfl), trivial⟩ (fun w hw => laws_eqIntS_ok w r6_1 (F_laws_toIntS a) ((ri_row 4 rfl) w hw) r11_2 (F_laws_toIntS a) ((ri_row 0 rfl) w hw))) rfl rfl rfl ?_
        refine TL.op (yq (y_not (ev_t rfl))) rfl rfl rfl ?_
        refine TL.nil ?_
        refine TN.seq ?_
        refine TC.cond (b := !(F_laws_eqIntS (F_laws_toIntS a) (F_laws_toIntS a))) (ev_t rfl) (fun h29 => ?_) (fun h29 => ?_)
        · rw [bif_pos h29] at hF
          have q30 := (not_t h29)
          refine TC.seq ?_
          refine TC.region ?_
          refine TL.op (yq (y_assign ev_c)) rfl rfl rfl ?_
          refine TL.nil ?_
          refine TN.seq ?_
          refine TC.ret ?_
          refine TN.thenR ?_
          subst hF
          exact TN.ret1 rfl (ev_t rfl) (fun w' hw => ⟨rfl, Hp.sublist hw (List.nil_sublist _)⟩)
        · rw [bif_neg h29] at hF
          have q30 := (not_f h29)
          refine TC.skip ?_
          refine TN.seq ?_
          refine TC.seq ?_
          refine TC.seq ?_
          refine TC.region ?_
          refine TL.op (yq (y_move (ev_t rfl))) rfl rfl rfl ?_
          refine TL.op (yq (y_move (ev_t rfl))) rfl rfl rfl ?_
          refine TL.callr (ι := Value) (vs := [vb]) (fun i => i) (fun i => [rowI 3 i (F_laws_toIntS b)]) en_18 ⟨(ev_t rfl), trivial⟩ rfl (fun w hw => laws_toIntS_ok w vb b ((ri_arg hb) w hw) (by first | assumption | omega | grind)) (fun r13_2 => ?_)
          refine TL.op (y_call (vs := [r7_1, r13_2]) (v := (.bool (F_laws_eqIntS (F_laws_toIntS b) (F_laws_toIntS b)))) en_21 ⟨(ev_t rfl), (ev_t rfl), trivial⟩ (fun w hw => laws_eqIntS_ok w r7_1 (F_laws_toIntS b) ((ri_row 4 rfl) w hw) r13_2 (F_laws_toIntS b) ((ri_row 0 rfl) w hw))) rfl rfl rfl ?_
          refine TL.op (yq (y_not (ev_t rfl))) rfl rfl rfl ?_
          refine TL.nil ?_
          refine TN.seq ?_
          refine TC.cond (b := !(F_laws_eqIntS (F_laws_toIntS b) (F_laws_toIntS b))) (ev_t rfl) (fun h31 => ?_) (fun h31 => ?_)
          · rw [bif_pos h31] at hF
            have q32 := (not_t h31)
            refine TC.seq ?_
            refine TC.region ?_
            refine TL.op (yq (y_assign ev_c)) rfl rfl rfl ?_
            refine TL.nil ?_
            refine TN.seq ?_
            refine TC.ret ?_
            refine TN.thenR ?_
            subst hF
            exact TN.ret1 rfl (ev_t rfl) (fun w' hw => ⟨rfl, Hp.sublist hw (List.nil_sublist _)⟩)
          · rw [bif_neg h31] at hF
            have q32 := (not_f h31)
            refine TC.skip ?_
            refine TN.seq ?_
            refine TC.seq ?_
            refine TC.region ?_
            refine TL.op (yq (y_assign ev_c)) rfl rfl rfl ?_
            refine TL.nil ?_
            refine TN.seq ?_
            refine TC.seq ?_
            refine TC.region ?_
            refine TL.op (yq (y_move (ev_t rfl))) rfl rfl rfl ?_
            refine TL.op (yq (y_move (ev_t rfl))) rfl rfl rfl ?_
            refine TL.callm (ι := Unit) 5 (vs := [r6_1, (.int .i64 1)]) (fun _ => (.int .i64 ((F_laws_markIntS (F_laws_toIntS a) 1).1))) (fun _ => rowI 3 r6_1 ((F_laws_markIntS (F_laws_toIntS a) 1).2)) en_27 ⟨(ev_t rfl), (ev_t rfl), trivial⟩ rfl rfl (fun w1 fr1 hw => laws_markIntS_ok w w1 fr1 r6_1 (F_laws_toIntS a) hw 1 (by first | assumption | omega | grind) (by first | assumption | omega | grind)) (fun _ => ?_)
            refine TL.op (yq (y_assign (ev_t rfl))) rfl rfl rfl ?_
            refine TL.nil ?_
            refine TN.seq ?_
            refine TC.seq ?_
            refine TC.region ?_
            refine TL.op (yq (y_move (ev_t rfl))) rfl rfl rfl ?_
            refine TL.op (yq (y_move (ev_t rfl))) rfl rfl rfl ?_
            refine TL.callm (ι := Unit) 4 (vs := [r7_1, (.int .i64 ((F_laws_markIntS (F_laws_toIntS a) 1).1))]) (fun _ => (.int .i64 ((F_laws_markIntS (F_laws_toIntS b) ((F_laws_markIntS (F_laws_toIntS a) 1).1)).1))) (fun _ => rowI 3 r7_1 ((F_laws_markIntS (F_laws_toIntS b) ((F_laws_markIntS (F_laws_toIntS a) 1).1)).2)) en_27 ⟨(ev_t rfl), (ev_t rfl), trivial⟩ rfl rfl (fun w1 fr1 hw => laws_markIntS_ok w w1 fr1 r7_1 (F_laws_toIntS b) hw ((F_laws_markIntS (F_laws_toIntS a) 1).1) (by first | assumption | omega | grind) (by first | assumption | omega | grind)) (fun _ => ?_)
            refine TL.op (yq (y_assign (ev_t rfl))) rfl rfl rfl ?_
            refine TL.nil ?_
            refine TN.seq ?_
            refine TC.seq ?_
            refine TC.seq ?_
            refine TC.region ?_
            refine TL.op (yq (y_move (ev_t rfl))) rfl rfl rfl ?_
            refine TL.op (yq (y_lss (ev_t rfl) ev_c)) rfl rfl rfl ?_
            refine TL.op (yq (y_move (ev_t rfl))) rfl rfl rfl ?_
            refine TL.opw (w_f rfl rfl rfl) (fun hg => yq (y_ldagg (cs := [r8_2.1]) 2 (ev_t rfl) agg_29 rfl)) rfl rfl ?_
            refine TL.opw (w_f rfl rfl rfl) (fun hg => yq (y_ldagg (cs := [r5_4.1]) 6 (ev_t rfl) agg_29 rfl)) rfl rfl ?_
            refine TL.opw (w_f rfl rfl rfl) (fun hg => y_call (vs := [(.agg #[r8_2.1]), (.agg #[r5_4.1])]) (v := (.bool (F_laws_eqMetric ((F_impl_TreeMetric (F_laws_toIntS a) (F_laws_toIntS b)).1) ((F_spec_TreeMetric (F_laws_toIntS a) (F_laws_toIntS b)).1)))) en_20 ⟨(ev_g rfl hg), (ev_g rfl hg), trivial⟩ (fun w hw => laws_eqMetric_ok w r8_2.1 r8_2.2 ((F_impl_TreeMetric (F_laws_toIntS a) (F_laws_toIntS b)).1) ((rii_tab 3 rfl) w hw) r5_4.1 r5_4.2 ((F_spec_TreeMetric (F_laws_toIntS a) (F_laws_toIntS b)).1) ((rii_tab 7 rfl) w hw))) rfl rfl ?_
            refine TL.opw (w_f rfl rfl rfl) (fun hg => yq (y_not (ev_g rfl hg))) rfl rfl ?_
            refine TL.op (yq (y_or (ev_t rfl) (fun hq => (ev_g rfl hq)))) rfl rfl rfl ?_
            refine TL.op (yq (y_move (ev_t rfl))) rfl rfl rfl ?_
            refine TL.opw (w_f rfl rfl rfl) (fun hg => yq (y_move (ev_t rfl))) rfl rfl ?_
            refine TL.opw (w_f rfl rfl rfl) (fun hg => yq (y_move (ev_t rfl))) rfl rfl ?_
            refine TL.opw (w_f rfl rfl rfl) (fun hg => yq (y_bneq (ev_g rfl hg) (ev_g rfl hg) Try.underlying4)) rfl rfl ?_
            refine TL.op (yq (y_or (ev_t rfl) (fun hq => (ev_g rfl hq)))) rfl rfl rfl ?_
            refine TL.nil ?_
            refine TN.seq ?_
            refine TC.cond (b := (((decide ((F_laws_markIntS (F_laws_toIntS b) ((F_laws_markIntS (F_laws_toIntS a) 1).1)).1 < 0)) || (!(F_laws_eqMetric ((F_impl_TreeMetric (F_laws_toIntS a) (F_laws_toIntS b)).1) ((F_spec_TreeMetric (F_laws_toIntS a) (F_laws_toIntS b)).1)))) || (((F_impl_TreeMetric (F_laws_toIntS a) (F_laws_toIntS b)).2) != ((F_spec_TreeMetric (F_laws_toIntS a) (F_laws_toIntS b)).2)))) (ev_t rfl) (fun h33 => ?_) (fun h33 => ?_)
            · rw [bif_pos h33] at hF
              have q34 := ((or_t h33).imp (fun h => ((or_t h).imp (fun h => (of_decide_eq_true h)) (fun h => (not_t h)))) (fun h => h))
              refine TC.seq ?_
              refine TC.region ?_
              refine TL.op (yq (y_assign ev_c)) rfl rfl rfl ?_
              refine TL.nil ?_
              refine TN.seq ?_
              refine TC.ret ?_
              refine TN.thenR ?_
              subst hF
              exact TN.ret1 rfl (ev_t rfl) (fun w' hw => ⟨rfl, Hp.sublist hw (List.nil_sublist _)⟩)
            · rw [bif_neg h33] at hF
              have q34 := (and_imp (or_f h33) (fun h => (and_imp (or_f h) (fun h => (of_decide_eq_false h)) (fun h => (not_f h)))) (fun h => h))
              refine TC.skip ?_
              refine TN.seq ?_
              refine TC.seq ?_
              refine TC.region ?_
              refine TL.op (yq (y_assign ev_c)) rfl rfl rfl ?_
              refine TL.nil ?_
              refine TN.seq ?_
              refine TC.seq ?_
              refine TC.region ?_
              refine TL.op (yq (y_ldagg (cs := [r8_2.1]) 2 (ev_t rfl) agg_29 rfl)) rfl rfl rfl ?_
              refine TL.op (yq (y_move (ev_t rfl))) rfl rfl rfl ?_
              refine TL.callm (ι := Unit) 3 (vs := [(.agg #[r8_2.1]), (.int .i64 1)]) (fun _ => (.int .i64 ((F_laws_markMetric ((F_impl_TreeMetric (F_laws_toIntS a) (F_laws_toIntS b)).1) 1).1))) (fun _ => tabI 25 3 r8_2.1 r8_2.2 ((F_laws_markMetric ((F_impl_TreeMetric (F_laws_toIntS a) (F_laws_toIntS b)).1) 1).2)) en_26 ⟨(ev_t rfl), (ev_t rfl), trivial⟩ rfl rfl (fun w1 fr1 hw => laws_markMetric_ok w w1 fr1 r8_2.1 r8_2.2 ((F_impl_TreeMetric (F_laws_toIntS a) (F_laws_toIntS b)).1) hw 1 (by first | assumption | omega | grind) (by first | assumption | omega | grind)) (fun _ => ?_)
              refine TL.op (yq (y_assign (ev_t rfl))) rfl rfl rfl ?_
              refine TL.nil ?_
              refine TN.seq ?_
              refine TC.seq ?_
              refine TC.region ?_
              refine TL.op (yq (y_assign ev_c)) rfl rfl rfl ?_
              refine TL.nil ?_
              refine TN.seq ?_
              refine TC.seq ?_
              refine TC.region ?_
              refine TL.op (yq (y_ldagg (cs := [r8_2.1]) 2 (ev_t rfl) agg_29 rfl)) rfl rfl rfl ?_
              refine TL.op (yq (y_move (ev_t rfl))) rfl rfl rfl ?_
              refine TL.op (y_call (vs := [(.agg #[r8_2.1]), (.int .i64 1)]) (v := (.int .i64 (F_laws_heldMetric ((F_laws_markMetric ((F_impl_TreeMetric (F_laws_toIntS a) (F_laws_toIntS b)).1) 1).2) 1))) en_36 ⟨(ev_t rfl), (ev_t rfl), trivial⟩ (fun w hw => laws_heldMetric_ok w r8_2.1 r8_2.2 ((F_laws_markMetric ((F_impl_TreeMetric (F_laws_toIntS a) (F_laws_toIntS b)).1) 1).2) ((rii_tab 3 rfl) w hw) 1 (by first | assumption | omega | grind) (by first | assumption | omega | grind))) rfl rfl rfl ?_
              refine TL.op (yq (y_assign (ev_t rfl))) rfl rfl rfl ?_
              refine TL.nil ?_
              refine TN.seq ?_
              refine TC.seq ?_
              refine TC.seq ?_
              refine TC.region ?_
              refine TL.op (yq (y_move (ev_t rfl))) rfl rfl rfl ?_
              refine TL.op (yq (y_lss (ev_t rfl) ev_c)) rfl rfl rfl ?_
              refine TL.nil ?_
              refine TN.seq ?_
              refine TC.cond (b := decide ((F_laws_heldMetric ((F_laws_markMetric ((F_impl_TreeMetric (F_laws_toIntS a) (F_laws_toIntS b)).1) 1).2) 1) < 0)) (ev_t rfl) (fun h35 => ?_) (fun h35 => ?_)
              · rw [bif_pos h35] at hF
                have q36 := (of_decide_eq_true h35)
                refine TC.seq ?_
                refine TC.region ?_
                refine TL.op (yq (y_assign ev_c)) rfl rfl rfl ?_
                refine TL.nil ?_
                refine TN.seq ?_
                refine TC.ret ?_
                refine TN.thenR ?_
                subst hF
                exact TN.ret1 rfl (ev_t rfl) (fun w' hw => ⟨rfl, Hp.sublist hw (List.nil_sublist _)⟩)
              · rw [bif_neg h35] at hF
                have q36 := (of_decide_eq_false h35)
                refine TC.skip ?_
                refine TN.seq ?_
                refine TC.seq ?_
                refine TC.seq ?_
                refine TC.region ?_
                refine TL.op (yq (y_move (ev_t rfl))) rfl rfl rfl ?_
                refine TL.op (yq (y_move (ev_t rfl))) rfl rfl rfl ?_
                refine TL.op (yq (y_neq (ev_t rfl) (ev_t rfl))) rfl rfl rfl ?_
                refine TL.nil ?_
                refine TN.seq ?_
                refine TC.cond (b := !decide ((F_laws_heldMetric ((F_laws_markMetric ((F_impl_TreeMetric (F_laws_toIntS a) (F_laws_toIntS b)).1) 1).2) 1) = (F_laws_markMetric ((F_impl_TreeMetric (F_laws_toIntS a) (F_laws_toIntS b)).1) 1).1)) (ev_t rfl) (fun h37 => ?_) (fun h37 => ?_)
                · rw [bif_pos h37] at hF
                  have q38 := (of_decide_eq_false (not_t h37))
                  refine TC.seq ?_
                  refine TC.region ?_
                  refine TL.op (yq (y_assign ev_c)) rfl rfl rfl ?_
                  refine TL.nil ?_
                  refine TN.seq ?_
                  refine TC.ret ?_
                  refine TN.thenR ?_
                  subst hF
                  exact TN.ret1 rfl (ev_t rfl) (fun w' hw => ⟨rfl, Hp.sublist hw (List.nil_sublist _)⟩)
                · rw [bif_neg h37] at hF
                  have q38 := (of_decide_eq_true (not_f h37))
                  refine TC.skip ?_
                  refine TN.seq ?_
                  refine TC.seq ?_
                  refine TC.region ?_
                  refine TL.op (yq (y_move (ev_t rfl))) rfl rfl rfl ?_
                  refine TL.callr (ι := Value) (vs := [va]) (fun i => i) (fun i => [rowI 3 i (F_laws_toIntS a)]) en_18 ⟨(ev_t rfl), trivial⟩ rfl (fun w hw => laws_toIntS_ok w va a ((ri_arg ha) w hw) (by first | assumption | omega | grind)) (fun r28_1 => ?_)
                  refine TL.op (yq (y_move (ev_t rfl))) rfl rfl rfl ?_
                  refine TL.callr (ι := Value) (vs := [vb]) (fun i => i) (fun i => [rowI 3 i (F_laws_toIntS b)]) en_18 ⟨(ev_t rfl), trivial⟩ rfl (fun w hw => laws_toIntS_ok w vb b ((ri_arg hb) w hw) (by first | assumption | omega | grind)) (fun r28_3 => ?_)
                  refine TL.callr (ι := Value × List Value) (vs := [r28_1, r28_3]) (fun i => (.tuple #[(.agg #[i.1]), (.bool ((F_impl_TreeMetric (F_laws_toIntS a) (F_laws_toIntS b)).2))])) (fun i => [tabI 25 3 i.1 i.2 ((F_impl_TreeMetric (F_laws_toIntS a) (F_laws_toIntS b)).1)]) en_40 ⟨(ev_t rfl), (ev_t rfl), trivial⟩ rfl (fun w hw => impl_TreeMetric_ok w r28_1 (F_laws_toIntS a) ((ri_row 1 rfl) w hw) r28_3 (F_laws_toIntS b) ((ri_row 0 rfl) w hw)) (fun r28_4 => ?_)
                  refine TL.op (yq (y_move (ev_t rfl))) rfl rfl rfl ?_
                  refine TL.op (yq (y_extract (ev_t rfl) rfl)) rfl rfl rfl ?_
                  refine TL.op (yq (y_extract (ev_t rfl) rfl)) rfl rfl rfl ?_
                  refine TL.alloc (u := (.agg #[(.slice none 0 0)])) (by kernel_rfl) rfl (fun g28_8 => ?_)
                  refine TL.storeAgg (cs := [(.slice none 0 0)]) (us := [r28_4.1]) 0 (ev_t rfl) (ev_t rfl) agg_29 rfl rfl (fun w hw => (ocs_cons (ln_one ((fun w hw => ((rii_tab 1 rfl) w hw).1) w hw).ln) ocs_nil)) ?_
                  refine TL.op (yq (y_assign (ev_t rfl))) rfl rfl rfl ?_
                  refine TL.nil ?_
                  refine TN.seq ?_
                  refine TC.seq ?_
                  refine TC.seq ?_
                  refine TC.region ?_
                  refine TL.op (yq (y_ldagg (cs := [r28_4.1]) 0 (ev_t rfl) agg_29 rfl)) rfl rfl rfl ?_
                  refine TL.op (yq (y_ldagg (cs := [r5_4.1]) 10 (ev_t rfl) agg_29 rfl)) rfl rfl rfl ?_
                  refine TL.op (y_call (vs := [(.agg #[r28_4.1]), (.agg #[r5_4.1])]) (v := (.bool (F_laws_eqMetric ((F_impl_TreeMetric (F_laws_toIntS a) (F_laws_toIntS b)).1) ((F_spec_TreeMetric (F_laws_toIntS a) (F_laws_toIntS b)).1)))) en_20 ⟨(ev_t rfl), (ev_t rfl), trivial⟩ (fun w hw => laws_eqMetric_ok w r28_4.1 r28_4.2 ((F_impl_TreeMetric (F_laws_toIntS a) (F_laws_toIntS b)).1) ((rii_tab 1 rfl) w hw) r5_4.1 r5_4.2 ((F_spec_TreeMetric (F_laws_toIntS a) (F_laws_toIntS b)).1) ((rii_tab 11 rfl) w hw))) rfl rfl rfl ?_
                  refine TL.op (yq (y_not (ev_t rfl))) rfl rfl rfl ?_
                  refine TL.op (yq (y_move (ev_t rfl))) rfl rfl rfl ?_
                  refine TL.opw (w_f rfl rfl rfl) (fun hg => yq (y_move (ev_t rfl))) rfl rfl ?_
                  refine TL.opw (w_f rfl rfl rfl) (fun hg => yq (y_move (ev_t rfl))) rfl rfl ?_
                  refine TL.opw (w_f rfl rfl rfl) (fun hg => yq (y_bneq (ev_g rfl hg) (ev_g rfl hg) Try.underlying4)) rfl rfl ?_
                  refine TL.op (yq (y_or (ev_t rfl) (fun hq => (ev_g rfl hq)))) rfl rfl rfl ?_
                  refine TL.nil ?_
                  refine TN.seq ?_
                  refine TC.condF (ev_t rfl) h27 ?_
                  refine TC.skip ?_
                  refine TN.seq ?_
                  refine TC.seq ?_
                  refine TC.region ?_
                  refine TL.op (yq (y_assign ev_c)) rfl rfl rfl ?_
                  refine TL.nil ?_
                  refine TN.seq ?_
                  refine TC.seq ?_
                  refine TC.region ?_
                  refine TL.op (yq (y_ldagg (cs := [r8_2.1]) 6 (ev_t rfl) agg_29 rfl)) rfl rfl rfl ?_
                  refine TL.op (yq (y_move (ev_t rfl))) rfl rfl rfl ?_
                  refine TL.op (y_call (vs := [(.agg #[r8_2.1]), (.int .i64 1)]) (v := (.int .i64 (F_laws_heldMetric ((F_laws_markMetric ((F_impl_TreeMetric (F_laws_toIntS a) (F_laws_toIntS b)).1) 1).2) 1))) en_36 ⟨(ev_t rfl), (ev_t rfl), trivial⟩ (fun w hw => laws_heldMetric_ok w r8_2.1 r8_2.2 ((F_laws_markMetric ((F_impl_TreeMetric (F_laws_toIntS a) (F_laws_toIntS b)).1) 1).2) ((rii_tab 7 rfl) w hw) 1 (by first | assumption | omega | grind) (by first | assumption | omega | grind))) rfl rfl rfl ?_
                  refine TL.op (yq (y_assign (ev_t rfl))) rfl rfl rfl ?_
                  refine TL.nil ?_
                  refine TN.seq ?_
                  refine TC.seq ?_
                  refine TC.seq ?_
                  refine TC.region ?_
                  refine TL.op (yq (y_move (ev_t rfl))) rfl rfl rfl ?_
                  refine TL.op (yq (y_lss (ev_t rfl) ev_c)) rfl rfl rfl ?_
                  refine TL.nil ?_
                  refine TN.seq ?_
                  refine TC.condF (ev_t rfl) h35 ?_
                  refine TC.skip ?_
                  refine TN.seq ?_
                  refine TC.seq ?_
                  refine TC.seq ?_
                  refine TC.region ?_
                  refine TL.op (yq (y_move (ev_t rfl))) rfl rfl rfl ?_
                  refine TL.op (yq (y_move (ev_t rfl))) rfl rfl rfl ?_
                  refine TL.op (yq (y_neq (ev_t rfl) (ev_t rfl))) rfl rfl rfl ?_
                  refine TL.nil ?_
                  refine TN.seq ?_
                  refine TC.condF (ev_t rfl) h37 ?_
                  refine TC.skip ?_
                  refine TN.seq ?_
                  refine TC.seq ?_
                  refine TC.region ?_
                  refine TL.op (yq (y_assign ev_c)) rfl rfl rfl ?_
                  refine TL.nil ?_
                  refine TN.seq ?_
                  refine TC.ret ?_
                  subst hF
                  exact TN.ret1 rfl (ev_t rfl) (fun w' hw => ⟨rfl, Hp.sublist hw (List.nil_sublist _)⟩)


end Go.Proofs.Ytcfjjnajeccbhaa
