/-
  Walks of functions of the program: each computes its plain function. No condition but the bounds that are typed.
-/
import Derived.Test.YtcmhgkcifejgcaaFacts
import Derived.Test.YtcmhgkcifejgcaaDefZ
import Derived.Test.YtcmhgkcifejgcaaLawCur
import Derived.Test.YtcmhgkcifejgcaaLawSpl2
import Derived.Test.YtcmhgkcifejgcaaRow
import Derived.Test.YtcmhgkcifejgcaaHeld
namespace Go.Proofs.Ytcmhgkcifejgcaa
open Go Go.RowKit
set_option linter.unusedVariables false

set_option maxRecDepth 4000 in
set_option maxHeartbeats 1000000 in
theorem spec_l1Cur_next_ok (w0 w : World) (fr : List Ck) (gc : Nat) (vc : Value) (code : List Int) (hcode : RB w0 vc code) (at_ : Int) (seed : Int) (hw : Hp w0 (.blk gc 75 [vc, (.int .i64 at_), (.int .u64 seed)] :: fr) w) (hp0 : 0 ≤ at_) (hp1 : at_ ≤ 4000000000) (hp2 : 0 ≤ seed) (hp3 : seed < 18446744073709551616) :
    Calls Try.prog 116 ([(.pointer (some ⟨gc, 0, none⟩))] : List Value).toArray w (fun e w' => True ∧ ∃ _i : Unit, e = .returned (.int .i64 ((F_spec_l1Cur_next code at_ seed).1)) ∧ Hp w0 ([.blk gc 75 [vc, (.int .i64 ((F_spec_l1Cur_next code at_ seed).2.1)), (.int .u64 ((F_spec_l1Cur_next code at_ seed).2.2))]] ++ fr) w') := by
  obtain ⟨rz, hF⟩ : ∃ rz, (F_spec_l1Cur_next code at_ seed) = rz := ⟨_, rfl⟩
  rw [hF]
  unfold F_spec_l1Cur_next at hF
  have hlen_code := argB_len hcode
  refine calls_tcm Try.func116 rfl rfl rfl hw ?_
  change TC _ _ _ _ (Hp w0 ([.blk gc 75 [vc, (.int .i64 at_), (.int .u64 seed)]] ++ fr)) [(0, (.pointer (some ⟨gc, 0, none⟩)))]
  refine TC.seq ?_
  refine TC.region ?_
  refine TL.op (yq (y_assign ev_c)) rfl rfl rfl ?_
  refine TL.nil ?_
  refine TN.seq ?_
  refine TC.seq ?_
  refine TC.region ?_
  refine TL.op (yq (y_assign ev_c)) rfl rfl rfl ?_
  refine TL.nil ?_
  refine TN.seq ?_
  refine TC.seq ?_
  refine TC.seq ?_
  refine TC.regionQ (by kernel_rfl) (by kernel_rfl) dr_hp ?_
  refine TQ.op (yq (y_move (ev_t rfl))) rfl rfl rfl ?_
  refine TQ.op (yq (y_nilp (ev_t rfl))) rfl rfl rfl ?_
  refine TQ.op (yq (y_fa (fa_75_1 gc) (ev_t rfl))) rfl rfl rfl ?_
  refine TQ.op (yq (y_ldb 0 (ev_t rfl) one_3 rfl rfl)) rfl rfl rfl ?_
  refine TQ.op (yq (y_move (ev_t rfl))) rfl rfl rfl ?_
  refine TQ.op (yq (y_nilp (ev_t rfl))) rfl rfl rfl ?_
  refine TQ.op (yq (y_fa (fa_75_0 gc) (ev_t rfl))) rfl rfl rfl ?_
  refine TQ.op (yq (y_ldb 0 (ev_t rfl) one_22 rfl rfl)) rfl rfl rfl ?_
  refine TQ.op (yq (y_len (ev_t rfl) Try.underlying22 (fun w hw => ((rd_arg hcode.1) w hw).ln))) rfl rfl rfl ?_
  refine TQ.op (yq (y_lss (ev_t rfl) (ev_t rfl))) rfl rfl rfl ?_
  refine TQ.nil ?_
  refine TN.seq ?_
  refine TC.cond (b := decide (at_ < (code.length : Int))) (ev_t rfl) (fun h9 => ?_) (fun h9 => ?_)
  · rw [bif_pos h9] at hF
    have q10 := (of_decide_eq_true h9)
    refine TC.regionQ (by kernel_rfl) (by kernel_rfl) dr_hp ?_
    refine TQ.op (yq (y_move (ev_t rfl))) rfl rfl rfl ?_
    refine TQ.op (yq (y_nilp (ev_t rfl))) rfl rfl rfl ?_
    refine TQ.op (yq (y_fa (fa_75_0 gc) (ev_t rfl))) rfl rfl rfl ?_
    refine TQ.op (yq (y_ldb 0 (ev_t rfl) one_22 rfl rfl)) rfl rfl rfl ?_
    refine TQ.op (yq (y_move (ev_t rfl))) rfl rfl rfl ?_
    refine TQ.op (yq (y_nilp (ev_t rfl))) rfl rfl rfl ?_
    refine TQ.op (yq (y_fa (fa_75_1 gc) (ev_t rfl))) rfl rfl rfl ?_
    refine TQ.op (yq (y_ldb 0 (ev_t rfl) one_3 rfl rfl)) rfl rfl rfl ?_
    have hb11 : (at_).toNat < code.length := (by first | omega | (simp only [List.length_set, List.length_append, List.length_cons, List.length_nil, List.length_replicate]; omega) | (rw [sortI_length]; simp only [List.length_cons, List.length_nil]; omega))
    refine TQ.op (yq (y_idx (k := (at_).toNat) (ev_t rfl) (ev_t rfl) (by first | omega | simp) slT_22 (rd_arg hcode.1) hb11)) rfl rfl rfl ?_
    have hu12 := hcode.2 ((at_).toNat)
    refine TQ.op (yq (y_ld8 (ev_t rfl) one_5 (rd_arg hcode.1) hb11)) rfl rfl rfl ?_
    refine TQ.op (yq (y_conv_i64 (ev_t rfl) Try.underlying5 Try.underlying3 (by first | omega | (simp only [List.length_set, List.length_append, List.length_cons, List.length_nil, List.length_replicate]; omega) | (rw [sortI_length]; simp only [List.length_cons, List.length_nil]; omega)))) rfl rfl rfl ?_
    refine TQ.op (yq (y_assign (ev_t rfl))) rfl rfl rfl ?_
    refine TQ.nil ?_
    refine TN.seq ?_
    refine TC.seq ?_
    refine TC.region ?_
    refine TL.op (yq (y_move (ev_t rfl))) rfl rfl rfl ?_
    refine TL.op (yq (y_nilp (ev_t rfl))) rfl rfl rfl ?_
    refine TL.op (yq (y_fa (fa_75_1 gc) (ev_t rfl))) rfl rfl rfl ?_
    refine TL.op (yq (y_ldb 0 (ev_t rfl) one_3 rfl rfl)) rfl rfl rfl ?_
    refine TL.op (yq (y_add (ev_t rfl) ev_c (by unfold In64; omega))) rfl rfl rfl ?_
    refine TL.op (yq (y_nilp (ev_t rfl))) rfl rfl rfl ?_
    refine TL.op (yq (y_fa (fa_75_1 gc) (ev_t rfl))) rfl rfl rfl ?_
    refine TL.storeB 0 (ev_t rfl) (ev_t rfl) one_3 rfl (by first | decide | simp) (fun w hw => rfl) ?_
    refine TL.nil ?_
    refine TN.seq ?_
    refine TC.seq ?_
    refine TC.region ?_
    refine TL.op (yq (y_move (ev_t rfl))) rfl rfl rfl ?_
    refine TL.op (yq (y_move (ev_t rfl))) rfl rfl rfl ?_
    refine TL.op (yq (y_nilp (ev_t rfl))) rfl rfl rfl ?_
    refine TL.op (yq (y_fa (fa_75_2 gc) (ev_t rfl))) rfl rfl rfl ?_
    refine TL.op (yq (y_ldb 0 (ev_t rfl) one_73 rfl rfl)) rfl rfl rfl ?_
    refine TL.op (yq (y_mulu (ev_t rfl) ev_c)) rfl rfl rfl ?_
    refine TL.op (yq (y_move (ev_t rfl))) rfl rfl rfl ?_
    refine TL.op (yq (y_conv_u64 (ev_t rfl) Try.underlying3 Try.underlying73 (by first | omega | (simp only [List.length_set, List.length_append, List.length_cons, List.length_nil, List.length_replicate]; omega) | (rw [sortI_length]; simp only [List.length_cons, List.length_nil]; omega)))) rfl rfl rfl ?_
    refine TL.op (yq (y_addu (ev_t rfl) (ev_t rfl))) rfl rfl rfl ?_
    refine TL.op (yq (y_addu (ev_t rfl) ev_c)) rfl rfl rfl ?_
    refine TL.op (yq (y_nilp (ev_t rfl))) rfl rfl rfl ?_
    refine TL.op (yq (y_fa (fa_75_2 gc) (ev_t rfl))) rfl rfl rfl ?_
    refine TL.storeB 0 (ev_t rfl) (ev_t rfl) one_73 rfl (by first | decide | simp) (fun w hw => rfl) ?_
    refine TL.nil ?_
    refine TN.seq ?_
    refine TC.seq ?_
    refine TC.seq ?_
    refine TC.regionQ (by kernel_rfl) (by kernel_rfl) dr_hp ?_
    refine TQ.op (yq (y_move (ev_t rfl))) rfl rfl rfl ?_
    refine TQ.op (yq (y_nilp (ev_t rfl))) rfl rfl rfl ?_
    refine TQ.op (yq (y_fa (fa_75_1 gc) (ev_t rfl))) rfl rfl rfl ?_
    refine TQ.op (yq (y_ldb 0 (ev_t rfl) one_3 rfl rfl)) rfl rfl rfl ?_
    refine TQ.op (yq (y_move (ev_t rfl))) rfl rfl rfl ?_
    refine TQ.op (yq (y_nilp (ev_t rfl))) rfl rfl rfl ?_
    refine TQ.op (yq (y_fa (fa_75_0 gc) (ev_t rfl))) rfl rfl rfl ?_
    refine TQ.op (yq (y_ldb 0 (ev_t rfl) one_22 rfl rfl)) rfl rfl rfl ?_
    refine TQ.op (yq (y_len (ev_t rfl) Try.underlying22 (fun w hw => ((rd_arg hcode.1) w hw).ln))) rfl rfl rfl ?_
    refine TQ.op (yq (y_leq (ev_t rfl) (ev_t rfl))) rfl rfl rfl ?_
    refine TQ.nil ?_
    refine TN.seq ?_
    refine TC.cond (b := decide (at_ + 1 ≤ (code.length : Int))) (ev_t rfl) (fun h13 => ?_) (fun h13 => ?_)
    · rw [bif_pos h13] at hF
      have q14 := (of_decide_eq_true h13)
      refine TC.seq ?_
      refine TC.region ?_
      refine TL.op (yq (y_move (ev_t rfl))) rfl rfl rfl ?_
      refine TL.op (yq (y_assign (ev_t rfl))) rfl rfl rfl ?_
      refine TL.nil ?_
      refine TN.seq ?_
      refine TC.ret ?_
      refine TN.thenR ?_
      subst hF
      exact TN.ret1 rfl (ev_t rfl) (fun w' hw => ⟨trivial, (), rfl, hw⟩)
    · rw [bif_neg h13] at hF
      have q14 := (of_decide_eq_false h13)
      refine TC.skip ?_
      refine TN.seq ?_
      refine TC.seq ?_
      refine TC.region ?_
      refine TL.op (yq (y_move (ev_t rfl))) rfl rfl rfl ?_
      refine TL.op (yq (y_nilp (ev_t rfl))) rfl rfl rfl ?_
      refine TL.op (yq (y_fa (fa_75_2 gc) (ev_t rfl))) rfl rfl rfl ?_
      refine TL.op (yq (y_ldb 0 (ev_t rfl) one_73 rfl rfl)) rfl rfl rfl ?_
      refine TL.op (yq (y_shr40 (ev_t rfl) ev_c (by omega))) rfl rfl rfl ?_
      refine TL.op (yq (y_and255 (ev_t rfl) ev_c (by omega) (by omega))) rfl rfl rfl ?_
      refine TL.op (yq (y_conv_i64 (ev_t rfl) Try.underlying73 Try.underlying3 (by first | omega | (simp only [List.length_set, List.length_append, List.length_cons, List.length_nil, List.length_replicate]; omega) | (rw [sortI_length]; simp only [List.length_cons, List.length_nil]; omega)))) rfl rfl rfl ?_
      refine TL.op (yq (y_assign (ev_t rfl))) rfl rfl rfl ?_
      refine TL.nil ?_
      refine TN.seq ?_
      refine TC.ret ?_
      subst hF
      exact TN.ret1 rfl (ev_t rfl) (fun w' hw => ⟨trivial, (), rfl, hw⟩)
  · rw [bif_neg h9] at hF
    have q10 := (of_decide_eq_false h9)
    refine TC.skip ?_
    refine TN.seq ?_
    refine TC.seq ?_
    refine TC.region ?_
    refine TL.op (yq (y_move (ev_t rfl))) rfl rfl rfl ?_
    refine TL.op (yq (y_nilp (ev_t rfl))) rfl rfl rfl ?_
    refine TL.op (yq (y_fa (fa_75_1 gc) (ev_t rfl))) rfl rfl rfl ?_
    refine TL.op (yq (y_ldb 0 (ev_t rfl) one_3 rfl rfl)) rfl rfl rfl ?_
    refine TL.op (yq (y_add (ev_t rfl) ev_c (by unfold In64; omega))) rfl rfl rfl ?_
    refine TL.op (yq (y_nilp (ev_t rfl))) rfl rfl rfl ?_
    refine TL.op (yq (y_fa (fa_75_1 gc) (ev_t rfl))) rfl rfl rfl ?_
    refine TL.storeB 0 (ev_t rfl) (ev_t rfl) one_3 rfl (by first | decide | simp) (fun w hw => rfl) ?_
    refine TL.nil ?_
    refine TN.seq ?_
    refine TC.seq ?_
    refine TC.region ?_
    refine TL.op (yq (y_move (ev_t rfl))) rfl rfl rfl ?_
    refine TL.op (yq (y_move (ev_t rfl))) rfl rfl rfl ?_
    refine TL.op (yq (y_nilp (ev_t rfl))) rfl rfl rfl ?_
    refine TL.op (yq (y_fa (fa_75_2 gc) (ev_t rfl))) rfl rfl rfl ?_
    refine TL.op (yq (y_ldb 0 (ev_t rfl) one_73 rfl rfl)) rfl rfl rfl ?_
    refine TL.op (yq (y_mulu (ev_t rfl) ev_c)) rfl rfl rfl ?_
    refine TL.op (yq (y_move (ev_t rfl))) rfl rfl rfl ?_
    refine TL.op (yq (y_conv_u64 (ev_t rfl) Try.underlying3 Try.underlying73 (by first | omega | (simp only [List.length_set, List.length_append, List.length_cons, List.length_nil, List.length_replicate]; omega) | (rw [sortI_length]; simp only [List.length_cons, List.length_nil]; omega)))) rfl rfl rfl ?_
    refine TL.op (yq (y_addu (ev_t rfl) (ev_t rfl))) rfl rfl rfl ?_
    refine TL.op (yq (y_addu (ev_t rfl) ev_c)) rfl rfl rfl ?_
    refine TL.op (yq (y_nilp (ev_t rfl))) rfl rfl rfl ?_
    refine TL.op (yq (y_fa (fa_75_2 gc) (ev_t rfl))) rfl rfl rfl ?_
    refine TL.storeB 0 (ev_t rfl) (ev_t rfl) one_73 rfl (by first | decide | simp) (fun w hw => rfl) ?_
    refine TL.nil ?_
    refine TN.seq ?_
    refine TC.seq ?_
    refine TC.seq ?_
    refine TC.regionQ (by kernel_rfl) (by kernel_rfl) dr_hp ?_
    refine TQ.op (yq (y_move (ev_t rfl))) rfl rfl rfl ?_
    refine TQ.op (yq (y_nilp (ev_t rfl))) rfl rfl rfl ?_
    refine TQ.op (yq (y_fa (fa_75_1 gc) (ev_t rfl))) rfl rfl rfl ?_
    refine TQ.op (yq (y_ldb 0 (ev_t rfl) one_3 rfl rfl)) rfl rfl rfl ?_
    refine TQ.op (yq (y_move (ev_t rfl))) rfl rfl rfl ?_
    refine TQ.op (yq (y_nilp (ev_t rfl))) rfl rfl rfl ?_
    refine TQ.op (yq (y_fa (fa_75_0 gc) (ev_t rfl))) rfl rfl rfl ?_
    refine TQ.op (yq (y_ldb 0 (ev_t rfl) one_22 rfl rfl)) rfl rfl rfl ?_
    refine TQ.op (yq (y_len (ev_t rfl) Try.underlying22 (fun w hw => ((rd_arg hcode.1) w hw).ln))) rfl rfl rfl ?_
    refine TQ.op (yq (y_leq (ev_t rfl) (ev_t rfl))) rfl rfl rfl ?_
    refine TQ.nil ?_
    refine TN.seq ?_
    refine TC.cond (b := decide (at_ + 1 ≤ (code.length : Int))) (ev_t rfl) (fun h15 => ?_) (fun h15 => ?_)
    · rw [bif_pos h15] at hF
      have q16 := (of_decide_eq_true h15)
      refine TC.seq ?_
      refine TC.region ?_
      refine TL.op (yq (y_move (ev_t rfl))) rfl rfl rfl ?_
      refine TL.op (yq (y_assign (ev_t rfl))) rfl rfl rfl ?_
      refine TL.nil ?_
      refine TN.seq ?_
      refine TC.ret ?_
      refine TN.thenR ?_
      subst hF
      exact TN.ret1 rfl (ev_t rfl) (fun w' hw => ⟨trivial, (), rfl, hw⟩)
    · rw [bif_neg h15] at hF
      have q16 := (of_decide_eq_false h15)
      refine TC.skip ?_
      refine TN.seq ?_
      refine TC.seq ?_
      refine TC.region ?_
      refine TL.op (yq (y_move (ev_t rfl))) rfl rfl rfl ?_
      refine TL.op (yq (y_nilp (ev_t rfl))) rfl rfl rfl ?_
      refine TL.op (yq (y_fa (fa_75_2 gc) (ev_t rfl))) rfl rfl rfl ?_
      refine TL.op (yq (y_ldb 0 (ev_t rfl) one_73 rfl rfl)) rfl rfl rfl ?_
      refine TL.op (yq (y_shr40 (ev_t rfl) ev_c (by omega))) rfl rfl rfl ?_
      refine TL.op (yq (y_and255 (ev_t rfl) ev_c (by omega) (by omega))) rfl rfl rfl ?_
      refine TL.op (yq (y_conv_i64 (ev_t rfl) Try.underlying73 Try.underlying3 (by first | omega | (simp only [List.length_set, List.length_append, List.length_cons, List.length_nil, List.length_replicate]; omega) | (rw [sortI_length]; simp only [List.length_cons, List.length_nil]; omega)))) rfl rfl rfl ?_
      refine TL.op (yq (y_assign (ev_t rfl))) rfl rfl rfl ?_
      refine TL.nil ?_
      refine TN.seq ?_
      refine TC.ret ?_
      subst hF
      exact TN.ret1 rfl (ev_t rfl) (fun w' hw => ⟨trivial, (), rfl, hw⟩)

set_option maxRecDepth 4000 in
set_option maxHeartbeats 1000000 in
theorem spec_l1Cur_pick_ok (w0 w : World) (fr : List Ck) (gc : Nat) (vc : Value) (code : List Int) (hcode : RB w0 vc code) (at_ : Int) (seed : Int) (hw : Hp w0 (.blk gc 75 [vc, (.int .i64 at_), (.int .u64 seed)] :: fr) w) (n : Int) (hp0 : 0 ≤ at_) (hp1 : at_ ≤ 3000000000) (hp2 : 0 ≤ seed) (hp3 : seed < 18446744073709551616) :
    Calls Try.prog 65 ([(.pointer (some ⟨gc, 0, none⟩)), (.int .i64 n)] : List Value).toArray w (fun e w' => True ∧ ∃ _i : Unit, e = .returned (.int .i64 ((F_spec_l1Cur_pick code at_ seed n).1)) ∧ Hp w0 ([.blk gc 75 [vc, (.int .i64 ((F_spec_l1Cur_pick code at_ seed n).2.1)), (.int .u64 ((F_spec_l1Cur_pick code at_ seed n).2.2))]] ++ fr) w') := by
  obtain ⟨rz, hF⟩ : ∃ rz, (F_spec_l1Cur_pick code at_ seed n) = rz := ⟨_, rfl⟩
  rw [hF]
  unfold F_spec_l1Cur_pick at hF
  have hlen_code := argB_len hcode
  refine calls_tcm Try.func65 rfl rfl rfl hw ?_
  change TC _ _ _ _ (Hp w0 ([.blk gc 75 [vc, (.int .i64 at_), (.int .u64 seed)]] ++ fr)) [(0, (.pointer (some ⟨gc, 0, none⟩))), (1, (.int .i64 n))]
  refine TC.seq ?_
  refine TC.region ?_
  refine TL.op (yq (y_assign ev_c)) rfl rfl rfl ?_
  refine TL.nil ?_
  refine TN.seq ?_
  refine TC.seq ?_
  refine TC.seq ?_
  refine TC.region ?_
  refine TL.op (yq (y_move (ev_t rfl))) rfl rfl rfl ?_
  refine TL.op (yq (y_leq (ev_t rfl) ev_c)) rfl rfl rfl ?_
  refine TL.nil ?_
  refine TN.seq ?_
  refine TC.cond (b := decide (n ≤ 1)) (ev_t rfl) (fun h9 => ?_) (fun h9 => ?_)
  · rw [bif_pos h9] at hF
    have q10 := (of_decide_eq_true h9)
    refine TC.seq ?_
    refine TC.region ?_
    refine TL.op (yq (y_assign ev_c)) rfl rfl rfl ?_
    refine TL.nil ?_
    refine TN.seq ?_
    refine TC.ret ?_
    refine TN.thenR ?_
    subst hF
    exact TN.ret1 rfl (ev_t rfl) (fun w' hw => ⟨trivial, (), rfl, hw⟩)
  · rw [bif_neg h9] at hF
    have q10 := (of_decide_eq_false h9)
    refine TC.skip ?_
    refine TN.seq ?_
    refine TC.seq ?_
    refine TC.region ?_
    refine TL.op (yq (y_move (ev_t rfl))) rfl rfl rfl ?_
    refine TL.callmX (ι := Unit) (p := True) 0 (vs := [(.pointer (some ⟨gc, 0, none⟩))]) (fun _ => (.int .i64 ((F_spec_l1Cur_next code at_ seed).1))) (fun _ => .blk gc 75 [vc, (.int .i64 (((F_spec_l1Cur_next code at_ seed).2).1)), (.int .u64 (((F_spec_l1Cur_next code at_ seed).2).2))]) (fun _ => []) en_116 ⟨(ev_t rfl), trivial⟩ rfl rfl (fun w1 _ hw => spec_l1Cur_next_ok w0 w1 _ gc vc code hcode at_ seed hw (by first | assumption | omega | grind) (by first | assumption | omega | grind) (by first | assumption | omega | grind) (by first | assumption | omega | grind)) (fun hpo11 _ => ?_)
    replace hpo11 := next_post hcode.2 code at_ seed
    obtain ⟨q3_1, hq12⟩ : ∃ q, (F_spec_l1Cur_next code at_ seed) = q := ⟨_, rfl⟩
    rw [hq12] at hF hpo11 ⊢
    try dsimp only at hF
    refine TL.op (yq (y_assign (ev_t rfl))) rfl rfl rfl ?_
    refine TL.nil ?_
    refine TN.seq ?_
    refine TC.seq ?_
    refine TC.seq ?_
    refine TC.region ?_
    refine TL.op (yq (y_move (ev_t rfl))) rfl rfl rfl ?_
    refine TL.op (yq (y_gtr (ev_t rfl) ev_c)) rfl rfl rfl ?_
    refine TL.nil ?_
    refine TN.seq ?_
    refine TC.cond (b := decide (200 < n)) (ev_t rfl) (fun h13 => ?_) (fun h13 => ?_)
    · rw [bif_pos h13] at hF
      have q14 := (of_decide_eq_true h13)
      refine TC.region ?_
      refine TL.op (yq (y_move (ev_t rfl))) rfl rfl rfl ?_
      refine TL.op (yq (y_mul (ev_t rfl) ev_c (by unfold In64; omega))) rfl rfl rfl ?_
      refine TL.op (yq (y_move (ev_t rfl))) rfl rfl rfl ?_
      refine TL.callmX (ι := Unit) (p := True) 0 (vs := [(.pointer (some ⟨gc, 0, none⟩))]) (fun _ => (.int .i64 ((F_spec_l1Cur_next code ((q3_1.2).1) ((q3_1.2).2)).1))) (fun _ => .blk gc 75 [vc, (.int .i64 (((F_spec_l1Cur_next code ((q3_1.2).1) ((q3_1.2).2)).2).1)), (.int .u64 (((F_spec_l1Cur_next code ((q3_1.2).1) ((q3_1.2).2)).2).2))]) (fun _ => []) en_116 ⟨(ev_t rfl), trivial⟩ rfl rfl (fun w1 _ hw => spec_l1Cur_next_ok w0 w1 _ gc vc code hcode ((q3_1.2).1) ((q3_1.2).2) hw (by first | assumption | omega | grind) (by first | assumption | omega | grind) (by first | assumption | omega | grind) (by first | assumption | omega | grind)) (fun hpo15 _ => ?_)
      replace hpo15 := next_post hcode.2 code ((q3_1.2).1) ((q3_1.2).2)
      obtain ⟨q5_3, hq16⟩ : ∃ q, (F_spec_l1Cur_next code ((q3_1.2).1) ((q3_1.2).2)) = q := ⟨_, rfl⟩
      rw [hq16] at hF hpo15 ⊢
      try dsimp only at hF
      refine TL.op (yq (y_add (ev_t rfl) (ev_t rfl) (by unfold In64; omega))) rfl rfl rfl ?_
      refine TL.op (yq (y_assign (ev_t rfl))) rfl rfl rfl ?_
      refine TL.nil ?_
      refine TN.seq ?_
      refine TC.seq ?_
      refine TC.region ?_
      refine TL.op (yq (y_move (ev_t rfl))) rfl rfl rfl ?_
      refine TL.op (yq (y_move (ev_t rfl))) rfl rfl rfl ?_
      refine TL.op (yq (y_rem (ev_t rfl) (ev_t rfl) (by first | omega | (simp only [Int.natCast_ediv] at *; omega)) (by first | omega | (simp only [Int.natCast_ediv] at *; omega)))) rfl rfl rfl ?_
      refine TL.op (yq (y_assign (ev_t rfl))) rfl rfl rfl ?_
      refine TL.nil ?_
      refine TN.seq ?_
      refine TC.ret ?_
      subst hF
      exact TN.ret1 rfl (ev_t rfl) (fun w' hw => ⟨trivial, (), rfl, hw⟩)
    · rw [bif_neg h13] at hF
      have q14 := (of_decide_eq_false h13)
      refine TC.skip ?_
      refine TN.seq ?_
      refine TC.seq ?_
      refine TC.region ?_
      refine TL.op (yq (y_move (ev_t rfl))) rfl rfl rfl ?_
      refine TL.op (yq (y_move (ev_t rfl))) rfl rfl rfl ?_
      refine TL.op (yq (y_rem (ev_t rfl) (ev_t rfl) (by first | omega | (simp only [Int.natCast_ediv] at *; omega)) (by first | omega | (simp only [Int.natCast_ediv] at *; omega)))) rfl rfl rfl ?_
      refine TL.op (yq (y_assign (ev_t rfl))) rfl rfl rfl ?_
      refine TL.nil ?_
      refine TN.seq ?_
      refine TC.ret ?_
      subst hF
      exact TN.ret1 rfl (ev_t rfl) (fun w' hw => ⟨trivial, (), rfl, hw⟩)

set_option maxRecDepth 4000 in
set_option maxHeartbeats 1000000 in
theorem spec_l1Cur_one_ok (w0 w : World) (fr : List Ck) (gc : Nat) (vc : Value) (code : List Int) (hcode : RB w0 vc code) (at_ : Int) (seed : Int) (hw : Hp w0 (.blk gc 75 [vc, (.int .i64 at_), (.int .u64 seed)] :: fr) w) (n : Int) (hp0 : 0 ≤ at_) (hp1 : at_ ≤ 2000000000) (hp2 : 0 ≤ seed) (hp3 : seed < 18446744073709551616) :
    Calls Try.prog 66 ([(.pointer (some ⟨gc, 0, none⟩)), (.int .i64 n)] : List Value).toArray w (fun e w' => True ∧ ∃ _i : Unit, e = .returned (.bool ((F_spec_l1Cur_one code at_ seed n).1)) ∧ Hp w0 ([.blk gc 75 [vc, (.int .i64 ((F_spec_l1Cur_one code at_ seed n).2.1)), (.int .u64 ((F_spec_l1Cur_one code at_ seed n).2.2))]] ++ fr) w') := by
  obtain ⟨rz, hF⟩ : ∃ rz, (F_spec_l1Cur_one code at_ seed n) = rz := ⟨_, rfl⟩
  rw [hF]
  unfold F_spec_l1Cur_one at hF
  have hlen_code := argB_len hcode
  refine calls_tcm Try.func66 rfl rfl rfl hw ?_
  change TC _ _ _ _ (Hp w0 ([.blk gc 75 [vc, (.int .i64 at_), (.int .u64 seed)]] ++ fr)) [(0, (.pointer (some ⟨gc, 0, none⟩))), (1, (.int .i64 n))]
  refine TC.seq ?_
  refine TC.region ?_
  refine TL.op (yq (y_assign ev_c)) rfl rfl rfl ?_
  refine TL.nil ?_
  refine TN.seq ?_
  refine TC.seq ?_
  refine TC.region ?_
  refine TL.op (yq (y_move (ev_t rfl))) rfl rfl rfl ?_
  refine TL.op (yq (y_move (ev_t rfl))) rfl rfl rfl ?_
  refine TL.callmX (ι := Unit) (p := True) 0 (vs := [(.pointer (some ⟨gc, 0, none⟩)), (.int .i64 n)]) (fun _ => (.int .i64 ((F_spec_l1Cur_pick code at_ seed n).1))) (fun _ => .blk gc 75 [vc, (.int .i64 (((F_spec_l1Cur_pick code at_ seed n).2).1)), (.int .u64 (((F_spec_l1Cur_pick code at_ seed n).2).2))]) (fun _ => []) en_65 ⟨(ev_t rfl), (ev_t rfl), trivial⟩ rfl rfl (fun w1 _ hw => spec_l1Cur_pick_ok w0 w1 _ gc vc code hcode at_ seed hw n (by first | assumption | omega | grind) (by first | assumption | omega | grind) (by first | assumption | omega | grind) (by first | assumption | omega | grind)) (fun hpo3 _ => ?_)
  replace hpo3 := pick_post hcode.2 code at_ seed n (by omega)
  obtain ⟨q1_2, hq4⟩ : ∃ q, (F_spec_l1Cur_pick code at_ seed n) = q := ⟨_, rfl⟩
  rw [hq4] at hF hpo3 ⊢
  try dsimp only at hF
  refine TL.op (yq (y_eql (ev_t rfl) ev_c)) rfl rfl rfl ?_
  refine TL.op (yq (y_assign (ev_t rfl))) rfl rfl rfl ?_
  refine TL.nil ?_
  refine TN.seq ?_
  refine TC.ret ?_
  subst hF
  exact TN.ret1 rfl (ev_t rfl) (fun w' hw => ⟨trivial, (), rfl, hw⟩)

set_option maxRecDepth 4000 in
set_option maxHeartbeats 1000000 in
theorem spec_l1Cur_of_ok (w0 w : World) (fr : List Ck) (gc : Nat) (vc : Value) (code : List Int) (hcode : RB w0 vc code) (at_ : Int) (seed : Int) (hw : Hp w0 (.blk gc 75 [vc, (.int .i64 at_), (.int .u64 seed)] :: fr) w) (vlist : Value) (list : List ByteArray) (hlist : ∀ (w' : World) (c : Ck), Hp w0 (c :: fr) w' → Rd w' vlist 1 list.length (strs list)) (hp0 : 0 ≤ at_) (hp1 : at_ ≤ 1900000000) (hp2 : 0 ≤ seed) (hp3 : seed < 18446744073709551616) (hp4 : 1 ≤ list.length) (hp5 : list.length ≤ 1000) :
    Calls Try.prog 63 ([(.pointer (some ⟨gc, 0, none⟩)), vlist] : List Value).toArray w (fun e w' => (at_ ≤ ((F_spec_l1Cur_of code at_ seed list).2).1 ∧ ((F_spec_l1Cur_of code at_ seed list).2).1 ≤ at_ + 2 ∧ 0 ≤ ((F_spec_l1Cur_of code at_ seed list).2).2 ∧ ((F_spec_l1Cur_of code at_ seed list).2).2 < 18446744073709551616) ∧ ∃ _i : Unit, e = .returned (.string ((F_spec_l1Cur_of code at_ seed list).1)) ∧ Hp w0 ([.blk gc 75 [vc, (.int .i64 ((F_spec_l1Cur_of code at_ seed list).2.1)), (.int .u64 ((F_spec_l1Cur_of code at_ seed list).2.2))]] ++ fr) w') := by
  obtain ⟨rz, hF⟩ : ∃ rz, (F_spec_l1Cur_of code at_ seed list) = rz := ⟨_, rfl⟩
  rw [hF]
  unfold F_spec_l1Cur_of at hF
  have hlen_code := argB_len hcode
  have hlen_list := (hlist w _ hw).2.1
  refine calls_tcm Try.func63 rfl rfl rfl hw ?_
  change TC _ _ _ _ (Hp w0 ([.blk gc 75 [vc, (.int .i64 at_), (.int .u64 seed)]] ++ fr)) [(0, (.pointer (some ⟨gc, 0, none⟩))), (1, vlist)]
  refine TC.seq ?_
  refine TC.region ?_
  refine TL.op (yq (y_assign ev_c)) rfl rfl rfl ?_
  refine TL.nil ?_
  refine TN.seq ?_
  refine TC.seq ?_
  refine TC.region ?_
  refine TL.op (yq (y_move (ev_t rfl))) rfl rfl rfl ?_
  refine TL.op (yq (y_move (ev_t rfl))) rfl rfl rfl ?_
  refine TL.op (yq (y_move (ev_t rfl))) rfl rfl rfl ?_
  refine TL.op (yq (y_len (ev_t rfl) Try.underlying26 (fun w hw => ((fun w hw => hlist w _ (hw)) w hw).ln))) rfl rfl rfl ?_
  refine TL.callmX (ι := Unit) (p := True) 0 (vs := [(.pointer (some ⟨gc, 0, none⟩)), (.int .i64 (list.length : Int))]) (fun _ => (.int .i64 ((F_spec_l1Cur_pick code at_ seed (list.length : Int)).1))) (fun _ => .blk gc 75 [vc, (.int .i64 (((F_spec_l1Cur_pick code at_ seed (list.length : Int)).2).1)), (.int .u64 (((F_spec_l1Cur_pick code at_ seed (list.length : Int)).2).2))]) (fun _ => []) en_65 ⟨(ev_t rfl), (ev_t rfl), trivial⟩ rfl rfl (fun w1 _ hw => spec_l1Cur_pick_ok w0 w1 _ gc vc code hcode at_ seed hw (list.length : Int) (by first | assumption | omega | grind) (by first | assumption | omega | grind) (by first | assumption | omega | grind) (by first | assumption | omega | grind)) (fun hpo4 _ => ?_)
  replace hpo4 := pick_post hcode.2 code at_ seed (list.length : Int) (by omega)
  obtain ⟨q1_4, hq5⟩ : ∃ q, (F_spec_l1Cur_pick code at_ seed (list.length : Int)) = q := ⟨_, rfl⟩
  rw [hq5] at hF hpo4 ⊢
  try dsimp only at hF
  have hb6 : (q1_4.1).toNat < list.length := (by first | omega | (simp only [List.length_set, List.length_append, List.length_cons, List.length_nil, List.length_replicate]; omega) | (rw [sortI_length]; simp only [List.length_cons, List.length_nil]; omega))
  refine TL.op (yq (y_idx (k := (q1_4.1).toNat) (ev_t rfl) (ev_t rfl) (by first | omega | simp) slT_26 (fun w hw => hlist w _ (hw)) hb6)) rfl rfl rfl ?_
  refine TL.op (yq (y_lds (ev_t rfl) one_9 (fun w hw => hlist w _ (hw)) hb6)) rfl rfl rfl ?_
  refine TL.op (yq (y_assign (ev_t rfl))) rfl rfl rfl ?_
  refine TL.nil ?_
  refine TN.seq ?_
  refine TC.ret ?_
  subst hF
  exact TN.ret1 rfl (ev_t rfl) (fun w' hw => ⟨(by dsimp only; omega), (), rfl, hw⟩)

set_option maxRecDepth 4000 in
set_option maxHeartbeats 1000000 in
theorem spec_l1Cur_any1_ok (w0 w : World) (fr : List Ck) (gc : Nat) (vc : Value) (code : List Int) (hcode : RB w0 vc code) (at_ : Int) (seed : Int) (hw : Hp w0 (.blk gc 75 [vc, (.int .i64 at_), (.int .u64 seed)] :: fr) w) (hp0 : 0 ≤ at_) (hp1 : at_ ≤ 1800000000) (hp2 : 0 ≤ seed) (hp3 : seed < 18446744073709551616) :
    Calls Try.prog 62 ([(.pointer (some ⟨gc, 0, none⟩))] : List Value).toArray w (fun e w' => (at_ ≤ ((F_spec_l1Cur_any1 code at_ seed).2).1 ∧ ((F_spec_l1Cur_any1 code at_ seed).2).1 ≤ at_ + 2 ∧ 0 ≤ ((F_spec_l1Cur_any1 code at_ seed).2).2 ∧ ((F_spec_l1Cur_any1 code at_ seed).2).2 < 18446744073709551616) ∧ ∃ _i : Unit, e = .returned (.string ((F_spec_l1Cur_any1 code at_ seed).1)) ∧ Hp w0 ([.blk gc 75 [vc, (.int .i64 ((F_spec_l1Cur_any1 code at_ seed).2.1)), (.int .u64 ((F_spec_l1Cur_any1 code at_ seed).2.2))]] ++ fr) w') := by
  obtain ⟨rz, hF⟩ : ∃ rz, (F_spec_l1Cur_any1 code at_ seed) = rz := ⟨_, rfl⟩
  rw [hF]
  unfold F_spec_l1Cur_any1 at hF
  have hlen_code := argB_len hcode
  refine calls_tcm Try.func62 rfl rfl rfl hw ?_
  change TC _ _ _ _ (Hp w0 ([.blk gc 75 [vc, (.int .i64 at_), (.int .u64 seed)]] ++ fr)) [(0, (.pointer (some ⟨gc, 0, none⟩)))]
  refine TC.seq ?_
  refine TC.region ?_
  refine TL.op (yq (y_assign ev_c)) rfl rfl rfl ?_
  refine TL.nil ?_
  refine TN.seq ?_
  refine TC.seq ?_
  refine TC.region ?_
  refine TL.op (yq (y_move (ev_t rfl))) rfl rfl rfl ?_
  refine TL.buildS (zs := [.const (.string (ByteArray.mk #[])), .const (.string (ByteArray.mk #[97])), .const (.string (ByteArray.mk #[97, 44, 98])), .const (.string (ByteArray.mk #[115, 111, 109, 101, 32, 119, 111, 114, 100, 115])), .const (.string (ByteArray.mk #[120, 35, 121])), .const (.string (ByteArray.mk #[45, 49, 50])), .const (.string (ByteArray.mk #[0, 255])), .const (.string (ByteArray.mk #[44, 44])), .const (.string (ByteArray.mk #[48]))]) (qs := [(ByteArray.mk #[]), (ByteArray.mk #[97]), (ByteArray.mk #[97, 44, 98]), (ByteArray.mk #[115, 111, 109, 101, 32, 119, 111, 114, 100, 115]), (ByteArray.mk #[120, 35, 121]), (ByteArray.mk #[45, 49, 50]), (ByteArray.mk #[0, 255]), (ByteArray.mk #[44, 44]), (ByteArray.mk #[48])]) slT_26 rfl ⟨ev_c, ev_c, ev_c, ev_c, ev_c, ev_c, ev_c, ev_c, ev_c, trivial⟩ rfl (by decide) rfl (fun v1_1 => ?_)
  refine TL.callmX (ι := Unit) (p := (at_ ≤ ((F_spec_l1Cur_of code at_ seed ([(ByteArray.mk #[]), (ByteArray.mk #[97]), (ByteArray.mk #[97, 44, 98]), (ByteArray.mk #[115, 111, 109, 101, 32, 119, 111, 114, 100, 115]), (ByteArray.mk #[120, 35, 121]), (ByteArray.mk #[45, 49, 50]), (ByteArray.mk #[0, 255]), (ByteArray.mk #[44, 44]), (ByteArray.mk #[48])])).2).1 ∧ ((F_spec_l1Cur_of code at_ seed ([(ByteArray.mk #[]), (ByteArray.mk #[97]), (ByteArray.mk #[97, 44, 98]), (ByteArray.mk #[115, 111, 109, 101, 32, 119, 111, 114, 100, 115]), (ByteArray.mk #[120, 35, 121]), (ByteArray.mk #[45, 49, 50]), (ByteArray.mk #[0, 255]), (ByteArray.mk #[44, 44]), (ByteArray.mk #[48])])).2).1 ≤ at_ + 2 ∧ 0 ≤ ((F_spec_l1Cur_of code at_ seed ([(ByteArray.mk #[]), (ByteArray.mk #[97]), (ByteArray.mk #[97, 44, 98]), (ByteArray.mk #[115, 111, 109, 101, 32, 119, 111, 114, 100, 115]), (ByteArray.mk #[120, 35, 121]), (ByteArray.mk #[45, 49, 50]), (ByteArray.mk #[0, 255]), (ByteArray.mk #[44, 44]), (ByteArray.mk #[48])])).2).2 ∧ ((F_spec_l1Cur_of code at_ seed ([(ByteArray.mk #[]), (ByteArray.mk #[97]), (ByteArray.mk #[97, 44, 98]), (ByteArray.mk #[115, 111, 109, 101, 32, 119, 111, 114, 100, 115]), (ByteArray.mk #[120, 35, 121]), (ByteArray.mk #[45, 49, 50]), (ByteArray.mk #[0, 255]), (ByteArray.mk #[44, 44]), (ByteArray.mk #[48])])).2).2 < 18446744073709551616)) 1 (vs := [(.pointer (some ⟨gc, 0, none⟩)), v1_1]) (fun _ => (.string ((F_spec_l1Cur_of code at_ seed ([(ByteArray.mk #[]), (ByteArray.mk #[97]), (ByteArray.mk #[97, 44, 98]), (ByteArray.mk #[115, 111, 109, 101, 32, 119, 111, 114, 100, 115]), (ByteArray.mk #[120, 35, 121]), (ByteArray.mk #[45, 49, 50]), (ByteArray.mk #[0, 255]), (ByteArray.mk #[44, 44]), (ByteArray.mk #[48])])).1))) (fun _ => .blk gc 75 [vc, (.int .i64 (((F_spec_l1Cur_of code at_ seed ([(ByteArray.mk #[]), (ByteArray.mk #[97]), (ByteArray.mk #[97, 44, 98]), (ByteArray.mk #[115, 111, 109, 101, 32, 119, 111, 114, 100, 115]), (ByteArray.mk #[120, 35, 121]), (ByteArray.mk #[45, 49, 50]), (ByteArray.mk #[0, 255]), (ByteArray.mk #[44, 44]), (ByteArray.mk #[48])])).2).1)), (.int .u64 (((F_spec_l1Cur_of code at_ seed ([(ByteArray.mk #[]), (ByteArray.mk #[97]), (ByteArray.mk #[97, 44, 98]), (ByteArray.mk #[115, 111, 109, 101, 32, 119, 111, 114, 100, 115]), (ByteArray.mk #[120, 35, 121]), (ByteArray.mk #[45, 49, 50]), (ByteArray.mk #[0, 255]), (ByteArray.mk #[44, 44]), (ByteArray.mk #[48])])).2).2))]) (fun _ => []) en_63 ⟨(ev_t rfl), (ev_t rfl), trivial⟩ rfl rfl (fun w1 _ hw => spec_l1Cur_of_ok w0 w1 _ gc vc code hcode at_ seed hw v1_1 ([(ByteArray.mk #[]), (ByteArray.mk #[97]), (ByteArray.mk #[97, 44, 98]), (ByteArray.mk #[115, 111, 109, 101, 32, 119, 111, 114, 100, 115]), (ByteArray.mk #[120, 35, 121]), (ByteArray.mk #[45, 49, 50]), (ByteArray.mk #[0, 255]), (ByteArray.mk #[44, 44]), (ByteArray.mk #[48])]) (fun w2 _ hw2 => (rd_row 1 rfl) w2 hw2) (by first | assumption | omega | decide | grind) (by first | assumption | omega | decide | grind) (by first | assumption | omega | decide | grind) (by first | assumption | omega | decide | grind) (by first | assumption | omega | decide | grind) (by first | assumption | omega | decide | grind)) (fun hpo3 _ => ?_)
  obtain ⟨q1_2, hq4⟩ : ∃ q, (F_spec_l1Cur_of code at_ seed ([(ByteArray.mk #[]), (ByteArray.mk #[97]), (ByteArray.mk #[97, 44, 98]), (ByteArray.mk #[115, 111, 109, 101, 32, 119, 111, 114, 100, 115]), (ByteArray.mk #[120, 35, 121]), (ByteArray.mk #[45, 49, 50]), (ByteArray.mk #[0, 255]), (ByteArray.mk #[44, 44]), (ByteArray.mk #[48])])) = q := ⟨_, rfl⟩
  rw [hq4] at hF hpo3 ⊢
  try dsimp only at hF
  refine TL.op (yq (y_assign (ev_t rfl))) rfl rfl rfl ?_
  refine TL.nil ?_
  refine TN.seq ?_
  refine TC.ret ?_
  subst hF
  exact TN.ret1 rfl (ev_t rfl) (fun w' hw => ⟨(by dsimp only; omega), (), rfl, Hp.sublist hw (.cons _ (.cons_cons _ (List.Sublist.refl _)))⟩)

set_option maxRecDepth 4000 in
set_option maxHeartbeats 1000000 in
theorem impl_splitAt_ok (w : World) (s : ByteArray) (sep : Int) (hp0 : s.size ≤ 100000) :
    Calls Try.prog 64 ([(.string s), (.int .u8 sep)] : List Value).toArray w (fun e w' => ∃ i : Value, e = .returned i ∧ Hp w [rowS 9 i (F_impl_splitAt s sep)] w') := by
  obtain ⟨rz, hF⟩ : ∃ rz, (F_impl_splitAt s sep) = rz := ⟨_, rfl⟩
  rw [hF]
  unfold F_impl_splitAt at hF
  refine calls_tc Try.func64 rfl rfl rfl ?_
  change TC _ _ _ _ (Hp w []) [(0, (.string s)), (1, (.int .u8 sep))]
  refine TC.seq ?_
  refine TC.region ?_
  refine TL.op (yq (y_assign ev_c)) rfl rfl rfl ?_
  refine TL.nil ?_
  refine TN.seq ?_
  refine TC.seq ?_
  refine TC.region ?_
  refine TL.buildS (zs := []) (qs := []) slT_26 rfl trivial rfl (by decide) rfl (fun v1_0 => ?_)
  refine TL.op (yq (y_assign (ev_t rfl))) rfl rfl rfl ?_
  refine TL.nil ?_
  refine TN.seq ?_
  refine TC.seq ?_
  refine TC.region ?_
  refine TL.op (yq (y_assign ev_c)) rfl rfl rfl ?_
  refine TL.nil ?_
  refine TN.seq ?_
  refine TC.seq ?_
  refine TC.seq ?_
  refine TC.region ?_
  refine TL.op (yq (y_move (ev_t rfl))) rfl rfl rfl ?_
  refine TL.op (yq (y_slen (ev_t rfl) Try.underlying9)) rfl rfl rfl ?_
  refine TL.op (yq (y_move ev_c)) rfl rfl rfl ?_
  refine TL.nil ?_
  refine TN.seq ?_
  refine TC.block ?_
  obtain ⟨c13, hc14⟩ : ∃ c, F_impl_splitAt_L1 s sep ((s.size - 0) + 1) (([] : List ByteArray), 0, 0) = c := ⟨_, rfl⟩
  rw [hc14] at hF
  refine TC.loop (ι := Nat × List ByteArray × Nat × Nat × Value) (fun (fu1, out1, from1, k11_1, vout1) => [(0, (.string s)), (1, (.int .u8 sep)), (5, vout1), (6, (.int .i64 (from1 : Int))), (10, (.int .i64 (s.size : Int))), (11, (.int .i64 (k11_1 : Int)))]) (fun (fu1, out1, from1, k11_1, vout1) => Hp w [rowS 9 vout1 out1]) (fun (fu1, out1, from1, k11_1, vout1) => (k11_1 ≤ s.size) ∧ (out1.length ≤ k11_1) ∧ (from1 ≤ k11_1) ∧ s.size - k11_1 < fu1 ∧ F_impl_splitAt_L1 s sep fu1 (out1, from1, k11_1) = c13) (fun (fu1, out1, from1, k11_1, vout1) => fu1) ((s.size - 0) + 1, ([] : List ByteArray), 0, 0, v1_0) ⟨(by first | omega | (simp [-List.getD_eq_getElem?_getD] <;> omega)), (by first | omega | (simp [-List.getD_eq_getElem?_getD] <;> omega)), (by first | omega | (simp [-List.getD_eq_getElem?_getD] <;> omega)), (by omega), hc14⟩ ⟨rfl, rfl, rfl, rfl, rfl, rfl, trivial⟩ (fun w hw => hw) ?_
  rintro ⟨fu1, out1, from1, k11_1, vout1⟩ hJ1
  obtain ⟨hi1_0, hi1_1, hi1_2, hmu1, hL1⟩ : (k11_1 ≤ s.size) ∧ (out1.length ≤ k11_1) ∧ (from1 ≤ k11_1) ∧ s.size - k11_1 < fu1 ∧ F_impl_splitAt_L1 s sep fu1 (out1, from1, k11_1) = c13 := hJ1
  change TC _ _ _ _ (Hp w [rowS 9 vout1 out1]) [(0, (.string s)), (1, (.int .u8 sep)), (5, vout1), (6, (.int .i64 (from1 : Int))), (10, (.int .i64 (s.size : Int))), (11, (.int .i64 (k11_1 : Int)))]
  obtain ⟨mf1, rfl⟩ : ∃ m, fu1 = m + 1 := ⟨fu1 - 1, by omega⟩
  rw [F_impl_splitAt_L1_s] at hL1
  refine TC.seq ?_
  refine TC.region ?_
  refine TL.op (yq (y_lss (ev_t rfl) (ev_t rfl))) rfl rfl rfl ?_
  refine TL.nil ?_
  refine TN.seq ?_
  refine TC.seq ?_
  refine TC.cond (b := decide ((k11_1 : Int) < (s.size : Int))) (ev_t rfl) (fun h15 => ?_) (fun h15 => ?_)
  · rw [bif_pos h15] at hL1
    have q16 := (of_decide_eq_true h15)
    refine TC.skip ?_
    refine TN.seq ?_
    refine TC.seq ?_
    refine TC.block ?_
    refine TC.seq ?_
    refine TC.region ?_
    refine TL.op (yq (y_move (ev_t rfl))) rfl rfl rfl ?_
    refine TL.op (yq (y_assign (ev_t rfl))) rfl rfl rfl ?_
    refine TL.nil ?_
    refine TN.seq ?_
    refine TC.seq ?_
    refine TC.region ?_
    refine TL.op (yq (y_move (ev_t rfl))) rfl rfl rfl ?_
    refine TL.op (yq (y_move (ev_t rfl))) rfl rfl rfl ?_
    have hb17 : k11_1 < s.size := (by first | omega | (simp only [List.length_set, List.length_append, List.length_cons, List.length_nil, List.length_replicate]; omega) | (rw [sortI_length]; simp only [List.length_cons, List.length_nil]; omega))
    have hu18 := sAt_bd s k11_1
    refine TL.op (yq (y_sidx (k := k11_1) (ev_t rfl) (ev_t rfl) (by first | omega | simp) Try.underlying9 hb17)) rfl rfl rfl ?_
    refine TL.op (yq (y_move (ev_t rfl))) rfl rfl rfl ?_
    refine TL.op (yq (y_eql (ev_t rfl) (ev_t rfl))) rfl rfl rfl ?_
    refine TL.nil ?_
    refine TN.seq ?_
    refine TC.cond (b := decide ((sAt s k11_1) = sep)) (ev_t rfl) (fun h19 => ?_) (fun h19 => ?_)
    · rw [bif_pos h19] at hL1
      have q20 := (of_decide_eq_true h19)
      refine TC.seq ?_
      refine TC.region ?_
      refine TL.op (yq (y_move (ev_t rfl))) rfl rfl rfl ?_
      refine TL.op (yq (y_move (ev_t rfl))) rfl rfl rfl ?_
      refine TL.op (yq (y_move (ev_t rfl))) rfl rfl rfl ?_
      refine TL.op (yq (y_move (ev_t rfl))) rfl rfl rfl ?_
      refine TL.op (yq (y_sslice (ev_t rfl) (ev_t rfl) (ev_t rfl) (lo := from1) (by omega) (hi := k11_1) (by omega) Try.underlying9 (by first | omega | (simp only [List.length_set, List.length_append, List.length_cons, List.length_nil, List.length_replicate]; omega) | (rw [sortI_length]; simp only [List.length_cons, List.length_nil]; omega)) (by first | omega | (simp only [List.length_set, List.length_append, List.length_cons, List.length_nil, List.length_replicate]; omega) | (rw [sortI_length]; simp only [List.length_cons, List.length_nil]; omega)))) rfl rfl rfl ?_
      refine TL.buildS (zs := [.tmp 23]) (qs := [(s.extract from1 k11_1)]) slT_26 rfl ⟨(ev_t rfl), trivial⟩ rfl (by decide) rfl (fun v7_5 => ?_)
      refine TL.appendS 1 (ev_t rfl) (ev_t rfl) rfl slT_26 (rd_row 0 rfl) (by first | omega | (simp [-List.getD_eq_getElem?_getD] <;> omega)) rfl (fun v7_6 => ?_)
      refine TL.op (yq (y_assign (ev_t rfl))) rfl rfl rfl ?_
      refine TL.nil ?_
      refine TN.seq ?_
      refine TC.region ?_
      refine TL.op (yq (y_move (ev_t rfl))) rfl rfl rfl ?_
      refine TL.op (yq (y_add (ev_t rfl) ev_c (by unfold In64; omega))) rfl rfl rfl ?_
      refine TL.op (yq (y_assign (ev_t rfl))) rfl rfl rfl ?_
      refine TL.nil ?_
      refine TN.blockN ?_
      refine TN.seq ?_
      refine TC.region ?_
      refine TL.op (yq (y_add (ev_t rfl) ev_c (by unfold In64; omega))) rfl rfl rfl ?_
      refine TL.op (yq (y_move (ev_t rfl))) rfl rfl rfl ?_
      refine TL.nil ?_
      exact TN.hand (mf1, (out1 ++ ([(s.extract from1 k11_1)])), (k11_1 + 1), (k11_1 + 1), v7_6) ⟨(by first | omega | (simp [-List.getD_eq_getElem?_getD] <;> omega)), (by first | omega | (simp [-List.getD_eq_getElem?_getD] <;> omega)), (by first | omega | (simp [-List.getD_eq_getElem?_getD] <;> omega)), (by omega), hL1⟩ (Nat.lt_succ_self _) ⟨rfl, rfl, rfl, rfl, rfl, rfl, trivial⟩ (fun w hw => Hp.sublist hw (.cons _ (.cons_cons _ .slnil)))
    · rw [bif_neg h19] at hL1
      have q20 := (of_decide_eq_false h19)
      refine TC.skip ?_
      refine TN.blockN ?_
      refine TN.seq ?_
      refine TC.region ?_
      refine TL.op (yq (y_add (ev_t rfl) ev_c (by unfold In64; omega))) rfl rfl rfl ?_
      refine TL.op (yq (y_move (ev_t rfl))) rfl rfl rfl ?_
      refine TL.nil ?_
      exact TN.hand (mf1, out1, from1, (k11_1 + 1), vout1) ⟨(by first | omega | (simp [-List.getD_eq_getElem?_getD] <;> omega)), (by first | omega | (simp [-List.getD_eq_getElem?_getD] <;> omega)), (by first | omega | (simp [-List.getD_eq_getElem?_getD] <;> omega)), (by omega), hL1⟩ (Nat.lt_succ_self _) ⟨rfl, rfl, rfl, rfl, rfl, rfl, trivial⟩ (fun w hw => hw)
  · rw [bif_neg h15] at hL1
    have q16 := (of_decide_eq_false h15)
    refine TC.exit ?_
    refine TN.thenE ?_
    refine TN.thenE ?_
    rw [← hL1, elim_next] at hF
    try dsimp only at hF
    refine TN.blockH ?_
    refine TN.seq ?_
    refine TC.seq ?_
    refine TC.region ?_
    refine TL.op (yq (y_move (ev_t rfl))) rfl rfl rfl ?_
    refine TL.op (yq (y_move (ev_t rfl))) rfl rfl rfl ?_
    refine TL.op (yq (y_move (ev_t rfl))) rfl rfl rfl ?_
    refine TL.op (yq (y_sslice_lo (ev_t rfl) (ev_t rfl) (lo := from1) (by omega) Try.underlying9 (by first | omega | (simp only [List.length_set, List.length_append, List.length_cons, List.length_nil, List.length_replicate]; omega) | (rw [sortI_length]; simp only [List.length_cons, List.length_nil]; omega)))) rfl rfl rfl ?_
    refine TL.buildS (zs := [.tmp 32]) (qs := [(s.extract from1 s.size)]) slT_26 rfl ⟨(ev_t rfl), trivial⟩ rfl (by decide) rfl (fun v10_4 => ?_)
    refine TL.appendS 1 (ev_t rfl) (ev_t rfl) rfl slT_26 (rd_row 0 rfl) (by first | omega | (simp [-List.getD_eq_getElem?_getD] <;> omega)) rfl (fun v10_5 => ?_)
    refine TL.op (yq (y_assign (ev_t rfl))) rfl rfl rfl ?_
    refine TL.nil ?_
    refine TN.seq ?_
    refine TC.ret ?_
    subst hF
    exact TN.ret1 rfl (ev_t rfl) (fun w' hw => ⟨v10_5, rfl, Hp.sublist hw (.cons _ (.cons_cons _ .slnil))⟩)

set_option maxRecDepth 4000 in
set_option maxHeartbeats 1000000 in
theorem impl_SplitString_ok (w : World) (s : ByteArray) (sep : ByteArray)  :
    Calls Try.prog 13 ([(.string s), (.string sep)] : List Value).toArray w (fun e w' => ∃ i : Value, e = .returned (.tuple #[i, (.bool ((F_impl_SplitString s sep).2))]) ∧ Hp w [rowS 9 i ((F_impl_SplitString s sep).1)] w') := by
  obtain ⟨rz, hF⟩ : ∃ rz, (F_impl_SplitString s sep) = rz := ⟨_, rfl⟩
  rw [hF]
  unfold F_impl_SplitString at hF
  refine calls_tc Try.func13 rfl rfl rfl ?_
  change TC _ _ _ _ (Hp w []) [(0, (.string s)), (1, (.string sep))]
  refine TC.seq ?_
  refine TC.region ?_
  refine TL.op (yq (y_assign ev_c)) rfl rfl rfl ?_
  refine TL.op (yq (y_assign ev_c)) rfl rfl rfl ?_
  refine TL.nil ?_
  refine TN.seq ?_
  refine TC.seq ?_
  refine TC.seq ?_
  refine TC.region ?_
  refine TL.op (yq (y_move (ev_t rfl))) rfl rfl rfl ?_
  refine TL.op (yq (y_slen (ev_t rfl) Try.underlying9)) rfl rfl rfl ?_
  refine TL.op (yq (y_gtr (ev_t rfl) ev_c)) rfl rfl rfl ?_
  refine TL.op (yq (y_move (ev_t rfl))) rfl rfl rfl ?_
  refine TL.opw (w_f rfl rfl rfl) (fun hg => yq (y_move (ev_t rfl))) rfl rfl ?_
  refine TL.opw (w_f rfl rfl rfl) (fun hg => yq (y_slen (ev_g rfl hg) Try.underlying9)) rfl rfl ?_
  refine TL.opw (w_f rfl rfl rfl) (fun hg => yq (y_neq (ev_g rfl hg) ev_c)) rfl rfl ?_
  refine TL.op (yq (y_or (ev_t rfl) (fun hq => (ev_g rfl hq)))) rfl rfl rfl ?_
  refine TL.nil ?_
  refine TN.seq ?_
  refine TC.cond (b := ((decide (4000 < (s.size : Int))) || (!decide ((sep.size : Int) = 1)))) (ev_t rfl) (fun h5 => ?_) (fun h5 => ?_)
  · rw [bif_pos h5] at hF
    have q6 := ((or_t h5).imp (fun h => (of_decide_eq_true h)) (fun h => (of_decide_eq_false (not_t h))))
    refine TC.seq ?_
    refine TC.region ?_
    refine TL.op (yq (y_assign ev_c)) rfl rfl rfl ?_
    refine TL.op (yq (y_assign ev_c)) rfl rfl rfl ?_
    refine TL.nil ?_
    refine TN.seq ?_
    refine TC.ret ?_
    refine TN.thenR ?_
    subst hF
    refine TN.cls (fun w hw => hw.nil 9 1) ?_
    exact TN.ret2 rfl (ev_t rfl) (ev_t rfl) (fun w' hw => ⟨(.slice none 0 0), rfl, hw⟩)
  · rw [bif_neg h5] at hF
    have q6 := (and_imp (or_f h5) (fun h => (of_decide_eq_false h)) (fun h => (of_decide_eq_true (not_f h))))
    refine TC.skip ?_
    refine TN.seq ?_
    refine TC.seq ?_
    refine TC.region ?_
    refine TL.op (yq (y_move (ev_t rfl))) rfl rfl rfl ?_
    refine TL.op (yq (y_move (ev_t rfl))) rfl rfl rfl ?_
    have hb8 : 0 < sep.size := (by first | omega | (simp only [List.length_set, List.length_append, List.length_cons, List.length_nil, List.length_replicate]; omega) | (rw [sortI_length]; simp only [List.length_cons, List.length_nil]; omega))
    have hu9 := sAt_bd sep 0
    refine TL.op (yq (y_sidx (k := 0) (ev_t rfl) ev_c (by first | omega | simp) Try.underlying9 hb8)) rfl rfl rfl ?_
    refine TL.callr (ι := Value) (vs := [(.string s), (.int .u8 (sAt sep 0))]) (fun i => i) (fun i => [rowS 9 i (F_impl_splitAt s (sAt sep 0))]) en_64 ⟨(ev_t rfl), (ev_t rfl), trivial⟩ rfl (fun w hw => impl_splitAt_ok w s (sAt sep 0) (by first | assumption | omega | grind)) (fun r3_3 => ?_)
    refine TL.op (yq (y_assign (ev_t rfl))) rfl rfl rfl ?_
    refine TL.op (yq (y_assign ev_c)) rfl rfl rfl ?_
    refine TL.nil ?_
    refine TN.seq ?_
    refine TC.ret ?_
    subst hF
    exact TN.ret2 rfl (ev_t rfl) (ev_t rfl) (fun w' hw => ⟨r3_3, rfl, hw⟩)

set_option maxRecDepth 4000 in
set_option maxHeartbeats 1000000 in
theorem impl_JoinStrings_ok (w : World) (vparts : Value) (parts : List ByteArray) (hparts : Rd w vparts 1 parts.length (strs parts)) (aparts : AdN vparts) (sep : ByteArray) (hp0 : parts.length ≤ 100000) (hp1 : ∀ i, (parts.getD i ByteArray.empty).size ≤ 100000) :
    Calls Try.prog 15 ([vparts, (.string sep)] : List Value).toArray w (Ret (.tuple #[(.string ((F_impl_JoinStrings parts sep).1)), (.bool ((F_impl_JoinStrings parts sep).2))]) (Hp w [])) := by
  obtain ⟨rz, hF⟩ : ∃ rz, (F_impl_JoinStrings parts sep) = rz := ⟨_, rfl⟩
  rw [hF]
  unfold F_impl_JoinStrings at hF
  have hlen_parts := (hparts).2.1
  refine calls_tc Try.func15 rfl rfl rfl ?_
  change TC _ _ _ _ (Hp w []) [(0, vparts), (1, (.string sep))]
  refine TC.seq ?_
  refine TC.region ?_
  refine TL.op (yq (y_assign ev_c)) rfl rfl rfl ?_
  refine TL.op (yq (y_assign ev_c)) rfl rfl rfl ?_
  refine TL.nil ?_
  refine TN.seq ?_
  refine TC.seq ?_
  refine TC.seq ?_
  refine TC.region ?_
  refine TL.op (yq (y_move (ev_t rfl))) rfl rfl rfl ?_
  refine TL.op (yq (y_len (ev_t rfl) Try.underlying26 (fun w hw => ((rd_arg hparts) w hw).ln))) rfl rfl rfl ?_
  refine TL.op (yq (y_eql (ev_t rfl) ev_c)) rfl rfl rfl ?_
  refine TL.op (yq (y_move (ev_t rfl))) rfl rfl rfl ?_
  refine TL.opw (w_f rfl rfl rfl) (fun hg => yq (y_move (ev_t rfl))) rfl rfl ?_
  refine TL.opw (w_f rfl rfl rfl) (fun hg => yq (y_slen (ev_g rfl hg) Try.underlying9)) rfl rfl ?_
  refine TL.opw (w_f rfl rfl rfl) (fun hg => yq (y_neq (ev_g rfl hg) ev_c)) rfl rfl ?_
  refine TL.op (yq (y_or (ev_t rfl) (fun hq => (ev_g rfl hq)))) rfl rfl rfl ?_
  refine TL.nil ?_
  refine TN.seq ?_
  refine TC.cond (b := ((decide ((parts.length : Int) = 0)) || (!decide ((sep.size : Int) = 1)))) (ev_t rfl) (fun h17 => ?_) (fun h17 => ?_)
  · rw [bif_pos h17] at hF
    have q18 := ((or_t h17).imp (fun h => (of_decide_eq_true h)) (fun h => (of_decide_eq_false (not_t h))))
    refine TC.seq ?_
    refine TC.region ?_
    refine TL.op (yq (y_assign ev_c)) rfl rfl rfl ?_
    refine TL.op (yq (y_assign ev_c)) rfl rfl rfl ?_
    refine TL.nil ?_
    refine TN.seq ?_
    refine TC.ret ?_
    refine TN.thenR ?_
    subst hF
    exact TN.ret2 rfl (ev_t rfl) (ev_t rfl) (fun w' hw => ⟨rfl, hw⟩)
  · rw [bif_neg h17] at hF
    have q18 := (and_imp (or_f h17) (fun h => (of_decide_eq_false h)) (fun h => (of_decide_eq_true (not_f h))))
    refine TC.skip ?_
    refine TN.seq ?_
    refine TC.seq ?_
    refine TC.region ?_
    refine TL.op (yq (y_move (ev_t rfl))) rfl rfl rfl ?_
    refine TL.op (yq (y_len (ev_t rfl) Try.underlying26 (fun w hw => ((rd_arg hparts) w hw).ln))) rfl rfl rfl ?_
    refine TL.op (yq (y_sub (ev_t rfl) ev_c (by unfold In64; omega))) rfl rfl rfl ?_
    refine TL.op (yq (y_assign (ev_t rfl))) rfl rfl rfl ?_
    refine TL.nil ?_
    refine TN.seq ?_
    refine TC.seq ?_
    refine TC.seq ?_
    refine TC.region ?_
    refine TL.op (yq (y_move (ev_t rfl))) rfl rfl rfl ?_
    refine TL.op (yq (y_len (ev_t rfl) Try.underlying26 (fun w hw => ((rd_arg hparts) w hw).ln))) rfl rfl rfl ?_
    refine TL.op (yq (y_move ev_c)) rfl rfl rfl ?_
    refine TL.nil ?_
    refine TN.seq ?_
    refine TC.block ?_
    obtain ⟨c19, hc20⟩ : ∃ c, F_impl_JoinStrings_L1 parts sep ((parts.length - 0) + 1) (((parts.length : Int) - 1), 0) = c := ⟨_, rfl⟩
    rw [hc20] at hF
    refine TC.loop (ι := Nat × Int × Nat) (fun (fu1, size1, k22_1) => [(0, vparts), (1, (.string sep)), (6, (.int .i64 size1)), (20, vparts), (21, (.int .i64 (parts.length : Int))), (22, (.int .i64 (k22_1 : Int)))]) (fun (fu1, size1, k22_1) => Hp w []) (fun (fu1, size1, k22_1) => (k22_1 ≤ parts.length) ∧ (0 ≤ size1) ∧ (size1 ≤ 100000) ∧ parts.length - k22_1 < fu1 ∧ F_impl_JoinStrings_L1 parts sep fu1 (size1, k22_1) = c19) (fun (fu1, size1, k22_1) => fu1) ((parts.length - 0) + 1, (parts.length : Int) - 1, 0) ⟨(by first | omega | (simp [-List.getD_eq_getElem?_getD] <;> omega)), (by first | omega | (simp [-List.getD_eq_getElem?_getD] <;> omega)), (by first | omega | (simp [-List.getD_eq_getElem?_getD] <;> omega)), (by omega), hc20⟩ ⟨rfl, rfl, rfl, rfl, rfl, rfl, trivial⟩ (fun w hw => hw) ?_
    rintro ⟨fu1, size1, k22_1⟩ hJ1
    obtain ⟨hi1_0, hi1_1, hi1_2, hmu1, hL1⟩ : (k22_1 ≤ parts.length) ∧ (0 ≤ size1) ∧ (size1 ≤ 100000) ∧ parts.length - k22_1 < fu1 ∧ F_impl_JoinStrings_L1 parts sep fu1 (size1, k22_1) = c19 := hJ1
    change TC _ _ _ _ (Hp w []) [(0, vparts), (1, (.string sep)), (6, (.int .i64 size1)), (20, vparts), (21, (.int .i64 (parts.length : Int))), (22, (.int .i64 (k22_1 : Int)))]
    obtain ⟨mf1, rfl⟩ : ∃ m, fu1 = m + 1 := ⟨fu1 - 1, by omega⟩
    rw [F_impl_JoinStrings_L1_s] at hL1
    have hz := hp1 k22_1
    refine TC.seq ?_
    refine TC.region ?_
    refine TL.op (yq (y_lss (ev_t rfl) (ev_t rfl))) rfl rfl rfl ?_
    refine TL.nil ?_
    refine TN.seq ?_
    refine TC.seq ?_
    refine TC.cond (b := decide ((k22_1 : Int) < (parts.length : Int))) (ev_t rfl) (fun h21 => ?_) (fun h21 => ?_)
    · rw [bif_pos h21] at hL1
      have q22 := (of_decide_eq_true h21)
      refine TC.skip ?_
      refine TN.seq ?_
      refine TC.seq ?_
      refine TC.block ?_
      refine TC.seq ?_
      refine TC.region ?_
      have hb23 : k22_1 < parts.length := (by first | omega | (simp only [List.length_set, List.length_append, List.length_cons, List.length_nil, List.length_replicate]; omega) | (rw [sortI_length]; simp only [List.length_cons, List.length_nil]; omega))
      refine TL.op (yq (y_idx (k := k22_1) (ev_t rfl) (ev_t rfl) (by first | omega | simp) slT_26 (rd_arg hparts) hb23)) rfl rfl rfl ?_
      refine TL.op (yq (y_lds (ev_t rfl) one_9 (rd_arg hparts) hb23)) rfl rfl rfl ?_
      refine TL.op (yq (y_assign (ev_t rfl))) rfl rfl rfl ?_
      refine TL.nil ?_
      refine TN.seq ?_
      refine TC.seq ?_
      refine TC.region ?_
      refine TL.op (yq (y_move (ev_t rfl))) rfl rfl rfl ?_
      refine TL.op (yq (y_move (ev_t rfl))) rfl rfl rfl ?_
      refine TL.op (yq (y_slen (ev_t rfl) Try.underlying9)) rfl rfl rfl ?_
      refine TL.op (yq (y_add (ev_t rfl) (ev_t rfl) (by unfold In64; omega))) rfl rfl rfl ?_
      refine TL.op (yq (y_assign (ev_t rfl))) rfl rfl rfl ?_
      refine TL.nil ?_
      refine TN.seq ?_
      refine TC.seq ?_
      refine TC.region ?_
      refine TL.op (yq (y_move (ev_t rfl))) rfl rfl rfl ?_
      refine TL.op (yq (y_gtr (ev_t rfl) ev_c)) rfl rfl rfl ?_
      refine TL.op (yq (y_move (ev_t rfl))) rfl rfl rfl ?_
      refine TL.opw (w_f rfl rfl rfl) (fun hg => yq (y_move (ev_t rfl))) rfl rfl ?_
      refine TL.opw (w_f rfl rfl rfl) (fun hg => yq (y_move (ev_t rfl))) rfl rfl ?_
      refine TL.opw (w_f rfl rfl rfl) (fun hg => yq (y_sidx (k := 0) (ev_g rfl hg) ev_c (by first | omega | simp) Try.underlying9 (show 0 < sep.size by have hgf := (of_decide_eq_false (not_t hg)); omega))) rfl rfl ?_
      refine TL.opw (w_f rfl rfl rfl) (fun hg => y_call (vs := [(.string (parts.getD k22_1 ByteArray.empty)), (.int .u8 (sAt sep 0))]) (v := (.int .i64 (idxByte (parts.getD k22_1 ByteArray.empty) (sAt sep 0)))) en_67 ⟨(ev_g rfl hg), (ev_g rfl hg), trivial⟩ (fun w hw => strings_IndexByte_ok w (parts.getD k22_1 ByteArray.empty) (sAt sep 0))) rfl rfl ?_
      refine TL.opw (w_f rfl rfl rfl) (fun hg => yq (y_geq (ev_g rfl hg) ev_c)) rfl rfl ?_
      refine TL.op (yq (y_or (ev_t rfl) (fun hq => (ev_g rfl hq)))) rfl rfl rfl ?_
      refine TL.nil ?_
      refine TN.seq ?_
      refine TC.cond (b := ((decide (4000 < size1 + ((parts.getD k22_1 ByteArray.empty).size : Int))) || (decide (0 ≤ (idxByte (parts.getD k22_1 ByteArray.empty) (sAt sep 0)))))) (ev_t rfl) (fun h25 => ?_) (fun h25 => ?_)
      · rw [bif_pos h25] at hL1
        have q26 := ((or_t h25).imp (fun h => (of_decide_eq_true h)) (fun h => (of_decide_eq_true h)))
        refine TC.seq ?_
        refine TC.region ?_
        refine TL.op (yq (y_assign ev_c)) rfl rfl rfl ?_
        refine TL.op (yq (y_assign ev_c)) rfl rfl rfl ?_
        refine TL.nil ?_
        refine TN.seq ?_
        refine TC.ret ?_
        refine TN.blockR ?_
        refine TN.thenR ?_
        refine TN.thenR ?_
        rw [← hL1, elim_ret] at hF
        refine TN.blockR ?_
        refine TN.thenR ?_
        subst hF
        exact TN.ret2 rfl (ev_t rfl) (ev_t rfl) (fun w' hw => ⟨rfl, hw⟩)
      · rw [bif_neg h25] at hL1
        have q26 := (and_imp (or_f h25) (fun h => (of_decide_eq_false h)) (fun h => (of_decide_eq_false h)))
        refine TC.skip ?_
        refine TN.blockN ?_
        refine TN.seq ?_
        refine TC.region ?_
        refine TL.op (yq (y_add (ev_t rfl) ev_c (by unfold In64; omega))) rfl rfl rfl ?_
        refine TL.op (yq (y_move (ev_t rfl))) rfl rfl rfl ?_
        refine TL.nil ?_
        exact TN.hand (mf1, size1 + ((parts.getD k22_1 ByteArray.empty).size : Int), (k22_1 + 1)) ⟨(by first | omega | (simp [-List.getD_eq_getElem?_getD] <;> omega)), (by first | omega | (simp [-List.getD_eq_getElem?_getD] <;> omega)), (by first | omega | (simp [-List.getD_eq_getElem?_getD] <;> omega)), (by omega), hL1⟩ (Nat.lt_succ_self _) ⟨rfl, rfl, rfl, rfl, rfl, rfl, trivial⟩ (fun w hw => hw)
    · rw [bif_neg h21] at hL1
      have q22 := (of_decide_eq_false h21)
      refine TC.exit ?_
      refine TN.thenE ?_
      refine TN.thenE ?_
      rw [← hL1, elim_next] at hF
      try dsimp only at hF
      refine TN.blockH ?_
      refine TN.seq ?_
      refine TC.seq ?_
      refine TC.seq ?_
      refine TC.region ?_
      refine TL.op (yq (y_move (ev_t rfl))) rfl rfl rfl ?_
      refine TL.op (yq (y_gtr (ev_t rfl) ev_c)) rfl rfl rfl ?_
      refine TL.nil ?_
      refine TN.seq ?_
      refine TC.cond (b := decide (4000 < size1)) (ev_t rfl) (fun h27 => ?_) (fun h27 => ?_)
      · rw [bif_pos h27] at hF
        have q28 := (of_decide_eq_true h27)
        refine TC.seq ?_
        refine TC.region ?_
        refine TL.op (yq (y_assign ev_c)) rfl rfl rfl ?_
        refine TL.op (yq (y_assign ev_c)) rfl rfl rfl ?_
        refine TL.nil ?_
        refine TN.seq ?_
        refine TC.ret ?_
        refine TN.thenR ?_
        subst hF
        exact TN.ret2 rfl (ev_t rfl) (ev_t rfl) (fun w' hw => ⟨rfl, hw⟩)
      · rw [bif_neg h27] at hF
        have q28 := (of_decide_eq_false h27)
        refine TC.skip ?_
        refine TN.seq ?_
        refine TC.seq ?_
        refine TC.region ?_
        refine TL.op (yq (y_move (ev_t rfl))) rfl rfl rfl ?_
        refine TL.op (yq (y_move (ev_t rfl))) rfl rfl rfl ?_
        refine TL.op (y_call (vs := [vparts, (.string sep)]) (v := (.string (joinB parts sep))) en_68 ⟨(ev_t rfl), (ev_t rfl), trivial⟩ (fun w hw => strings_Join_ok w vparts parts ((rd_arg hparts) w hw) aparts sep (by first | assumption | omega | exact join_le hp1 hp0 (by omega)) (by first | assumption | omega | exact join_le hp1 hp0 (by omega)) (by first | assumption | omega | exact join_le hp1 hp0 (by omega)))) rfl rfl rfl ?_
        refine TL.op (yq (y_assign (ev_t rfl))) rfl rfl rfl ?_
        refine TL.op (yq (y_assign ev_c)) rfl rfl rfl ?_
        refine TL.nil ?_
        refine TN.seq ?_
        refine TC.ret ?_
        subst hF
        exact TN.ret2 rfl (ev_t rfl) (ev_t rfl) (fun w' hw => ⟨rfl, hw⟩)

set_option maxRecDepth 4000 in
set_option maxHeartbeats 1000000 in
theorem spec_l1Stands_ok (w : World) (s : ByteArray) (b : Int) (hp0 : s.size ≤ 100000) :
    Calls Try.prog 69 ([(.string s), (.int .u8 b)] : List Value).toArray w (Ret (.bool (F_spec_l1Stands s b)) (Hp w [])) := by
  obtain ⟨rz, hF⟩ : ∃ rz, (F_spec_l1Stands s b) = rz := ⟨_, rfl⟩
  rw [hF]
  unfold F_spec_l1Stands at hF
  refine calls_tc Try.func69 rfl rfl rfl ?_
  change TC _ _ _ _ (Hp w []) [(0, (.string s)), (1, (.int .u8 b))]
  refine TC.seq ?_
  refine TC.region ?_
  refine TL.op (yq (y_assign ev_c)) rfl rfl rfl ?_
  refine TL.nil ?_
  refine TN.seq ?_
  refine TC.seq ?_
  refine TC.seq ?_
  refine TC.region ?_
  refine TL.op (yq (y_assign ev_c)) rfl rfl rfl ?_
  refine TL.nil ?_
  refine TN.seq ?_
  refine TC.block ?_
  obtain ⟨c13, hc14⟩ : ∃ c, F_spec_l1Stands_L1 s b ((s.size - 0) + 1) 0 = c := ⟨_, rfl⟩
  rw [hc14] at hF
  refine TC.loop (ι := Nat × Nat) (fun (fu1, i1) => [(0, (.string s)), (1, (.int .u8 b)), (5, (.int .i64 (i1 : Int)))]) (fun (fu1, i1) => Hp w []) (fun (fu1, i1) => (i1 ≤ s.size) ∧ s.size - i1 < fu1 ∧ F_spec_l1Stands_L1 s b fu1 i1 = c13) (fun (fu1, i1) => fu1) ((s.size - 0) + 1, 0) ⟨(by first | omega | (simp [-List.getD_eq_getElem?_getD] <;> omega)), (by omega), hc14⟩ ⟨rfl, rfl, rfl, trivial⟩ (fun w hw => hw) ?_
  rintro ⟨fu1, i1⟩ hJ1
  obtain ⟨hi1_0, hmu1, hL1⟩ : (i1 ≤ s.size) ∧ s.size - i1 < fu1 ∧ F_spec_l1Stands_L1 s b fu1 i1 = c13 := hJ1
  change TC _ _ _ _ (Hp w []) [(0, (.string s)), (1, (.int .u8 b)), (5, (.int .i64 (i1 : Int)))]
  obtain ⟨mf1, rfl⟩ : ∃ m, fu1 = m + 1 := ⟨fu1 - 1, by omega⟩
  rw [F_spec_l1Stands_L1_s] at hL1
  refine TC.seq ?_
  refine TC.seq ?_
  refine TC.region ?_
  refine TL.op (yq (y_move (ev_t rfl))) rfl rfl rfl ?_
  refine TL.op (yq (y_move (ev_t rfl))) rfl rfl rfl ?_
  refine TL.op (yq (y_slen (ev_t rfl) Try.underlying9)) rfl rfl rfl ?_
  refine TL.op (yq (y_lss (ev_t rfl) (ev_t rfl))) rfl rfl rfl ?_
  refine TL.nil ?_
  refine TN.seq ?_
  refine TC.cond (b := decide ((i1 : Int) < (s.size : Int))) (ev_t rfl) (fun h15 => ?_) (fun h15 => ?_)
  · rw [bif_pos h15] at hL1
    have q16 := (of_decide_eq_true h15)
    refine TC.skip ?_
    refine TN.seq ?_
    refine TC.seq ?_
    refine TC.block ?_
    refine TC.seq ?_
    refine TC.region ?_
    refine TL.op (yq (y_move (ev_t rfl))) rfl rfl rfl ?_
    refine TL.op (yq (y_move (ev_t rfl))) rfl rfl rfl ?_
    have hb17 : i1 < s.size := (by first | omega | (simp only [List.length_set, List.length_append, List.length_cons, List.length_nil, List.length_replicate]; omega) | (rw [sortI_length]; simp only [List.length_cons, List.length_nil]; omega))
    have hu18 := sAt_bd s i1
    refine TL.op (yq (y_sidx (k := i1) (ev_t rfl) (ev_t rfl) (by first | omega | simp) Try.underlying9 hb17)) rfl rfl rfl ?_
    refine TL.op (yq (y_move (ev_t rfl))) rfl rfl rfl ?_
    refine TL.op (yq (y_eql (ev_t rfl) (ev_t rfl))) rfl rfl rfl ?_
    refine TL.nil ?_
    refine TN.seq ?_
    refine TC.cond (b := decide ((sAt s i1) = b)) (ev_t rfl) (fun h19 => ?_) (fun h19 => ?_)
    · rw [bif_pos h19] at hL1
      have q20 := (of_decide_eq_true h19)
      refine TC.seq ?_
      refine TC.region ?_
      refine TL.op (yq (y_assign ev_c)) rfl rfl rfl ?_
      refine TL.nil ?_
      refine TN.seq ?_
      refine TC.ret ?_
      refine TN.blockR ?_
      refine TN.thenR ?_
      refine TN.thenR ?_
      rw [← hL1, elim_ret] at hF
      refine TN.blockR ?_
      refine TN.thenR ?_
      subst hF
      exact TN.ret1 rfl (ev_t rfl) (fun w' hw => ⟨rfl, hw⟩)
    · rw [bif_neg h19] at hL1
      have q20 := (of_decide_eq_false h19)
      refine TC.skip ?_
      refine TN.blockN ?_
      refine TN.seq ?_
      refine TC.region ?_
      refine TL.op (yq (y_move (ev_t rfl))) rfl rfl rfl ?_
      refine TL.op (yq (y_add (ev_t rfl) ev_c (by unfold In64; omega))) rfl rfl rfl ?_
      refine TL.op (yq (y_assign (ev_t rfl))) rfl rfl rfl ?_
      refine TL.nil ?_
      exact TN.hand (mf1, (i1 + 1)) ⟨(by first | omega | (simp [-List.getD_eq_getElem?_getD] <;> omega)), (by omega), hL1⟩ (Nat.lt_succ_self _) ⟨rfl, rfl, rfl, trivial⟩ (fun w hw => hw)
  · rw [bif_neg h15] at hL1
    have q16 := (of_decide_eq_false h15)
    refine TC.exit ?_
    refine TN.thenE ?_
    refine TN.thenE ?_
    rw [← hL1, elim_next] at hF
    try dsimp only at hF
    refine TN.blockH ?_
    refine TN.seq ?_
    refine TC.seq ?_
    refine TC.region ?_
    refine TL.op (yq (y_assign ev_c)) rfl rfl rfl ?_
    refine TL.nil ?_
    refine TN.seq ?_
    refine TC.ret ?_
    subst hF
    exact TN.ret1 rfl (ev_t rfl) (fun w' hw => ⟨rfl, hw⟩)

set_option maxRecDepth 4000 in
set_option maxHeartbeats 1000000 in
theorem spec_JoinStrings_ok (w : World) (vl : Value) (l : List ByteArray) (hl : Rd w vl 1 l.length (strs l)) (sign : ByteArray) (hp0 : l.length ≤ 100000) (hp1 : ∀ i, (l.getD i ByteArray.empty).size ≤ 100000) :
    Calls Try.prog 16 ([vl, (.string sign)] : List Value).toArray w (Ret (.tuple #[(.string ((F_spec_JoinStrings l sign).1)), (.bool ((F_spec_JoinStrings l sign).2))]) (Hp w [])) := by
  obtain ⟨rz, hF⟩ : ∃ rz, (F_spec_JoinStrings l sign) = rz := ⟨_, rfl⟩
  rw [hF]
  unfold F_spec_JoinStrings at hF
  have hlen_l := (hl).2.1
  refine calls_tc Try.func16 rfl rfl rfl ?_
  change TC _ _ _ _ (Hp w []) [(0, vl), (1, (.string sign))]
  refine TC.seq ?_
  refine TC.region ?_
  refine TL.op (yq (y_assign ev_c)) rfl rfl rfl ?_
  refine TL.op (yq (y_assign ev_c)) rfl rfl rfl ?_
  refine TL.nil ?_
  refine TN.seq ?_
  refine TC.seq ?_
  refine TC.seq ?_
  refine TC.region ?_
  refine TL.op (yq (y_move (ev_t rfl))) rfl rfl rfl ?_
  refine TL.op (yq (y_slen (ev_t rfl) Try.underlying9)) rfl rfl rfl ?_
  refine TL.op (yq (y_neq (ev_t rfl) ev_c)) rfl rfl rfl ?_
  refine TL.op (yq (y_move (ev_t rfl))) rfl rfl rfl ?_
  refine TL.opw (w_f rfl rfl rfl) (fun hg => yq (y_move (ev_t rfl))) rfl rfl ?_
  refine TL.opw (w_f rfl rfl rfl) (fun hg => yq (y_len (ev_g rfl hg) Try.underlying26 (fun w hw => ((rd_arg hl) w hw).ln))) rfl rfl ?_
  refine TL.opw (w_f rfl rfl rfl) (fun hg => yq (y_eql (ev_g rfl hg) ev_c)) rfl rfl ?_
  refine TL.op (yq (y_or (ev_t rfl) (fun hq => (ev_g rfl hq)))) rfl rfl rfl ?_
  refine TL.nil ?_
  refine TN.seq ?_
  refine TC.cond (b := ((!decide ((sign.size : Int) = 1)) || (decide ((l.length : Int) = 0)))) (ev_t rfl) (fun h33 => ?_) (fun h33 => ?_)
  · rw [bif_pos h33] at hF
    have q34 := ((or_t h33).imp (fun h => (of_decide_eq_false (not_t h))) (fun h => (of_decide_eq_true h)))
    refine TC.seq ?_
    refine TC.region ?_
    refine TL.op (yq (y_assign ev_c)) rfl rfl rfl ?_
    refine TL.op (yq (y_assign ev_c)) rfl rfl rfl ?_
    refine TL.nil ?_
    refine TN.seq ?_
    refine TC.ret ?_
    refine TN.thenR ?_
    subst hF
    exact TN.ret2 rfl (ev_t rfl) (ev_t rfl) (fun w' hw => ⟨rfl, hw⟩)
  · rw [bif_neg h33] at hF
    have q34 := (and_imp (or_f h33) (fun h => (of_decide_eq_true (not_f h))) (fun h => (of_decide_eq_false h)))
    refine TC.skip ?_
    refine TN.seq ?_
    refine TC.seq ?_
    refine TC.region ?_
    refine TL.op (yq (y_assign ev_c)) rfl rfl rfl ?_
    refine TL.nil ?_
    refine TN.seq ?_
    refine TC.seq ?_
    refine TC.seq ?_
    refine TC.region ?_
    refine TL.op (yq (y_assign ev_c)) rfl rfl rfl ?_
    refine TL.nil ?_
    refine TN.seq ?_
    refine TC.block ?_
    obtain ⟨c35, hc36⟩ : ∃ c, F_spec_JoinStrings_L1 l sign ((l.length - 0) + 1) ((ByteArray.mk #[]), 0) = c := ⟨_, rfl⟩
    rw [hc36] at hF
    refine TC.loop (ι := Nat × ByteArray × Nat) (fun (fu1, out1, i1) => [(0, vl), (1, (.string sign)), (6, (.string out1)), (7, (.int .i64 (i1 : Int)))]) (fun (fu1, out1, i1) => Hp w []) (fun (fu1, out1, i1) => (i1 ≤ l.length) ∧ (out1.size ≤ 4000) ∧ l.length - i1 < fu1 ∧ F_spec_JoinStrings_L1 l sign fu1 (out1, i1) = c35) (fun (fu1, out1, i1) => fu1) ((l.length - 0) + 1, (ByteArray.mk #[]), 0) ⟨(by first | omega | (simp [-List.getD_eq_getElem?_getD] <;> omega)), (Nat.zero_le _), (by omega), hc36⟩ ⟨rfl, rfl, rfl, rfl, trivial⟩ (fun w hw => hw) ?_
    rintro ⟨fu1, out1, i1⟩ hJ1
    obtain ⟨hi1_0, hi1_1, hmu1, hL1⟩ : (i1 ≤ l.length) ∧ (out1.size ≤ 4000) ∧ l.length - i1 < fu1 ∧ F_spec_JoinStrings_L1 l sign fu1 (out1, i1) = c35 := hJ1
    change TC _ _ _ _ (Hp w []) [(0, vl), (1, (.string sign)), (6, (.string out1)), (7, (.int .i64 (i1 : Int)))]
    obtain ⟨mf1, rfl⟩ : ∃ m, fu1 = m + 1 := ⟨fu1 - 1, by omega⟩
    rw [F_spec_JoinStrings_L1_s] at hL1
    have hz := hp1 i1
    have hsz1 := ba_app out1 sign
    have hsz2 := ba_app (out1 ++ sign) (l.getD i1 ByteArray.empty)
    have hsz3 := ba_app out1 (l.getD i1 ByteArray.empty)
    refine TC.seq ?_
    refine TC.seq ?_
    refine TC.region ?_
    refine TL.op (yq (y_move (ev_t rfl))) rfl rfl rfl ?_
    refine TL.op (yq (y_move (ev_t rfl))) rfl rfl rfl ?_
    refine TL.op (yq (y_len (ev_t rfl) Try.underlying26 (fun w hw => ((rd_arg hl) w hw).ln))) rfl rfl rfl ?_
    refine TL.op (yq (y_lss (ev_t rfl) (ev_t rfl))) rfl rfl rfl ?_
    refine TL.nil ?_
    refine TN.seq ?_
    refine TC.cond (b := decide ((i1 : Int) < (l.length : Int))) (ev_t rfl) (fun h37 => ?_) (fun h37 => ?_)
    · rw [bif_pos h37] at hL1
      have q38 := (of_decide_eq_true h37)
      refine TC.skip ?_
      refine TN.seq ?_
      refine TC.seq ?_
      refine TC.block ?_
      refine TC.seq ?_
      refine TC.seq ?_
      refine TC.regionQ (by kernel_rfl) (by kernel_rfl) dr_hp ?_
      refine TQ.op (yq (y_move (ev_t rfl))) rfl rfl rfl ?_
      refine TQ.op (yq (y_move (ev_t rfl))) rfl rfl rfl ?_
      have hb39 : i1 < l.length := (by first | omega | (simp only [List.length_set, List.length_append, List.length_cons, List.length_nil, List.length_replicate]; omega) | (rw [sortI_length]; simp only [List.length_cons, List.length_nil]; omega))
      refine TQ.op (yq (y_idx (k := i1) (ev_t rfl) (ev_t rfl) (by first | omega | simp) slT_26 (rd_arg hl) hb39)) rfl rfl rfl ?_
      refine TQ.op (yq (y_lds (ev_t rfl) one_9 (rd_arg hl) hb39)) rfl rfl rfl ?_
      refine TQ.op (yq (y_move (ev_t rfl))) rfl rfl rfl ?_
      have hb40 : 0 < sign.size := (by first | omega | (simp only [List.length_set, List.length_append, List.length_cons, List.length_nil, List.length_replicate]; omega) | (rw [sortI_length]; simp only [List.length_cons, List.length_nil]; omega))
      have hu41 := sAt_bd sign 0
      refine TQ.op (yq (y_sidx (k := 0) (ev_t rfl) ev_c (by first | omega | simp) Try.underlying9 hb40)) rfl rfl rfl ?_
      refine TQ.op (y_call (vs := [(.string (l.getD i1 ByteArray.empty)), (.int .u8 (sAt sign 0))]) (v := (.bool (F_spec_l1Stands (l.getD i1 ByteArray.empty) (sAt sign 0)))) en_69 ⟨(ev_t rfl), (ev_t rfl), trivial⟩ (fun w hw => spec_l1Stands_ok w (l.getD i1 ByteArray.empty) (sAt sign 0) (by first | assumption | omega | grind))) rfl rfl rfl ?_
      refine TQ.nil ?_
      refine TN.seq ?_
      refine TC.cond (b := (F_spec_l1Stands (l.getD i1 ByteArray.empty) (sAt sign 0))) (ev_t rfl) (fun h42 => ?_) (fun h42 => ?_)
      · rw [bif_pos h42] at hL1
        have q43 := h42
        refine TC.seq ?_
        refine TC.region ?_
        refine TL.op (yq (y_assign ev_c)) rfl rfl rfl ?_
        refine TL.op (yq (y_assign ev_c)) rfl rfl rfl ?_
        refine TL.nil ?_
        refine TN.seq ?_
        refine TC.ret ?_
        refine TN.thenR ?_
        refine TN.blockR ?_
        refine TN.thenR ?_
        refine TN.thenR ?_
        rw [← hL1, elim_ret] at hF
        refine TN.blockR ?_
        refine TN.thenR ?_
        subst hF
        exact TN.ret2 rfl (ev_t rfl) (ev_t rfl) (fun w' hw => ⟨rfl, hw⟩)
      · rw [bif_neg h42] at hL1
        have q43 := h42
        refine TC.skip ?_
        refine TN.seq ?_
        refine TC.seq ?_
        refine TC.seq ?_
        refine TC.region ?_
        refine TL.op (yq (y_move (ev_t rfl))) rfl rfl rfl ?_
        refine TL.op (yq (y_gtr (ev_t rfl) ev_c)) rfl rfl rfl ?_
        refine TL.nil ?_
        refine TN.seq ?_
        refine TC.cond (b := decide (0 < (i1 : Int))) (ev_t rfl) (fun h44 => ?_) (fun h44 => ?_)
        · rw [bif_pos h44] at hL1
          have q45 := (of_decide_eq_true h44)
          refine TC.region ?_
          refine TL.op (yq (y_move (ev_t rfl))) rfl rfl rfl ?_
          refine TL.op (yq (y_move (ev_t rfl))) rfl rfl rfl ?_
          refine TL.op (yq (y_sadd (ev_t rfl) (ev_t rfl) (by first | omega | (simp only [List.length_set, List.length_append, List.length_cons, List.length_nil, List.length_replicate]; omega) | (rw [sortI_length]; simp only [List.length_cons, List.length_nil]; omega)))) rfl rfl rfl ?_
          refine TL.op (yq (y_assign (ev_t rfl))) rfl rfl rfl ?_
          refine TL.nil ?_
          refine TN.seq ?_
          refine TC.seq ?_
          refine TC.region ?_
          refine TL.op (yq (y_move (ev_t rfl))) rfl rfl rfl ?_
          refine TL.op (yq (y_move (ev_t rfl))) rfl rfl rfl ?_
          refine TL.op (yq (y_move (ev_t rfl))) rfl rfl rfl ?_
          have hb46 : i1 < l.length := (by first | omega | (simp only [List.length_set, List.length_append, List.length_cons, List.length_nil, List.length_replicate]; omega) | (rw [sortI_length]; simp only [List.length_cons, List.length_nil]; omega))
          refine TL.op (yq (y_idx (k := i1) (ev_t rfl) (ev_t rfl) (by first | omega | simp) slT_26 (rd_arg hl) hb46)) rfl rfl rfl ?_
          refine TL.op (yq (y_lds (ev_t rfl) one_9 (rd_arg hl) hb46)) rfl rfl rfl ?_
          refine TL.op (yq (y_sadd (ev_t rfl) (ev_t rfl) (by first | omega | (simp only [List.length_set, List.length_append, List.length_cons, List.length_nil, List.length_replicate]; omega) | (rw [sortI_length]; simp only [List.length_cons, List.length_nil]; omega)))) rfl rfl rfl ?_
          refine TL.op (yq (y_assign (ev_t rfl))) rfl rfl rfl ?_
          refine TL.nil ?_
          refine TN.seq ?_
          refine TC.seq ?_
          refine TC.region ?_
          refine TL.op (yq (y_move (ev_t rfl))) rfl rfl rfl ?_
          refine TL.op (yq (y_slen (ev_t rfl) Try.underlying9)) rfl rfl rfl ?_
          refine TL.op (yq (y_gtr (ev_t rfl) ev_c)) rfl rfl rfl ?_
          refine TL.nil ?_
          refine TN.seq ?_
          refine TC.cond (b := decide (4000 < (((out1 ++ sign) ++ (l.getD i1 ByteArray.empty)).size : Int))) (ev_t rfl) (fun h47 => ?_) (fun h47 => ?_)
          · rw [bif_pos h47] at hL1
            have q48 := (of_decide_eq_true h47)
            refine TC.seq ?_
            refine TC.region ?_
            refine TL.op (yq (y_assign ev_c)) rfl rfl rfl ?_
            refine TL.op (yq (y_assign ev_c)) rfl rfl rfl ?_
            refine TL.nil ?_
            refine TN.seq ?_
            refine TC.ret ?_
            refine TN.blockR ?_
            refine TN.thenR ?_
            refine TN.thenR ?_
            rw [← hL1, elim_ret] at hF
            refine TN.blockR ?_
            refine TN.thenR ?_
            subst hF
            exact TN.ret2 rfl (ev_t rfl) (ev_t rfl) (fun w' hw => ⟨rfl, hw⟩)
          · rw [bif_neg h47] at hL1
            have q48 := (of_decide_eq_false h47)
            refine TC.skip ?_
            refine TN.blockN ?_
            refine TN.seq ?_
            refine TC.region ?_
            refine TL.op (yq (y_move (ev_t rfl))) rfl rfl rfl ?_
            refine TL.op (yq (y_add (ev_t rfl) ev_c (by unfold In64; omega))) rfl rfl rfl ?_
            refine TL.op (yq (y_assign (ev_t rfl))) rfl rfl rfl ?_
            refine TL.nil ?_
            exact TN.hand (mf1, (out1 ++ sign) ++ (l.getD i1 ByteArray.empty), (i1 + 1)) ⟨(by first | omega | (simp [-List.getD_eq_getElem?_getD] <;> omega)), (by first | omega | (simp [-List.getD_eq_getElem?_getD] <;> omega)), (by omega), hL1⟩ (Nat.lt_succ_self _) ⟨rfl, rfl, rfl, rfl, trivial⟩ (fun w hw => hw)
        · rw [bif_neg h44] at hL1
          have q45 := (of_decide_eq_false h44)
          refine TC.skip ?_
          refine TN.seq ?_
          refine TC.seq ?_
          refine TC.region ?_
          refine TL.op (yq (y_move (ev_t rfl))) rfl rfl rfl ?_
          refine TL.op (yq (y_move (ev_t rfl))) rfl rfl rfl ?_
          refine TL.op (yq (y_move (ev_t rfl))) rfl rfl rfl ?_
          have hb49 : i1 < l.length := (by first | omega | (simp only [List.length_set, List.length_append, List.length_cons, List.length_nil, List.length_replicate]; omega) | (rw [sortI_length]; simp only [List.length_cons, List.length_nil]; omega))
          refine TL.op (yq (y_idx (k := i1) (ev_t rfl) (ev_t rfl) (by first | omega | simp) slT_26 (rd_arg hl) hb49)) rfl rfl rfl ?_
          refine TL.op (yq (y_lds (ev_t rfl) one_9 (rd_arg hl) hb49)) rfl rfl rfl ?_
          refine TL.op (yq (y_sadd (ev_t rfl) (ev_t rfl) (by first | omega | (simp only [List.length_set, List.length_append, List.length_cons, List.length_nil, List.length_replicate]; omega) | (rw [sortI_length]; simp only [List.length_cons, List.length_nil]; omega)))) rfl rfl rfl ?_
          refine TL.op (yq (y_assign (ev_t rfl))) rfl rfl rfl ?_
          refine TL.nil ?_
          refine TN.seq ?_
          refine TC.seq ?_
          refine TC.region ?_
          refine TL.op (yq (y_move (ev_t rfl))) rfl rfl rfl ?_
          refine TL.op (yq (y_slen (ev_t rfl) Try.underlying9)) rfl rfl rfl ?_
          refine TL.op (yq (y_gtr (ev_t rfl) ev_c)) rfl rfl rfl ?_
          refine TL.nil ?_
          refine TN.seq ?_
          refine TC.cond (b := decide (4000 < ((out1 ++ (l.getD i1 ByteArray.empty)).size : Int))) (ev_t rfl) (fun h50 => ?_) (fun h50 => ?_)
          · rw [bif_pos h50] at hL1
            have q51 := (of_decide_eq_true h50)
            refine TC.seq ?_
            refine TC.region ?_
            refine TL.op (yq (y_assign ev_c)) rfl rfl rfl ?_
            refine TL.op (yq (y_assign ev_c)) rfl rfl rfl ?_
            refine TL.nil ?_
            refine TN.seq ?_
            refine TC.ret ?_
            refine TN.blockR ?_
            refine TN.thenR ?_
            refine TN.thenR ?_
            rw [← hL1, elim_ret] at hF
            refine TN.blockR ?_
            refine TN.thenR ?_
            subst hF
            exact TN.ret2 rfl (ev_t rfl) (ev_t rfl) (fun w' hw => ⟨rfl, hw⟩)
          · rw [bif_neg h50] at hL1
            have q51 := (of_decide_eq_false h50)
            refine TC.skip ?_
            refine TN.blockN ?_
            refine TN.seq ?_
            refine TC.region ?_
            refine TL.op (yq (y_move (ev_t rfl))) rfl rfl rfl ?_
            refine TL.op (yq (y_add (ev_t rfl) ev_c (by unfold In64; omega))) rfl rfl rfl ?_
            refine TL.op (yq (y_assign (ev_t rfl))) rfl rfl rfl ?_
            refine TL.nil ?_
            exact TN.hand (mf1, out1 ++ (l.getD i1 ByteArray.empty), (i1 + 1)) ⟨(by first | omega | (simp [-List.getD_eq_getElem?_getD] <;> omega)), (by first | omega | (simp [-List.getD_eq_getElem?_getD] <;> omega)), (by omega), hL1⟩ (Nat.lt_succ_self _) ⟨rfl, rfl, rfl, rfl, trivial⟩ (fun w hw => hw)
    · rw [bif_neg h37] at hL1
      have q38 := (of_decide_eq_false h37)
      refine TC.exit ?_
      refine TN.thenE ?_
      refine TN.thenE ?_
      rw [← hL1, elim_next] at hF
      try dsimp only at hF
      refine TN.blockH ?_
      refine TN.seq ?_
      refine TC.seq ?_
      refine TC.region ?_
      refine TL.op (yq (y_move (ev_t rfl))) rfl rfl rfl ?_
      refine TL.op (yq (y_assign (ev_t rfl))) rfl rfl rfl ?_
      refine TL.op (yq (y_assign ev_c)) rfl rfl rfl ?_
      refine TL.nil ?_
      refine TN.seq ?_
      refine TC.ret ?_
      subst hF
      exact TN.ret2 rfl (ev_t rfl) (ev_t rfl) (fun w' hw => ⟨rfl, hw⟩)

set_option maxRecDepth 4000 in
set_option maxHeartbeats 1000000 in
theorem impl_LessString_ok (w : World) (a : ByteArray) (b : ByteArray)  :
    Calls Try.prog 18 ([(.string a), (.string b)] : List Value).toArray w (Ret (.bool (F_impl_LessString a b)) (Hp w [])) := by
  obtain ⟨rz, hF⟩ : ∃ rz, (F_impl_LessString a b) = rz := ⟨_, rfl⟩
  rw [hF]
  unfold F_impl_LessString at hF
  refine calls_tc Try.func18 rfl rfl rfl ?_
  change TC _ _ _ _ (Hp w []) [(0, (.string a)), (1, (.string b))]
  refine TC.seq ?_
  refine TC.region ?_
  refine TL.op (yq (y_assign ev_c)) rfl rfl rfl ?_
  refine TL.nil ?_
  refine TN.seq ?_
  refine TC.seq ?_
  refine TC.region ?_
  refine TL.op (yq (y_move (ev_t rfl))) rfl rfl rfl ?_
  refine TL.op (yq (y_move (ev_t rfl))) rfl rfl rfl ?_
  refine TL.op (yq (y_slss (ev_t rfl) (ev_t rfl))) rfl rfl rfl ?_
  refine TL.op (yq (y_assign (ev_t rfl))) rfl rfl rfl ?_
  refine TL.nil ?_
  refine TN.seq ?_
  refine TC.ret ?_
  subst hF
  exact TN.ret1 rfl (ev_t rfl) (fun w' hw => ⟨rfl, hw⟩)

set_option maxRecDepth 4000 in
set_option maxHeartbeats 1000000 in
theorem spec_LessString_ok (w : World) (a : ByteArray) (b : ByteArray)  :
    Calls Try.prog 19 ([(.string a), (.string b)] : List Value).toArray w (Ret (.bool (F_spec_LessString a b)) (Hp w [])) := by
  obtain ⟨rz, hF⟩ : ∃ rz, (F_spec_LessString a b) = rz := ⟨_, rfl⟩
  rw [hF]
  unfold F_spec_LessString at hF
  refine calls_tc Try.func19 rfl rfl rfl ?_
  change TC _ _ _ _ (Hp w []) [(0, (.string a)), (1, (.string b))]
  refine TC.seq ?_
  refine TC.region ?_
  refine TL.op (yq (y_assign ev_c)) rfl rfl rfl ?_
  refine TL.nil ?_
  refine TN.seq ?_
  refine TC.seq ?_
  refine TC.region ?_
  refine TL.op (yq (y_move (ev_t rfl))) rfl rfl rfl ?_
  refine TL.op (yq (y_move (ev_t rfl))) rfl rfl rfl ?_
  refine TL.op (yq (y_slss (ev_t rfl) (ev_t rfl))) rfl rfl rfl ?_
  refine TL.op (yq (y_assign (ev_t rfl))) rfl rfl rfl ?_
  refine TL.nil ?_
  refine TN.seq ?_
  refine TC.ret ?_
  subst hF
  exact TN.ret1 rfl (ev_t rfl) (fun w' hw => ⟨rfl, hw⟩)

set_option maxRecDepth 4000 in
set_option maxHeartbeats 1000000 in
theorem spec_DrawSplitString_ok (w : World) (vcode : Value) (code : List Int) (hcode : RB w vcode code)  :
    Calls Try.prog 12 ([vcode] : List Value).toArray w (Ret (.tuple #[(.string ((F_spec_DrawSplitString code).1)), (.string ((F_spec_DrawSplitString code).2))]) (Hp w [])) := by
  obtain ⟨rz, hF⟩ : ∃ rz, (F_spec_DrawSplitString code) = rz := ⟨_, rfl⟩
  rw [hF]
  unfold F_spec_DrawSplitString at hF
  have hlen_code := argB_len hcode
  refine calls_tc Try.func12 rfl rfl rfl ?_
  change TC _ _ _ _ (Hp w []) [(0, vcode)]
  refine TC.seq ?_
  refine TC.region ?_
  refine TL.op (yq (y_assign ev_c)) rfl rfl rfl ?_
  refine TL.op (yq (y_assign ev_c)) rfl rfl rfl ?_
  refine TL.nil ?_
  refine TN.seq ?_
  refine TC.seq ?_
  refine TC.region ?_
  refine TL.op (yq (y_move (ev_t rfl))) rfl rfl rfl ?_
  refine TL.op (yq (y_bldC (ev_t rfl) bd_75_c (fun w hw => ((rd_arg hcode.1) w hw).ln))) rfl rfl rfl ?_
  refine TL.boxCur (ev_t rfl) (fun w hw => ((rd_arg hcode.1) w hw).ln) rfl (fun g1_2 => ?_)
  refine TL.op (yq (y_assign (ev_t rfl))) rfl rfl rfl ?_
  refine TL.nil ?_
  refine TN.seq ?_
  refine TC.seq ?_
  refine TC.region ?_
  refine TL.op (yq (y_move (ev_t rfl))) rfl rfl rfl ?_
  refine TL.callmX (ι := Unit) (p := (0 ≤ ((F_spec_l1Cur_any1 code 0 0).2).1 ∧ ((F_spec_l1Cur_any1 code 0 0).2).1 ≤ 0 + 2 ∧ 0 ≤ ((F_spec_l1Cur_any1 code 0 0).2).2 ∧ ((F_spec_l1Cur_any1 code 0 0).2).2 < 18446744073709551616)) 0 (vs := [(.pointer (some ⟨g1_2, 0, none⟩))]) (fun _ => (.string ((F_spec_l1Cur_any1 code 0 0).1))) (fun _ => .blk g1_2 75 [vcode, (.int .i64 (((F_spec_l1Cur_any1 code 0 0).2).1)), (.int .u64 (((F_spec_l1Cur_any1 code 0 0).2).2))]) (fun _ => []) en_62 ⟨(ev_t rfl), trivial⟩ rfl rfl (fun w1 _ hw => spec_l1Cur_any1_ok w w1 _ g1_2 vcode code hcode 0 0 hw (by first | assumption | omega | grind) (by first | assumption | omega | grind) (by first | assumption | omega | grind) (by first | assumption | omega | grind)) (fun hpo5 _ => ?_)
  obtain ⟨q2_1, hq6⟩ : ∃ q, (F_spec_l1Cur_any1 code 0 0) = q := ⟨_, rfl⟩
  rw [hq6] at hF hpo5 ⊢
  try dsimp only at hF
  refine TL.op (yq (y_assign (ev_t rfl))) rfl rfl rfl ?_
  refine TL.nil ?_
  refine TN.seq ?_
  refine TC.seq ?_
  refine TC.region ?_
  refine TL.op (yq (y_move (ev_t rfl))) rfl rfl rfl ?_
  refine TL.op (yq (y_move (ev_t rfl))) rfl rfl rfl ?_
  refine TL.buildS (zs := [.const (.string (ByteArray.mk #[44])), .const (.string (ByteArray.mk #[44])), .const (.string (ByteArray.mk #[32])), .const (.string (ByteArray.mk #[])), .const (.string (ByteArray.mk #[44, 44]))]) (qs := [(ByteArray.mk #[44]), (ByteArray.mk #[44]), (ByteArray.mk #[32]), (ByteArray.mk #[]), (ByteArray.mk #[44, 44])]) slT_26 rfl ⟨ev_c, ev_c, ev_c, ev_c, ev_c, trivial⟩ rfl (by decide) rfl (fun v3_2 => ?_)
  refine TL.callmX (ι := Unit) (p := ((q2_1.2).1 ≤ ((F_spec_l1Cur_of code ((q2_1.2).1) ((q2_1.2).2) ([(ByteArray.mk #[44]), (ByteArray.mk #[44]), (ByteArray.mk #[32]), (ByteArray.mk #[]), (ByteArray.mk #[44, 44])])).2).1 ∧ ((F_spec_l1Cur_of code ((q2_1.2).1) ((q2_1.2).2) ([(ByteArray.mk #[44]), (ByteArray.mk #[44]), (ByteArray.mk #[32]), (ByteArray.mk #[]), (ByteArray.mk #[44, 44])])).2).1 ≤ ((q2_1.2).1) + 2 ∧ 0 ≤ ((F_spec_l1Cur_of code ((q2_1.2).1) ((q2_1.2).2) ([(ByteArray.mk #[44]), (ByteArray.mk #[44]), (ByteArray.mk #[32]), (ByteArray.mk #[]), (ByteArray.mk #[44, 44])])).2).2 ∧ ((F_spec_l1Cur_of code ((q2_1.2).1) ((q2_1.2).2) ([(ByteArray.mk #[44]), (ByteArray.mk #[44]), (ByteArray.mk #[32]), (ByteArray.mk #[]), (ByteArray.mk #[44, 44])])).2).2 < 18446744073709551616)) 1 (vs := [(.pointer (some ⟨g1_2, 0, none⟩)), v3_2]) (fun _ => (.string ((F_spec_l1Cur_of code ((q2_1.2).1) ((q2_1.2).2) ([(ByteArray.mk #[44]), (ByteArray.mk #[44]), (ByteArray.mk #[32]), (ByteArray.mk #[]), (ByteArray.mk #[44, 44])])).1))) (fun _ => .blk g1_2 75 [vcode, (.int .i64 (((F_spec_l1Cur_of code ((q2_1.2).1) ((q2_1.2).2) ([(ByteArray.mk #[44]), (ByteArray.mk #[44]), (ByteArray.mk #[32]), (ByteArray.mk #[]), (ByteArray.mk #[44, 44])])).2).1)), (.int .u64 (((F_spec_l1Cur_of code ((q2_1.2).1) ((q2_1.2).2) ([(ByteArray.mk #[44]), (ByteArray.mk #[44]), (ByteArray.mk #[32]), (ByteArray.mk #[]), (ByteArray.mk #[44, 44])])).2).2))]) (fun _ => []) en_63 ⟨(ev_t rfl), (ev_t rfl), trivial⟩ rfl rfl (fun w1 _ hw => spec_l1Cur_of_ok w w1 _ g1_2 vcode code hcode ((q2_1.2).1) ((q2_1.2).2) hw v3_2 ([(ByteArray.mk #[44]), (ByteArray.mk #[44]), (ByteArray.mk #[32]), (ByteArray.mk #[]), (ByteArray.mk #[44, 44])]) (fun w2 _ hw2 => (rd_row 1 rfl) w2 hw2) (by first | assumption | omega | decide | grind) (by first | assumption | omega | decide | grind) (by first | assumption | omega | decide | grind) (by first | assumption | omega | decide | grind) (by first | assumption | omega | decide | grind) (by first | assumption | omega | decide | grind)) (fun hpo7 _ => ?_)
  obtain ⟨q3_3, hq8⟩ : ∃ q, (F_spec_l1Cur_of code ((q2_1.2).1) ((q2_1.2).2) ([(ByteArray.mk #[44]), (ByteArray.mk #[44]), (ByteArray.mk #[32]), (ByteArray.mk #[]), (ByteArray.mk #[44, 44])])) = q := ⟨_, rfl⟩
  rw [hq8] at hF hpo7 ⊢
  try dsimp only at hF
  refine TL.op (yq (y_assign (ev_t rfl))) rfl rfl rfl ?_
  refine TL.op (yq (y_assign (ev_t rfl))) rfl rfl rfl ?_
  refine TL.nil ?_
  refine TN.seq ?_
  refine TC.ret ?_
  subst hF
  exact TN.ret2 rfl (ev_t rfl) (ev_t rfl) (fun w' hw => ⟨rfl, Hp.sublist hw (List.nil_sublist _)⟩)

set_option maxRecDepth 4000 in
set_option maxHeartbeats 1000000 in
theorem spec_DrawJoinStrings_ok (w : World) (vcode : Value) (code : List Int) (hcode : RB w vcode code)  :
    Calls Try.prog 14 ([vcode] : List Value).toArray w (fun e w' => ∃ i : Value, e = .returned (.tuple #[i, (.string ((F_spec_DrawJoinStrings code).2))]) ∧ Hp w [rowS 9 i ((F_spec_DrawJoinStrings code).1)] w') := by
  obtain ⟨rz, hF⟩ : ∃ rz, (F_spec_DrawJoinStrings code) = rz := ⟨_, rfl⟩
  rw [hF]
  unfold F_spec_DrawJoinStrings at hF
  have hlen_code := argB_len hcode
  refine calls_tc Try.func14 rfl rfl rfl ?_
  change TC _ _ _ _ (Hp w []) [(0, vcode)]
  refine TC.seq ?_
  refine TC.region ?_
  refine TL.op (yq (y_assign ev_c)) rfl rfl rfl ?_
  refine TL.op (yq (y_assign ev_c)) rfl rfl rfl ?_
  refine TL.nil ?_
  refine TN.seq ?_
  refine TC.seq ?_
  refine TC.region ?_
  refine TL.op (yq (y_move (ev_t rfl))) rfl rfl rfl ?_
  refine TL.op (yq (y_bldC (ev_t rfl) bd_75_c (fun w hw => ((rd_arg hcode.1) w hw).ln))) rfl rfl rfl ?_
  refine TL.boxCur (ev_t rfl) (fun w hw => ((rd_arg hcode.1) w hw).ln) rfl (fun g1_2 => ?_)
  refine TL.op (yq (y_assign (ev_t rfl))) rfl rfl rfl ?_
  refine TL.nil ?_
  refine TN.seq ?_
  refine TC.seq ?_
  refine TC.region ?_
  refine TL.buildS (zs := []) (qs := []) slT_26 rfl trivial rfl (by decide) rfl (fun v2_0 => ?_)
  refine TL.op (yq (y_assign (ev_t rfl))) rfl rfl rfl ?_
  refine TL.nil ?_
  refine TN.seq ?_
  refine TC.seq ?_
  refine TC.region ?_
  refine TL.op (yq (y_move (ev_t rfl))) rfl rfl rfl ?_
  refine TL.callmX (ι := Unit) (p := True) 1 (vs := [(.pointer (some ⟨g1_2, 0, none⟩)), (.int .i64 4)]) (fun _ => (.int .i64 ((F_spec_l1Cur_pick code 0 0 4).1))) (fun _ => .blk g1_2 75 [vcode, (.int .i64 (((F_spec_l1Cur_pick code 0 0 4).2).1)), (.int .u64 (((F_spec_l1Cur_pick code 0 0 4).2).2))]) (fun _ => []) en_65 ⟨(ev_t rfl), ev_c, trivial⟩ rfl rfl (fun w1 _ hw => spec_l1Cur_pick_ok w w1 _ g1_2 vcode code hcode 0 0 hw 4 (by first | assumption | omega | grind) (by first | assumption | omega | grind) (by first | assumption | omega | grind) (by first | assumption | omega | grind)) (fun hpo25 _ => ?_)
  replace hpo25 := pick_post hcode.2 code 0 0 4 (by omega)
  obtain ⟨q3_1, hq26⟩ : ∃ q, (F_spec_l1Cur_pick code 0 0 4) = q := ⟨_, rfl⟩
  rw [hq26] at hF hpo25 ⊢
  try dsimp only at hF
  refine TL.op (yq (y_assign (ev_t rfl))) rfl rfl rfl ?_
  refine TL.nil ?_
  refine TN.seq ?_
  refine TC.seq ?_
  refine TC.seq ?_
  refine TC.region ?_
  refine TL.op (yq (y_assign ev_c)) rfl rfl rfl ?_
  refine TL.nil ?_
  refine TN.seq ?_
  refine TC.block ?_
  obtain ⟨c27, hc28⟩ : ∃ c, F_spec_DrawJoinStrings_L1 code q3_1 ((((q3_1.1).toNat) - 0) + 1) (([] : List ByteArray), 0, ((q3_1.2).1), ((q3_1.2).2)) = c := ⟨_, rfl⟩
  rw [hc28] at hF
  refine TC.loop (ι := Nat × List ByteArray × Nat × Int × Int × Value) (fun (fu1, l1, i1, zg1_2_1_1, zg1_2_2_1, vl1) => [(4, (.pointer (some ⟨g1_2, 0, none⟩))), (5, vl1), (6, (.int .i64 q3_1.1)), (7, (.int .i64 (i1 : Int)))]) (fun (fu1, l1, i1, zg1_2_1_1, zg1_2_2_1, vl1) => Hp w [rowS 9 vl1 l1, .blk g1_2 75 [vcode, (.int .i64 zg1_2_1_1), (.int .u64 zg1_2_2_1)]]) (fun (fu1, l1, i1, zg1_2_1_1, zg1_2_2_1, vl1) => (i1 ≤ ((q3_1.1).toNat)) ∧ (0 ≤ zg1_2_1_1) ∧ (zg1_2_1_1 ≤ 4 + 4 * i1) ∧ (0 ≤ zg1_2_2_1) ∧ (zg1_2_2_1 < 18446744073709551616) ∧ (l1.length = i1) ∧ (i1 ≤ 4) ∧ ((q3_1.1).toNat) - i1 < fu1 ∧ F_spec_DrawJoinStrings_L1 code q3_1 fu1 (l1, i1, zg1_2_1_1, zg1_2_2_1) = c27) (fun (fu1, l1, i1, zg1_2_1_1, zg1_2_2_1, vl1) => fu1) ((((q3_1.1).toNat) - 0) + 1, ([] : List ByteArray), 0, (q3_1.2).1, (q3_1.2).2, v2_0) ⟨(by first | omega | (simp [-List.getD_eq_getElem?_getD] <;> omega)), (by first | omega | (simp [-List.getD_eq_getElem?_getD] <;> omega)), (by first | omega | (simp [-List.getD_eq_getElem?_getD] <;> omega)), (by first | omega | (simp [-List.getD_eq_getElem?_getD] <;> omega)), (by first | omega | (simp [-List.getD_eq_getElem?_getD] <;> omega)), (by first | omega | (simp [-List.getD_eq_getElem?_getD] <;> omega)), (by first | omega | (simp [-List.getD_eq_getElem?_getD] <;> omega)), (by omega), hc28⟩ ⟨rfl, rfl, rfl, rfl, trivial⟩ (fun w hw => hw) ?_
  rintro ⟨fu1, l1, i1, zg1_2_1_1, zg1_2_2_1, vl1⟩ hJ1
  obtain ⟨hi1_0, hi1_1, hi1_2, hi1_3, hi1_4, hi1_5, hi1_6, hmu1, hL1⟩ : (i1 ≤ ((q3_1.1).toNat)) ∧ (0 ≤ zg1_2_1_1) ∧ (zg1_2_1_1 ≤ 4 + 4 * i1) ∧ (0 ≤ zg1_2_2_1) ∧ (zg1_2_2_1 < 18446744073709551616) ∧ (l1.length = i1) ∧ (i1 ≤ 4) ∧ ((q3_1.1).toNat) - i1 < fu1 ∧ F_spec_DrawJoinStrings_L1 code q3_1 fu1 (l1, i1, zg1_2_1_1, zg1_2_2_1) = c27 := hJ1
  change TC _ _ _ _ (Hp w [rowS 9 vl1 l1, .blk g1_2 75 [vcode, (.int .i64 zg1_2_1_1), (.int .u64 zg1_2_2_1)]]) [(4, (.pointer (some ⟨g1_2, 0, none⟩))), (5, vl1), (6, (.int .i64 q3_1.1)), (7, (.int .i64 (i1 : Int)))]
  obtain ⟨mf1, rfl⟩ : ∃ m, fu1 = m + 1 := ⟨fu1 - 1, by omega⟩
  rw [F_spec_DrawJoinStrings_L1_s] at hL1
  refine TC.seq ?_
  refine TC.seq ?_
  refine TC.region ?_
  refine TL.op (yq (y_move (ev_t rfl))) rfl rfl rfl ?_
  refine TL.op (yq (y_move (ev_t rfl))) rfl rfl rfl ?_
  refine TL.op (yq (y_lss (ev_t rfl) (ev_t rfl))) rfl rfl rfl ?_
  refine TL.nil ?_
  refine TN.seq ?_
  refine TC.cond (b := decide ((i1 : Int) < q3_1.1)) (ev_t rfl) (fun h29 => ?_) (fun h29 => ?_)
  · rw [bif_pos h29] at hL1
    have q30 := (of_decide_eq_true h29)
    refine TC.skip ?_
    refine TN.seq ?_
    refine TC.seq ?_
    refine TC.block ?_
    refine TC.region ?_
    refine TL.op (yq (y_move (ev_t rfl))) rfl rfl rfl ?_
    refine TL.op (yq (y_move (ev_t rfl))) rfl rfl rfl ?_
    refine TL.callmX (ι := Unit) (p := (zg1_2_1_1 ≤ ((F_spec_l1Cur_any1 code zg1_2_1_1 zg1_2_2_1).2).1 ∧ ((F_spec_l1Cur_any1 code zg1_2_1_1 zg1_2_2_1).2).1 ≤ zg1_2_1_1 + 2 ∧ 0 ≤ ((F_spec_l1Cur_any1 code zg1_2_1_1 zg1_2_2_1).2).2 ∧ ((F_spec_l1Cur_any1 code zg1_2_1_1 zg1_2_2_1).2).2 < 18446744073709551616)) 1 (vs := [(.pointer (some ⟨g1_2, 0, none⟩))]) (fun _ => (.string ((F_spec_l1Cur_any1 code zg1_2_1_1 zg1_2_2_1).1))) (fun _ => .blk g1_2 75 [vcode, (.int .i64 (((F_spec_l1Cur_any1 code zg1_2_1_1 zg1_2_2_1).2).1)), (.int .u64 (((F_spec_l1Cur_any1 code zg1_2_1_1 zg1_2_2_1).2).2))]) (fun _ => []) en_62 ⟨(ev_t rfl), trivial⟩ rfl rfl (fun w1 _ hw => spec_l1Cur_any1_ok w w1 _ g1_2 vcode code hcode zg1_2_1_1 zg1_2_2_1 hw (by first | assumption | omega | grind) (by first | assumption | omega | grind) (by first | assumption | omega | grind) (by first | assumption | omega | grind)) (fun hpo31 _ => ?_)
    obtain ⟨q7_2, hq32⟩ : ∃ q, (F_spec_l1Cur_any1 code zg1_2_1_1 zg1_2_2_1) = q := ⟨_, rfl⟩
    rw [hq32] at hL1 hpo31 ⊢
    try dsimp only at hL1
    refine TL.buildS (zs := [.tmp 21]) (qs := [q7_2.1]) slT_26 rfl ⟨(ev_t rfl), trivial⟩ rfl (by decide) rfl (fun v7_3 => ?_)
    refine TL.appendS 1 (ev_t rfl) (ev_t rfl) rfl slT_26 (rd_row 0 rfl) (by first | omega | (simp [-List.getD_eq_getElem?_getD] <;> omega)) rfl (fun v7_4 => ?_)
    refine TL.op (yq (y_assign (ev_t rfl))) rfl rfl rfl ?_
    refine TL.nil ?_
    refine TN.blockN ?_
    refine TN.seq ?_
    refine TC.region ?_
    refine TL.op (yq (y_move (ev_t rfl))) rfl rfl rfl ?_
    refine TL.op (yq (y_add (ev_t rfl) ev_c (by unfold In64; omega))) rfl rfl rfl ?_
    refine TL.op (yq (y_assign (ev_t rfl))) rfl rfl rfl ?_
    refine TL.nil ?_
    exact TN.hand (mf1, (l1 ++ ([q7_2.1])), (i1 + 1), (q7_2.2).1, (q7_2.2).2, v7_4) ⟨(by first | omega | (simp [-List.getD_eq_getElem?_getD] <;> omega)), (by first | omega | (simp [-List.getD_eq_getElem?_getD] <;> omega)), (by first | omega | (simp [-List.getD_eq_getElem?_getD] <;> omega)), (by first | omega | (simp [-List.getD_eq_getElem?_getD] <;> omega)), (by first | omega | (simp [-List.getD_eq_getElem?_getD] <;> omega)), (by first | omega | (simp [-List.getD_eq_getElem?_getD] <;> omega)), (by first | omega | (simp [-List.getD_eq_getElem?_getD] <;> omega)), (by omega), hL1⟩ (Nat.lt_succ_self _) ⟨rfl, rfl, rfl, rfl, trivial⟩ (fun w hw => Hp.sublist hw (.cons _ (.cons_cons _ (.cons_cons _ .slnil))))
  · rw [bif_neg h29] at hL1
    have q30 := (of_decide_eq_false h29)
    refine TC.exit ?_
    refine TN.thenE ?_
    refine TN.thenE ?_
    rw [← hL1, elim_next] at hF
    try dsimp only at hF
    refine TN.blockH ?_
    refine TN.seq ?_
    refine TC.seq ?_
    refine TC.seq ?_
    refine TC.region ?_
    refine TL.op (yq (y_move (ev_t rfl))) rfl rfl rfl ?_
    refine TL.callmX (ι := Unit) (p := True) 1 (vs := [(.pointer (some ⟨g1_2, 0, none⟩)), (.int .i64 20)]) (fun _ => (.bool ((F_spec_l1Cur_one code zg1_2_1_1 zg1_2_2_1 20).1))) (fun _ => .blk g1_2 75 [vcode, (.int .i64 (((F_spec_l1Cur_one code zg1_2_1_1 zg1_2_2_1 20).2).1)), (.int .u64 (((F_spec_l1Cur_one code zg1_2_1_1 zg1_2_2_1 20).2).2))]) (fun _ => []) en_66 ⟨(ev_t rfl), ev_c, trivial⟩ rfl rfl (fun w1 _ hw => spec_l1Cur_one_ok w w1 _ g1_2 vcode code hcode zg1_2_1_1 zg1_2_2_1 hw 20 (by first | assumption | omega | grind) (by first | assumption | omega | grind) (by first | assumption | omega | grind) (by first | assumption | omega | grind)) (fun hpo33 _ => ?_)
    replace hpo33 := one_post hcode.2 code zg1_2_1_1 zg1_2_2_1 20 (by omega)
    obtain ⟨q8_1, hq34⟩ : ∃ q, (F_spec_l1Cur_one code zg1_2_1_1 zg1_2_2_1 20) = q := ⟨_, rfl⟩
    rw [hq34] at hF hpo33 ⊢
    try dsimp only at hF
    refine TL.nil ?_
    refine TN.seq ?_
    refine TC.cond (b := q8_1.1) (ev_t rfl) (fun h35 => ?_) (fun h35 => ?_)
    · rw [bif_pos h35] at hF
      have q36 := h35
      refine TC.region ?_
      refine TL.op (yq (y_move (ev_t rfl))) rfl rfl rfl ?_
      refine TL.op (yq (y_move (ev_t rfl))) rfl rfl rfl ?_
      refine TL.callmX (ι := Unit) (p := True) 1 (vs := [(.pointer (some ⟨g1_2, 0, none⟩)), (.int .i64 20)]) (fun _ => (.int .i64 ((F_spec_l1Cur_pick code ((q8_1.2).1) ((q8_1.2).2) 20).1))) (fun _ => .blk g1_2 75 [vcode, (.int .i64 (((F_spec_l1Cur_pick code ((q8_1.2).1) ((q8_1.2).2) 20).2).1)), (.int .u64 (((F_spec_l1Cur_pick code ((q8_1.2).1) ((q8_1.2).2) 20).2).2))]) (fun _ => []) en_65 ⟨(ev_t rfl), ev_c, trivial⟩ rfl rfl (fun w1 _ hw => spec_l1Cur_pick_ok w w1 _ g1_2 vcode code hcode ((q8_1.2).1) ((q8_1.2).2) hw 20 (by first | assumption | omega | grind) (by first | assumption | omega | grind) (by first | assumption | omega | grind) (by first | assumption | omega | grind)) (fun hpo37 _ => ?_)
      replace hpo37 := pick_post hcode.2 code ((q8_1.2).1) ((q8_1.2).2) 20 (by omega)
      obtain ⟨q9_2, hq38⟩ : ∃ q, (F_spec_l1Cur_pick code ((q8_1.2).1) ((q8_1.2).2) 20) = q := ⟨_, rfl⟩
      rw [hq38] at hF hpo37 ⊢
      try dsimp only at hF
      refine TL.op (yq (y_add ev_c (ev_t rfl) (by unfold In64; omega))) rfl rfl rfl ?_
      refine TL.makeSlice (n := (Int.toNat (3990 + q9_2.1))) (ev_t rfl) (ev_t rfl) (by omega) slT_22 rfl (by omega) (by unfold maxLen; omega) rfl (fun v9_4 => ?_)
      refine TL.op (yq (y_zeros 0 (ev_t rfl) rfl (by omega) Try.underlying22 Try.underlying5 Try.underlying9)) rfl rfl rfl ?_
      refine TL.buildS (zs := [.tmp 31]) (qs := [(zeros (Int.toNat (3990 + q9_2.1)))]) slT_26 rfl ⟨(ev_t rfl), trivial⟩ rfl (by decide) rfl (fun v9_6 => ?_)
      refine TL.appendS 2 (ev_t rfl) (ev_t rfl) rfl slT_26 (rd_row 0 rfl) (by first | omega | (simp [-List.getD_eq_getElem?_getD] <;> omega)) rfl (fun v9_7 => ?_)
      refine TL.op (yq (y_assign (ev_t rfl))) rfl rfl rfl ?_
      refine TL.nil ?_
      refine TN.seq ?_
      refine TC.seq ?_
      refine TC.region ?_
      refine TL.op (yq (y_move (ev_t rfl))) rfl rfl rfl ?_
      refine TL.op (yq (y_move (ev_t rfl))) rfl rfl rfl ?_
      refine TL.buildS (zs := [.const (.string (ByteArray.mk #[44])), .const (.string (ByteArray.mk #[59])), .const (.string (ByteArray.mk #[59])), .const (.string (ByteArray.mk #[])), .const (.string (ByteArray.mk #[97, 98]))]) (qs := [(ByteArray.mk #[44]), (ByteArray.mk #[59]), (ByteArray.mk #[59]), (ByteArray.mk #[]), (ByteArray.mk #[97, 98])]) slT_26 rfl ⟨ev_c, ev_c, ev_c, ev_c, ev_c, trivial⟩ rfl (by decide) rfl (fun v10_2 => ?_)
      refine TL.callmX (ι := Unit) (p := ((q9_2.2).1 ≤ ((F_spec_l1Cur_of code ((q9_2.2).1) ((q9_2.2).2) ([(ByteArray.mk #[44]), (ByteArray.mk #[59]), (ByteArray.mk #[59]), (ByteArray.mk #[]), (ByteArray.mk #[97, 98])])).2).1 ∧ ((F_spec_l1Cur_of code ((q9_2.2).1) ((q9_2.2).2) ([(ByteArray.mk #[44]), (ByteArray.mk #[59]), (ByteArray.mk #[59]), (ByteArray.mk #[]), (ByteArray.mk #[97, 98])])).2).1 ≤ ((q9_2.2).1) + 2 ∧ 0 ≤ ((F_spec_l1Cur_of code ((q9_2.2).1) ((q9_2.2).2) ([(ByteArray.mk #[44]), (ByteArray.mk #[59]), (ByteArray.mk #[59]), (ByteArray.mk #[]), (ByteArray.mk #[97, 98])])).2).2 ∧ ((F_spec_l1Cur_of code ((q9_2.2).1) ((q9_2.2).2) ([(ByteArray.mk #[44]), (ByteArray.mk #[59]), (ByteArray.mk #[59]), (ByteArray.mk #[]), (ByteArray.mk #[97, 98])])).2).2 < 18446744073709551616)) 4 (vs := [(.pointer (some ⟨g1_2, 0, none⟩)), v10_2]) (fun _ => (.string ((F_spec_l1Cur_of code ((q9_2.2).1) ((q9_2.2).2) ([(ByteArray.mk #[44]), (ByteArray.mk #[59]), (ByteArray.mk #[59]), (ByteArray.mk #[]), (ByteArray.mk #[97, 98])])).1))) (fun _ => .blk g1_2 75 [vcode, (.int .i64 (((F_spec_l1Cur_of code ((q9_2.2).1) ((q9_2.2).2) ([(ByteArray.mk #[44]), (ByteArray.mk #[59]), (ByteArray.mk #[59]), (ByteArray.mk #[]), (ByteArray.mk #[97, 98])])).2).1)), (.int .u64 (((F_spec_l1Cur_of code ((q9_2.2).1) ((q9_2.2).2) ([(ByteArray.mk #[44]), (ByteArray.mk #[59]), (ByteArray.mk #[59]), (ByteArray.mk #[]), (ByteArray.mk #[97, 98])])).2).2))]) (fun _ => []) en_63 ⟨(ev_t rfl), (ev_t rfl), trivial⟩ rfl rfl (fun w1 _ hw => spec_l1Cur_of_ok w w1 _ g1_2 vcode code hcode ((q9_2.2).1) ((q9_2.2).2) hw v10_2 ([(ByteArray.mk #[44]), (ByteArray.mk #[59]), (ByteArray.mk #[59]), (ByteArray.mk #[]), (ByteArray.mk #[97, 98])]) (fun w2 _ hw2 => (rd_row 1 rfl) w2 hw2) (by first | assumption | omega | decide | grind) (by first | assumption | omega | decide | grind) (by first | assumption | omega | decide | grind) (by first | assumption | omega | decide | grind) (by first | assumption | omega | decide | grind) (by first | assumption | omega | decide | grind)) (fun hpo39 _ => ?_)
      obtain ⟨q10_3, hq40⟩ : ∃ q, (F_spec_l1Cur_of code ((q9_2.2).1) ((q9_2.2).2) ([(ByteArray.mk #[44]), (ByteArray.mk #[59]), (ByteArray.mk #[59]), (ByteArray.mk #[]), (ByteArray.mk #[97, 98])])) = q := ⟨_, rfl⟩
      rw [hq40] at hF hpo39 ⊢
      try dsimp only at hF
      refine TL.op (yq (y_assign (ev_t rfl))) rfl rfl rfl ?_
      refine TL.op (yq (y_assign (ev_t rfl))) rfl rfl rfl ?_
      refine TL.nil ?_
      refine TN.seq ?_
      refine TC.ret ?_
      subst hF
      exact TN.ret2 rfl (ev_t rfl) (ev_t rfl) (fun w' hw => ⟨v9_7, rfl, Hp.sublist hw (.cons _ (.cons _ (.cons _ (.cons_cons _ (.cons _ .slnil)))))⟩)
    · rw [bif_neg h35] at hF
      have q36 := h35
      refine TC.skip ?_
      refine TN.seq ?_
      refine TC.seq ?_
      refine TC.region ?_
      refine TL.op (yq (y_move (ev_t rfl))) rfl rfl rfl ?_
      refine TL.op (yq (y_move (ev_t rfl))) rfl rfl rfl ?_
      refine TL.buildS (zs := [.const (.string (ByteArray.mk #[44])), .const (.string (ByteArray.mk #[59])), .const (.string (ByteArray.mk #[59])), .const (.string (ByteArray.mk #[])), .const (.string (ByteArray.mk #[97, 98]))]) (qs := [(ByteArray.mk #[44]), (ByteArray.mk #[59]), (ByteArray.mk #[59]), (ByteArray.mk #[]), (ByteArray.mk #[97, 98])]) slT_26 rfl ⟨ev_c, ev_c, ev_c, ev_c, ev_c, trivial⟩ rfl (by decide) rfl (fun v10_2 => ?_)
      refine TL.callmX (ι := Unit) (p := ((q8_1.2).1 ≤ ((F_spec_l1Cur_of code ((q8_1.2).1) ((q8_1.2).2) ([(ByteArray.mk #[44]), (ByteArray.mk #[59]), (ByteArray.mk #[59]), (ByteArray.mk #[]), (ByteArray.mk #[97, 98])])).2).1 ∧ ((F_spec_l1Cur_of code ((q8_1.2).1) ((q8_1.2).2) ([(ByteArray.mk #[44]), (ByteArray.mk #[59]), (ByteArray.mk #[59]), (ByteArray.mk #[]), (ByteArray.mk #[97, 98])])).2).1 ≤ ((q8_1.2).1) + 2 ∧ 0 ≤ ((F_spec_l1Cur_of code ((q8_1.2).1) ((q8_1.2).2) ([(ByteArray.mk #[44]), (ByteArray.mk #[59]), (ByteArray.mk #[59]), (ByteArray.mk #[]), (ByteArray.mk #[97, 98])])).2).2 ∧ ((F_spec_l1Cur_of code ((q8_1.2).1) ((q8_1.2).2) ([(ByteArray.mk #[44]), (ByteArray.mk #[59]), (ByteArray.mk #[59]), (ByteArray.mk #[]), (ByteArray.mk #[97, 98])])).2).2 < 18446744073709551616)) 2 (vs := [(.pointer (some ⟨g1_2, 0, none⟩)), v10_2]) (fun _ => (.string ((F_spec_l1Cur_of code ((q8_1.2).1) ((q8_1.2).2) ([(ByteArray.mk #[44]), (ByteArray.mk #[59]), (ByteArray.mk #[59]), (ByteArray.mk #[]), (ByteArray.mk #[97, 98])])).1))) (fun _ => .blk g1_2 75 [vcode, (.int .i64 (((F_spec_l1Cur_of code ((q8_1.2).1) ((q8_1.2).2) ([(ByteArray.mk #[44]), (ByteArray.mk #[59]), (ByteArray.mk #[59]), (ByteArray.mk #[]), (ByteArray.mk #[97, 98])])).2).1)), (.int .u64 (((F_spec_l1Cur_of code ((q8_1.2).1) ((q8_1.2).2) ([(ByteArray.mk #[44]), (ByteArray.mk #[59]), (ByteArray.mk #[59]), (ByteArray.mk #[]), (ByteArray.mk #[97, 98])])).2).2))]) (fun _ => []) en_63 ⟨(ev_t rfl), (ev_t rfl), trivial⟩ rfl rfl (fun w1 _ hw => spec_l1Cur_of_ok w w1 _ g1_2 vcode code hcode ((q8_1.2).1) ((q8_1.2).2) hw v10_2 ([(ByteArray.mk #[44]), (ByteArray.mk #[59]), (ByteArray.mk #[59]), (ByteArray.mk #[]), (ByteArray.mk #[97, 98])]) (fun w2 _ hw2 => (rd_row 1 rfl) w2 hw2) (by first | assumption | omega | decide | grind) (by first | assumption | omega | decide | grind) (by first | assumption | omega | decide | grind) (by first | assumption | omega | decide | grind) (by first | assumption | omega | decide | grind) (by first | assumption | omega | decide | grind)) (fun hpo41 _ => ?_)
      obtain ⟨q10_3, hq42⟩ : ∃ q, (F_spec_l1Cur_of code ((q8_1.2).1) ((q8_1.2).2) ([(ByteArray.mk #[44]), (ByteArray.mk #[59]), (ByteArray.mk #[59]), (ByteArray.mk #[]), (ByteArray.mk #[97, 98])])) = q := ⟨_, rfl⟩
      rw [hq42] at hF hpo41 ⊢
      try dsimp only at hF
      refine TL.op (yq (y_assign (ev_t rfl))) rfl rfl rfl ?_
      refine TL.op (yq (y_assign (ev_t rfl))) rfl rfl rfl ?_
      refine TL.nil ?_
      refine TN.seq ?_
      refine TC.ret ?_
      subst hF
      exact TN.ret2 rfl (ev_t rfl) (ev_t rfl) (fun w' hw => ⟨vl1, rfl, Hp.sublist hw (.cons _ (.cons_cons _ (.cons _ .slnil)))⟩)

set_option maxRecDepth 4000 in
set_option maxHeartbeats 1000000 in
theorem spec_DrawLessString_ok (w : World) (vcode : Value) (code : List Int) (hcode : RB w vcode code)  :
    Calls Try.prog 17 ([vcode] : List Value).toArray w (Ret (.tuple #[(.string ((F_spec_DrawLessString code).1)), (.string ((F_spec_DrawLessString code).2))]) (Hp w [])) := by
  obtain ⟨rz, hF⟩ : ∃ rz, (F_spec_DrawLessString code) = rz := ⟨_, rfl⟩
  rw [hF]
  unfold F_spec_DrawLessString at hF
  have hlen_code := argB_len hcode
  refine calls_tc Try.func17 rfl rfl rfl ?_
  change TC _ _ _ _ (Hp w []) [(0, vcode)]
  refine TC.seq ?_
  refine TC.region ?_
  refine TL.op (yq (y_assign ev_c)) rfl rfl rfl ?_
  refine TL.op (yq (y_assign ev_c)) rfl rfl rfl ?_
  refine TL.nil ?_
  refine TN.seq ?_
  refine TC.seq ?_
  refine TC.region ?_
  refine TL.op (yq (y_move (ev_t rfl))) rfl rfl rfl ?_
  refine TL.op (yq (y_bldC (ev_t rfl) bd_75_c (fun w hw => ((rd_arg hcode.1) w hw).ln))) rfl rfl rfl ?_
  refine TL.boxCur (ev_t rfl) (fun w hw => ((rd_arg hcode.1) w hw).ln) rfl (fun g1_2 => ?_)
  refine TL.op (yq (y_assign (ev_t rfl))) rfl rfl rfl ?_
  refine TL.nil ?_
  refine TN.seq ?_
  refine TC.seq ?_
  refine TC.region ?_
  refine TL.op (yq (y_move (ev_t rfl))) rfl rfl rfl ?_
  refine TL.callmX (ι := Unit) (p := (0 ≤ ((F_spec_l1Cur_any1 code 0 0).2).1 ∧ ((F_spec_l1Cur_any1 code 0 0).2).1 ≤ 0 + 2 ∧ 0 ≤ ((F_spec_l1Cur_any1 code 0 0).2).2 ∧ ((F_spec_l1Cur_any1 code 0 0).2).2 < 18446744073709551616)) 0 (vs := [(.pointer (some ⟨g1_2, 0, none⟩))]) (fun _ => (.string ((F_spec_l1Cur_any1 code 0 0).1))) (fun _ => .blk g1_2 75 [vcode, (.int .i64 (((F_spec_l1Cur_any1 code 0 0).2).1)), (.int .u64 (((F_spec_l1Cur_any1 code 0 0).2).2))]) (fun _ => []) en_62 ⟨(ev_t rfl), trivial⟩ rfl rfl (fun w1 _ hw => spec_l1Cur_any1_ok w w1 _ g1_2 vcode code hcode 0 0 hw (by first | assumption | omega | grind) (by first | assumption | omega | grind) (by first | assumption | omega | grind) (by first | assumption | omega | grind)) (fun hpo5 _ => ?_)
  obtain ⟨q2_1, hq6⟩ : ∃ q, (F_spec_l1Cur_any1 code 0 0) = q := ⟨_, rfl⟩
  rw [hq6] at hF hpo5 ⊢
  try dsimp only at hF
  refine TL.op (yq (y_assign (ev_t rfl))) rfl rfl rfl ?_
  refine TL.nil ?_
  refine TN.seq ?_
  refine TC.seq ?_
  refine TC.region ?_
  refine TL.op (yq (y_move (ev_t rfl))) rfl rfl rfl ?_
  refine TL.op (yq (y_move (ev_t rfl))) rfl rfl rfl ?_
  refine TL.callmX (ι := Unit) (p := ((q2_1.2).1 ≤ ((F_spec_l1Cur_any1 code ((q2_1.2).1) ((q2_1.2).2)).2).1 ∧ ((F_spec_l1Cur_any1 code ((q2_1.2).1) ((q2_1.2).2)).2).1 ≤ ((q2_1.2).1) + 2 ∧ 0 ≤ ((F_spec_l1Cur_any1 code ((q2_1.2).1) ((q2_1.2).2)).2).2 ∧ ((F_spec_l1Cur_any1 code ((q2_1.2).1) ((q2_1.2).2)).2).2 < 18446744073709551616)) 0 (vs := [(.pointer (some ⟨g1_2, 0, none⟩))]) (fun _ => (.string ((F_spec_l1Cur_any1 code ((q2_1.2).1) ((q2_1.2).2)).1))) (fun _ => .blk g1_2 75 [vcode, (.int .i64 (((F_spec_l1Cur_any1 code ((q2_1.2).1) ((q2_1.2).2)).2).1)), (.int .u64 (((F_spec_l1Cur_any1 code ((q2_1.2).1) ((q2_1.2).2)).2).2))]) (fun _ => []) en_62 ⟨(ev_t rfl), trivial⟩ rfl rfl (fun w1 _ hw => spec_l1Cur_any1_ok w w1 _ g1_2 vcode code hcode ((q2_1.2).1) ((q2_1.2).2) hw (by first | assumption | omega | grind) (by first | assumption | omega | grind) (by first | assumption | omega | grind) (by first | assumption | omega | grind)) (fun hpo7 _ => ?_)
  obtain ⟨q3_2, hq8⟩ : ∃ q, (F_spec_l1Cur_any1 code ((q2_1.2).1) ((q2_1.2).2)) = q := ⟨_, rfl⟩
  rw [hq8] at hF hpo7 ⊢
  try dsimp only at hF
  refine TL.op (yq (y_assign (ev_t rfl))) rfl rfl rfl ?_
  refine TL.op (yq (y_assign (ev_t rfl))) rfl rfl rfl ?_
  refine TL.nil ?_
  refine TN.seq ?_
  refine TC.ret ?_
  subst hF
  exact TN.ret2 rfl (ev_t rfl) (ev_t rfl) (fun w' hw => ⟨rfl, Hp.sublist hw (List.nil_sublist _)⟩)

set_option maxRecDepth 4000 in
set_option maxHeartbeats 1000000 in
theorem laws_vBig_ok (w : World) (vcode : Value) (code : List Int) (hcode : RB w vcode code)  :
    Calls Try.prog 11 ([vcode] : List Value).toArray w (Ret (.bool (F_laws_vBig code)) (Hp w [])) := by
  obtain ⟨rz, hF⟩ : ∃ rz, (F_laws_vBig code) = rz := ⟨_, rfl⟩
  rw [hF]
  unfold F_laws_vBig at hF
  have hlen_code := argB_len hcode
  refine calls_tc Try.func11 rfl rfl rfl ?_
  change TC _ _ _ _ (Hp w []) [(0, vcode)]
  refine TC.seq ?_
  refine TC.region ?_
  refine TL.op (yq (y_assign ev_c)) rfl rfl rfl ?_
  refine TL.nil ?_
  refine TN.seq ?_
  refine TC.seq ?_
  refine TC.region ?_
  refine TL.op (yq (y_move (ev_t rfl))) rfl rfl rfl ?_
  refine TL.op (yq (y_len (ev_t rfl) Try.underlying22 (fun w hw => ((rd_arg hcode.1) w hw).ln))) rfl rfl rfl ?_
  refine TL.op (yq (y_gtr (ev_t rfl) ev_c)) rfl rfl rfl ?_
  refine TL.op (yq (y_assign (ev_t rfl))) rfl rfl rfl ?_
  refine TL.nil ?_
  refine TN.seq ?_
  refine TC.ret ?_
  subst hF
  exact TN.ret1 rfl (ev_t rfl) (fun w' hw => ⟨rfl, hw⟩)

set_option maxRecDepth 4000 in
set_option maxHeartbeats 1000000 in
theorem laws_FnSplitJoin_ok (w : World) (vcode : Value) (code : List Int) (hcode : RB w vcode code)  :
    Calls Try.prog 3 ([vcode] : List Value).toArray w (Ret (.bool (F_laws_FnSplitJoin code)) (Hp w [])) := by
  obtain ⟨rz, hF⟩ : ∃ rz, (F_laws_FnSplitJoin code) = rz := ⟨_, rfl⟩
  rw [hF]
  unfold F_laws_FnSplitJoin at hF
  have hdj := djs_bd code
  have hsp := split_bd (F_spec_DrawSplitString code).1 (F_spec_DrawSplitString code).2
  have hdj1 := hdj.1
  have hdj2 := hdj.2
  have hsp1 := hsp.1
  have hsp2 := hsp.2
  have hlen_code := argB_len hcode
  refine calls_tc Try.func3 rfl rfl rfl ?_
  change TC _ _ _ _ (Hp w []) [(0, vcode)]
  refine TC.seq ?_
  refine TC.region ?_
  refine TL.op (yq (y_assign ev_c)) rfl rfl rfl ?_
  refine TL.nil ?_
  refine TN.seq ?_
  refine TC.seq ?_
  refine TC.seq ?_
  refine TC.region ?_
  refine TL.op (yq (y_move (ev_t rfl))) rfl rfl rfl ?_
  refine TL.op (y_call (vs := [vcode]) (v := (.bool (F_laws_vBig code))) en_11 ⟨(ev_t rfl), trivial⟩ (fun w hw => laws_vBig_ok w vcode code (rb_arg hcode hw))) rfl rfl rfl ?_
  refine TL.nil ?_
  refine TN.seq ?_
  refine TC.cond (b := (F_laws_vBig code)) (ev_t rfl) (fun h7 => ?_) (fun h7 => ?_)
  · rw [bif_pos h7] at hF
    have q8 := h7
    refine TC.seq ?_
    refine TC.region ?_
    refine TL.op (yq (y_assign ev_c)) rfl rfl rfl ?_
    refine TL.nil ?_
    refine TN.seq ?_
    refine TC.ret ?_
    refine TN.thenR ?_
    subst hF
    exact TN.ret1 rfl (ev_t rfl) (fun w' hw => ⟨rfl, hw⟩)
  · rw [bif_neg h7] at hF
    have q8 := h7
    refine TC.skip ?_
    refine TN.seq ?_
    refine TC.seq ?_
    refine TC.region ?_
    refine TL.op (yq (y_move (ev_t rfl))) rfl rfl rfl ?_
    refine TL.op (y_call (vs := [vcode]) (v := (.tuple #[(.string ((F_spec_DrawSplitString code).1)), (.string ((F_spec_DrawSplitString code).2))])) en_12 ⟨(ev_t rfl), trivial⟩ (fun w hw => spec_DrawSplitString_ok w vcode code (rb_arg hcode hw))) rfl rfl rfl ?_
    refine TL.op (yq (y_move (ev_t rfl))) rfl rfl rfl ?_
    refine TL.op (yq (y_extract (ev_t rfl) rfl)) rfl rfl rfl ?_
    refine TL.op (yq (y_extract (ev_t rfl) rfl)) rfl rfl rfl ?_
    refine TL.op (yq (y_assign (ev_t rfl))) rfl rfl rfl ?_
    refine TL.op (yq (y_assign (ev_t rfl))) rfl rfl rfl ?_
    refine TL.nil ?_
    refine TN.seq ?_
    refine TC.seq ?_
    refine TC.region ?_
    refine TL.op (yq (y_move (ev_t rfl))) rfl rfl rfl ?_
    refine TL.op (yq (y_move (ev_t rfl))) rfl rfl rfl ?_
    refine TL.callr (ι := Value) (vs := [(.string ((F_spec_DrawSplitString code).1)), (.string ((F_spec_DrawSplitString code).2))]) (fun i => (.tuple #[i, (.bool ((F_impl_SplitString ((F_spec_DrawSplitString code).1) ((F_spec_DrawSplitString code).2)).2))])) (fun i => [rowS 9 i ((F_impl_SplitString ((F_spec_DrawSplitString code).1) ((F_spec_DrawSplitString code).2)).1)]) en_13 ⟨(ev_t rfl), (ev_t rfl), trivial⟩ rfl (fun w hw => impl_SplitString_ok w ((F_spec_DrawSplitString code).1) ((F_spec_DrawSplitString code).2)) (fun r4_2 => ?_)
    refine TL.op (yq (y_move (ev_t rfl))) rfl rfl rfl ?_
    refine TL.op (yq (y_extract (ev_t rfl) rfl)) rfl rfl rfl ?_
    refine TL.op (yq (y_extract (ev_t rfl) rfl)) rfl rfl rfl ?_
    refine TL.op (yq (y_assign (ev_t rfl))) rfl rfl rfl ?_
    refine TL.op (yq (y_assign (ev_t rfl))) rfl rfl rfl ?_
    refine TL.nil ?_
    refine TN.seq ?_
    refine TC.seq ?_
    refine TC.region ?_
    refine TL.op (yq (y_move (ev_t rfl))) rfl rfl rfl ?_
    refine TL.callr (ι := Value) (vs := [vcode]) (fun i => (.tuple #[i, (.string ((F_spec_DrawJoinStrings code).2))])) (fun i => [rowS 9 i ((F_spec_DrawJoinStrings code).1)]) en_14 ⟨(ev_t rfl), trivial⟩ rfl (fun w hw => spec_DrawJoinStrings_ok w vcode code (rb_arg hcode hw)) (fun r5_1 => ?_)
    refine TL.op (yq (y_move (ev_t rfl))) rfl rfl rfl ?_
    refine TL.op (yq (y_extract (ev_t rfl) rfl)) rfl rfl rfl ?_
    refine TL.op (yq (y_extract (ev_t rfl) rfl)) rfl rfl rfl ?_
    refine TL.op (yq (y_assign (ev_t rfl))) rfl rfl rfl ?_
    refine TL.op (yq (y_assign (ev_t rfl))) rfl rfl rfl ?_
    refine TL.nil ?_
    refine TN.seq ?_
    refine TC.seq ?_
    refine TC.region ?_
    refine TL.op (yq (y_move (ev_t rfl))) rfl rfl rfl ?_
    refine TL.op (yq (y_move (ev_t rfl))) rfl rfl rfl ?_
    refine TL.op (y_call (vs := [r5_1, (.string ((F_spec_DrawJoinStrings code).2))]) (v := (.tuple #[(.string ((F_impl_JoinStrings ((F_spec_DrawJoinStrings code).1) ((F_spec_DrawJoinStrings code).2)).1)), (.bool ((F_impl_JoinStrings ((F_spec_DrawJoinStrings code).1) ((F_spec_DrawJoinStrings code).2)).2))])) en_15 ⟨(ev_t rfl), (ev_t rfl), trivial⟩ (fun w hw => impl_JoinStrings_ok w r5_1 ((F_spec_DrawJoinStrings code).1) ((rd_row 0 rfl) w hw) (adn_row 0 rfl hw) ((F_spec_DrawJoinStrings code).2) (by first | assumption | omega | grind) (by first | assumption | omega | grind))) rfl rfl rfl ?_
    refine TL.op (yq (y_move (ev_t rfl))) rfl rfl rfl ?_
    refine TL.op (yq (y_extract (ev_t rfl) rfl)) rfl rfl rfl ?_
    refine TL.op (yq (y_extract (ev_t rfl) rfl)) rfl rfl rfl ?_
    refine TL.op (yq (y_assign (ev_t rfl))) rfl rfl rfl ?_
    refine TL.op (yq (y_assign (ev_t rfl))) rfl rfl rfl ?_
    refine TL.nil ?_
    refine TN.seq ?_
    refine TC.seq ?_
    refine TC.region ?_
    refine TL.op (yq (y_move (ev_t rfl))) rfl rfl rfl ?_
    refine TL.op (yq (y_move (ev_t rfl))) rfl rfl rfl ?_
    refine TL.op (y_call (vs := [r5_1, (.string ((F_spec_DrawJoinStrings code).2))]) (v := (.tuple #[(.string ((F_spec_JoinStrings ((F_spec_DrawJoinStrings code).1) ((F_spec_DrawJoinStrings code).2)).1)), (.bool ((F_spec_JoinStrings ((F_spec_DrawJoinStrings code).1) ((F_spec_DrawJoinStrings code).2)).2))])) en_16 ⟨(ev_t rfl), (ev_t rfl), trivial⟩ (fun w hw => spec_JoinStrings_ok w r5_1 ((F_spec_DrawJoinStrings code).1) ((rd_row 0 rfl) w hw) ((F_spec_DrawJoinStrings code).2) (by first | assumption | omega | grind) (by first | assumption | omega | grind))) rfl rfl rfl ?_
    refine TL.op (yq (y_move (ev_t rfl))) rfl rfl rfl ?_
    refine TL.op (yq (y_extract (ev_t rfl) rfl)) rfl rfl rfl ?_
    refine TL.op (yq (y_extract (ev_t rfl) rfl)) rfl rfl rfl ?_
    refine TL.op (yq (y_assign (ev_t rfl))) rfl rfl rfl ?_
    refine TL.op (yq (y_assign (ev_t rfl))) rfl rfl rfl ?_
    refine TL.nil ?_
    refine TN.seq ?_
    refine TC.seq ?_
    refine TC.region ?_
    refine TL.op (yq (y_move (ev_t rfl))) rfl rfl rfl ?_
    refine TL.op (y_call (vs := [vcode]) (v := (.tuple #[(.string ((F_spec_DrawLessString code).1)), (.string ((F_spec_DrawLessString code).2))])) en_17 ⟨(ev_t rfl), trivial⟩ (fun w hw => spec_DrawLessString_ok w vcode code (rb_arg hcode hw))) rfl rfl rfl ?_
    refine TL.op (yq (y_move (ev_t rfl))) rfl rfl rfl ?_
    refine TL.op (yq (y_extract (ev_t rfl) rfl)) rfl rfl rfl ?_
    refine TL.op (yq (y_extract (ev_t rfl) rfl)) rfl rfl rfl ?_
    refine TL.op (yq (y_assign (ev_t rfl))) rfl rfl rfl ?_
    refine TL.op (yq (y_assign (ev_t rfl))) rfl rfl rfl ?_
    refine TL.nil ?_
    refine TN.seq ?_
    refine TC.seq ?_
    refine TC.seq ?_
    refine TC.region ?_
    refine TL.op (yq (y_move (ev_t rfl))) rfl rfl rfl ?_
    refine TL.op (yq (y_move (ev_t rfl))) rfl rfl rfl ?_
    refine TL.op (yq (y_sneq (ev_t rfl) (ev_t rfl))) rfl rfl rfl ?_
    refine TL.op (yq (y_move (ev_t rfl))) rfl rfl rfl ?_
    refine TL.opw (w_f rfl rfl rfl) (fun hg => yq (y_move (ev_t rfl))) rfl rfl ?_
    refine TL.opw (w_f rfl rfl rfl) (fun hg => yq (y_move (ev_t rfl))) rfl rfl ?_
    refine TL.opw (w_f rfl rfl rfl) (fun hg => yq (y_bneq (ev_g rfl hg) (ev_g rfl hg) Try.underlying4)) rfl rfl ?_
    refine TL.op (yq (y_or (ev_t rfl) (fun hq => (ev_g rfl hq)))) rfl rfl rfl ?_
    refine TL.op (yq (y_move (ev_t rfl))) rfl rfl rfl ?_
    refine TL.opw (w_f rfl rfl rfl) (fun hg => yq (y_move (ev_t rfl))) rfl rfl ?_
    refine TL.opw (w_f rfl rfl rfl) (fun hg => yq (y_move (ev_t rfl))) rfl rfl ?_
    refine TL.opw (w_f rfl rfl rfl) (fun hg => y_call (vs := [(.string ((F_spec_DrawLessString code).1)), (.string ((F_spec_DrawLessString code).2))]) (v := (.bool (F_impl_LessString ((F_spec_DrawLessString code).1) ((F_spec_DrawLessString code).2)))) en_18 ⟨(ev_g rfl hg), (ev_g rfl hg), trivial⟩ (fun w hw => impl_LessString_ok w ((F_spec_DrawLessString code).1) ((F_spec_DrawLessString code).2))) rfl rfl ?_
    refine TL.opw (w_f rfl rfl rfl) (fun hg => yq (y_move (ev_t rfl))) rfl rfl ?_
    refine TL.opw (w_f rfl rfl rfl) (fun hg => yq (y_move (ev_t rfl))) rfl rfl ?_
    refine TL.opw (w_f rfl rfl rfl) (fun hg => y_call (vs := [(.string ((F_spec_DrawLessString code).1)), (.string ((F_spec_DrawLessString code).2))]) (v := (.bool (F_spec_LessString ((F_spec_DrawLessString code).1) ((F_spec_DrawLessString code).2)))) en_19 ⟨(ev_g rfl hg), (ev_g rfl hg), trivial⟩ (fun w hw => spec_LessString_ok w ((F_spec_DrawLessString code).1) ((F_spec_DrawLessString code).2))) rfl rfl ?_
    refine TL.opw (w_f rfl rfl rfl) (fun hg => yq (y_bneq (ev_g rfl hg) (ev_g rfl hg) Try.underlying4)) rfl rfl ?_
    refine TL.op (yq (y_or (ev_t rfl) (fun hq => (ev_g rfl hq)))) rfl rfl rfl ?_
    refine TL.op (yq (y_move (ev_t rfl))) rfl rfl rfl ?_
    refine TL.opw (w_f rfl rfl rfl) (fun hg => yq (y_move (ev_t rfl))) rfl rfl ?_
    refine TL.opw (w_f rfl rfl rfl) (fun hg => yq (y_move (ev_t rfl))) rfl rfl ?_
    refine TL.opw (w_f rfl rfl rfl) (fun hg => y_call (vs := [(.string ((F_spec_DrawLessString code).1)), (.string ((F_spec_DrawLessString code).2))]) (v := (.bool (F_impl_LessString ((F_spec_DrawLessString code).1) ((F_spec_DrawLessString code).2)))) en_18 ⟨(ev_g rfl hg), (ev_g rfl hg), trivial⟩ (fun w hw => impl_LessString_ok w ((F_spec_DrawLessString code).1) ((F_spec_DrawLessString code).2))) rfl rfl ?_
    refine TL.opw (w_f rfl rfl rfl) (fun hg => yq (y_move (ev_g rfl hg))) rfl rfl ?_
    refine TL.opw (w_gt rfl rfl rfl) (fun hg => yq (y_move (ev_t rfl))) rfl rfl ?_
    refine TL.opw (w_gt rfl rfl rfl) (fun hg => yq (y_move (ev_t rfl))) rfl rfl ?_
    refine TL.opw (w_gt rfl rfl rfl) (fun hg => y_call (vs := [(.string ((F_spec_DrawLessString code).2)), (.string ((F_spec_DrawLessString code).1))]) (v := (.bool (F_impl_LessString ((F_spec_DrawLessString code).2) ((F_spec_DrawLessString code).1)))) en_18 ⟨(ev_g rfl hg), (ev_g rfl hg), trivial⟩ (fun w hw => impl_LessString_ok w ((F_spec_DrawLessString code).2) ((F_spec_DrawLessString code).1))) rfl rfl ?_
    refine TL.opw (w_f rfl rfl rfl) (fun hg => yq (y_and (ev_g rfl hg) (fun hq => (ev_g rfl (gand hg hq))))) rfl rfl ?_
    refine TL.op (yq (y_or (ev_t rfl) (fun hq => (ev_g rfl hq)))) rfl rfl rfl ?_
    refine TL.nil ?_
    refine TN.seq ?_
    refine TC.cond (b := ((((!(((F_impl_JoinStrings ((F_spec_DrawJoinStrings code).1) ((F_spec_DrawJoinStrings code).2)).1).toList == ((F_spec_JoinStrings ((F_spec_DrawJoinStrings code).1) ((F_spec_DrawJoinStrings code).2)).1).toList)) || (((F_impl_JoinStrings ((F_spec_DrawJoinStrings code).1) ((F_spec_DrawJoinStrings code).2)).2) != ((F_spec_JoinStrings ((F_spec_DrawJoinStrings code).1) ((F_spec_DrawJoinStrings code).2)).2))) || ((F_impl_LessString ((F_spec_DrawLessString code).1) ((F_spec_DrawLessString code).2)) != (F_spec_LessString ((F_spec_DrawLessString code).1) ((F_spec_DrawLessString code).2)))) || ((F_impl_LessString ((F_spec_DrawLessString code).1) ((F_spec_DrawLessString code).2)) && (F_impl_LessString ((F_spec_DrawLessString code).2) ((F_spec_DrawLessString code).1))))) (ev_t rfl) (fun h9 => ?_) (fun h9 => ?_)
    · rw [bif_pos h9] at hF
      have q10 := ((or_t h9).imp (fun h => ((or_t h).imp (fun h => ((or_t h).imp (fun h => h) (fun h => h))) (fun h => h))) (fun h => (and_imp (and_t h) (fun h => h) (fun h => h))))
      refine TC.seq ?_
      refine TC.region ?_
      refine TL.op (yq (y_assign ev_c)) rfl rfl rfl ?_
      refine TL.nil ?_
      refine TN.seq ?_
      refine TC.ret ?_
      refine TN.thenR ?_
      subst hF
      exact TN.ret1 rfl (ev_t rfl) (fun w' hw => ⟨rfl, Hp.sublist hw (List.nil_sublist _)⟩)
    · rw [bif_neg h9] at hF
      have q10 := (and_imp (or_f h9) (fun h => (and_imp (or_f h) (fun h => (and_imp (or_f h) (fun h => h) (fun h => h))) (fun h => h))) (fun h => ((and_f h).imp (fun h => h) (fun h => h))))
      refine TC.skip ?_
      refine TN.seq ?_
      refine TC.seq ?_
      refine TC.seq ?_
      refine TC.region ?_
      refine TL.op (yq (y_move (ev_t rfl))) rfl rfl rfl ?_
      refine TL.op (yq (y_slen (ev_t rfl) Try.underlying9)) rfl rfl rfl ?_
      refine TL.op (yq (y_neq (ev_t rfl) ev_c)) rfl rfl rfl ?_
      refine TL.nil ?_
      refine TN.seq ?_
      refine TC.cond (b := !decide ((((F_spec_DrawSplitString code).2).size : Int) = 1)) (ev_t rfl) (fun h11 => ?_) (fun h11 => ?_)
      · rw [bif_pos h11] at hF
        have q12 := (of_decide_eq_false (not_t h11))
        refine TC.seq ?_
        refine TC.region ?_
        refine TL.op (yq (y_move (ev_t rfl))) rfl rfl rfl ?_
        refine TL.op (yq (y_not (ev_t rfl))) rfl rfl rfl ?_
        refine TL.op (yq (y_move (ev_t rfl))) rfl rfl rfl ?_
        refine TL.opw (w_t rfl rfl rfl) (fun hg => yq (y_move (ev_t rfl))) rfl rfl ?_
        refine TL.opw (w_t rfl rfl rfl) (fun hg => yq (y_len (ev_g rfl hg) Try.underlying26 (fun w hw => ((rd_row 1 rfl) w hw).ln))) rfl rfl ?_
        refine TL.opw (w_t rfl rfl rfl) (fun hg => yq (y_eql (ev_g rfl hg) ev_c)) rfl rfl ?_
        refine TL.op (yq (y_and (ev_t rfl) (fun hq => (ev_g rfl hq)))) rfl rfl rfl ?_
        refine TL.op (yq (y_assign (ev_t rfl))) rfl rfl rfl ?_
        refine TL.nil ?_
        refine TN.seq ?_
        refine TC.ret ?_
        refine TN.thenR ?_
        subst hF
        exact TN.ret1 rfl (ev_t rfl) (fun w' hw => ⟨rfl, Hp.sublist hw (List.nil_sublist _)⟩)
      · rw [bif_neg h11] at hF
        have q12 := (of_decide_eq_true (not_f h11))
        refine TC.skip ?_
        refine TN.seq ?_
        refine TC.seq ?_
        refine TC.region ?_
        refine TL.op (yq (y_move (ev_t rfl))) rfl rfl rfl ?_
        refine TL.op (yq (y_move (ev_t rfl))) rfl rfl rfl ?_
        refine TL.op (y_call (vs := [r4_2, (.string ((F_spec_DrawSplitString code).2))]) (v := (.tuple #[(.string ((F_impl_JoinStrings ((F_impl_SplitString ((F_spec_DrawSplitString code).1) ((F_spec_DrawSplitString code).2)).1) ((F_spec_DrawSplitString code).2)).1)), (.bool ((F_impl_JoinStrings ((F_impl_SplitString ((F_spec_DrawSplitString code).1) ((F_spec_DrawSplitString code).2)).1) ((F_spec_DrawSplitString code).2)).2))])) en_15 ⟨(ev_t rfl), (ev_t rfl), trivial⟩ (fun w hw => impl_JoinStrings_ok w r4_2 ((F_impl_SplitString ((F_spec_DrawSplitString code).1) ((F_spec_DrawSplitString code).2)).1) ((rd_row 1 rfl) w hw) (adn_row 1 rfl hw) ((F_spec_DrawSplitString code).2) (by first | assumption | omega | grind) (by first | assumption | omega | grind))) rfl rfl rfl ?_
        refine TL.op (yq (y_move (ev_t rfl))) rfl rfl rfl ?_
        refine TL.op (yq (y_extract (ev_t rfl) rfl)) rfl rfl rfl ?_
        refine TL.op (yq (y_extract (ev_t rfl) rfl)) rfl rfl rfl ?_
        refine TL.op (yq (y_assign (ev_t rfl))) rfl rfl rfl ?_
        refine TL.op (yq (y_assign (ev_t rfl))) rfl rfl rfl ?_
        refine TL.nil ?_
        refine TN.seq ?_
        refine TC.seq ?_
        refine TC.region ?_
        refine TL.op (yq (y_move (ev_t rfl))) rfl rfl rfl ?_
        refine TL.op (yq (y_move (ev_t rfl))) rfl rfl rfl ?_
        refine TL.opw (w_t rfl rfl rfl) (fun hg => yq (y_move (ev_t rfl))) rfl rfl ?_
        refine TL.op (yq (y_and (ev_t rfl) (fun hq => (ev_g rfl hq)))) rfl rfl rfl ?_
        refine TL.op (yq (y_move (ev_t rfl))) rfl rfl rfl ?_
        refine TL.opw (w_t rfl rfl rfl) (fun hg => yq (y_move (ev_t rfl))) rfl rfl ?_
        refine TL.opw (w_t rfl rfl rfl) (fun hg => yq (y_move (ev_t rfl))) rfl rfl ?_
        refine TL.opw (w_t rfl rfl rfl) (fun hg => yq (y_seql (ev_g rfl hg) (ev_g rfl hg))) rfl rfl ?_
        refine TL.op (yq (y_and (ev_t rfl) (fun hq => (ev_g rfl hq)))) rfl rfl rfl ?_
        refine TL.op (yq (y_assign (ev_t rfl))) rfl rfl rfl ?_
        refine TL.nil ?_
        refine TN.seq ?_
        refine TC.ret ?_
        subst hF
        exact TN.ret1 rfl (ev_t rfl) (fun w' hw => ⟨rfl, Hp.sublist hw (List.nil_sublist _)⟩)


end Go.Proofs.Ytcmhgkcifejgcaa
