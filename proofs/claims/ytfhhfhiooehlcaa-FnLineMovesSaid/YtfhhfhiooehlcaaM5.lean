/-
  Walks of functions of the program: each computes its plain function. No condition but the bounds that are typed.
-/
import Derived.Test.YtfhhfhiooehlcaaM4
namespace Go.Proofs.Ytfhhfhiooehlcaa
open Go Go.RowKit
set_option linter.unusedVariables false

set_option maxRecDepth 4000 in
set_option maxHeartbeats 1000000 in
theorem spec_l1Cur_next_ok (w0 w : World) (fr : List Ck) (gc : Nat) (vc : Value) (code : List Int) (hcode : RB w0 vc code) (at_ : Int) (seed : Int) (hw : Hp w0 (.blk gc 61 [vc, (.int .i64 at_), (.int .u64 seed)] :: fr) w) (hp0 : 0 ≤ at_) (hp1 : at_ ≤ 4000000000) (hp2 : 0 ≤ seed) (hp3 : seed < 18446744073709551616) :
    Calls Try.prog 79 ([(.pointer (some ⟨gc, 0, none⟩))] : List Value).toArray w (fun e w' => True ∧ ∃ _i : Unit, e = .returned (.int .i64 ((F_spec_l1Cur_next code at_ seed).1)) ∧ Hp w0 ([.blk gc 61 [vc, (.int .i64 ((F_spec_l1Cur_next code at_ seed).2.1)), (.int .u64 ((F_spec_l1Cur_next code at_ seed).2.2))]] ++ fr) w') := by
  obtain ⟨rz, hF⟩ : ∃ rz, (F_spec_l1Cur_next code at_ seed) = rz := ⟨_, rfl⟩
  rw [hF]
  unfold F_spec_l1Cur_next at hF
  have hlen_code := argB_len hcode
  refine calls_tcm Try.func79 rfl rfl rfl hw ?_
  change TC _ _ _ _ (Hp w0 ([.blk gc 61 [vc, (.int .i64 at_), (.int .u64 seed)]] ++ fr)) [(0, (.pointer (some ⟨gc, 0, none⟩)))]
  refine TC.seq ?_
  refine TC.region ?_
  refine TL.op (yq (y_assign ev_c)) rfl rfl rfl ?_
  refine TL.nil ?_
  refine TN.seq ?_
  refine TC.seq ?_
  refine TC.region ?_
  refine TL.op (yq (y_assign ev_c)) rfl rfl rfl ?_
  refine TL.nil ?_
  refine TN.seq ?_
  refine TC.seq ?_
  refine TC.seq ?_
  refine TC.regionQ (by kernel_rfl) (by kernel_rfl) dr_hp ?_
  refine TQ.op (yq (y_move (ev_t rfl))) rfl rfl rfl ?_
  refine TQ.op (yq (y_nilp (ev_t rfl))) rfl rfl rfl ?_
  refine TQ.op (yq (y_fa (fa_61_1 gc) (ev_t rfl))) rfl rfl rfl ?_
  refine TQ.op (yq (y_ldb 0 (ev_t rfl) one_3 rfl rfl)) rfl rfl rfl ?_
  refine TQ.op (yq (y_move (ev_t rfl))) rfl rfl rfl ?_
  refine TQ.op (yq (y_nilp (ev_t rfl))) rfl rfl rfl ?_
  refine TQ.op (yq (y_fa (fa_61_0 gc) (ev_t rfl))) rfl rfl rfl ?_
  refine TQ.op (yq (y_ldb 0 (ev_t rfl) one_22 rfl rfl)) rfl rfl rfl ?_
  refine TQ.op (yq (y_len (ev_t rfl) Try.underlying22 (fun w hw => ((rd_arg hcode.1) w hw).ln))) rfl rfl rfl ?_
  refine TQ.op (yq (y_lss (ev_t rfl) (ev_t rfl))) rfl rfl rfl ?_
  refine TQ.nil ?_
  refine TN.seq ?_
  refine TC.cond (b := decide (at_ < (code.length : Int))) (ev_t rfl) (fun h9 => ?_) (fun h9 => ?_)
  · rw [bif_pos h9] at hF
    have q10 := (of_decide_eq_true h9)
    refine TC.regionQ (by kernel_rfl) (by kernel_rfl) dr_hp ?_
    refine TQ.op (yq (y_move (ev_t rfl))) rfl rfl rfl ?_
    refine TQ.op (yq (y_nilp (ev_t rfl))) rfl rfl rfl ?_
    refine TQ.op (yq (y_fa (fa_61_0 gc) (ev_t rfl))) rfl rfl rfl ?_
    refine TQ.op (yq (y_ldb 0 (ev_t rfl) one_22 rfl rfl)) rfl rfl rfl ?_
    refine TQ.op (yq (y_move (ev_t rfl))) rfl rfl rfl ?_
    refine TQ.op (yq (y_nilp (ev_t rfl))) rfl rfl rfl ?_
    refine TQ.op (yq (y_fa (fa_61_1 gc) (ev_t rfl))) rfl rfl rfl ?_
    refine TQ.op (yq (y_ldb 0 (ev_t rfl) one_3 rfl rfl)) rfl rfl rfl ?_
    have hb11 : (at_).toNat < code.length := (by first | omega | (simp only [List.length_set, List.length_append, List.length_cons, List.length_nil, List.length_replicate]; omega) | (rw [sortI_length]; simp only [List.length_cons, List.length_nil]; omega))
    refine TQ.op (yq (y_idx (k := (at_).toNat) (ev_t rfl) (ev_t rfl) (by first | omega | simp) slT_22 (rd_arg hcode.1) hb11)) rfl rfl rfl ?_
    have hu12 := hcode.2 ((at_).toNat)
    refine TQ.op (yq (y_ld8 (ev_t rfl) one_5 (rd_arg hcode.1) hb11)) rfl rfl rfl ?_
    refine TQ.op (yq (y_conv_i64 (ev_t rfl) Try.underlying5 Try.underlying3 (by first | omega | (simp only [List.length_set, List.length_append, List.length_cons, List.length_nil, List.length_replicate]; omega) | (rw [sortI_length]; simp only [List.length_cons, List.length_nil]; omega)))) rfl rfl rfl ?_
    refine TQ.op (yq (y_assign (ev_t rfl))) rfl rfl rfl ?_
    refine TQ.nil ?_
    refine TN.seq ?_
    refine TC.seq ?_
    refine TC.region ?_
    refine TL.op (yq (y_move (ev_t rfl))) rfl rfl rfl ?_
    refine TL.op (yq (y_nilp (ev_t rfl))) rfl rfl rfl ?_
    refine TL.op (yq (y_fa (fa_61_1 gc) (ev_t rfl))) rfl rfl rfl ?_
    refine TL.op (yq (y_ldb 0 (ev_t rfl) one_3 rfl rfl)) rfl rfl rfl ?_
    refine TL.op (yq (y_add (ev_t rfl) ev_c (by unfold In64; omega))) rfl rfl rfl ?_
    refine TL.op (yq (y_nilp (ev_t rfl))) rfl rfl rfl ?_
    refine TL.op (yq (y_fa (fa_61_1 gc) (ev_t rfl))) rfl rfl rfl ?_
    refine TL.storeB 0 (ev_t rfl) (ev_t rfl) one_3 rfl (by first | decide | simp) (fun w hw => rfl) ?_
    refine TL.nil ?_
    refine TN.seq ?_
    refine TC.seq ?_
    refine TC.region ?_
    refine TL.op (yq (y_move (ev_t rfl))) rfl rfl rfl ?_
    refine TL.op (yq (y_move (ev_t rfl))) rfl rfl rfl ?_
    refine TL.op (yq (y_nilp (ev_t rfl))) rfl rfl rfl ?_
    refine TL.op (yq (y_fa (fa_61_2 gc) (ev_t rfl))) rfl rfl rfl ?_
    refine TL.op (yq (y_ldb 0 (ev_t rfl) one_59 rfl rfl)) rfl rfl rfl ?_
    refine TL.op (yq (y_mulu (ev_t rfl) ev_c)) rfl rfl rfl ?_
    refine TL.op (yq (y_move (ev_t rfl))) rfl rfl rfl ?_
    refine TL.op (yq (y_conv_u64 (ev_t rfl) Try.underlying3 Try.underlying59 (by first | omega | (simp only [List.length_set, List.length_append, List.length_cons, List.length_nil, List.length_replicate]; omega) | (rw [sortI_length]; simp only [List.length_cons, List.length_nil]; omega)))) rfl rfl rfl ?_
    refine TL.op (yq (y_addu (ev_t rfl) (ev_t rfl))) rfl rfl rfl ?_
    refine TL.op (yq (y_addu (ev_t rfl) ev_c)) rfl rfl rfl ?_
    refine TL.op (yq (y_nilp (ev_t rfl))) rfl rfl rfl ?_
    refine TL.op (yq (y_fa (fa_61_2 gc) (ev_t rfl))) rfl rfl rfl ?_
    refine TL.storeB 0 (ev_t rfl) (ev_t rfl) one_59 rfl (by first | decide | simp) (fun w hw => rfl) ?_
    refine TL.nil ?_
    refine TN.seq ?_
    refine TC.seq ?_
    refine TC.seq ?_
    refine TC.regionQ (by kernel_rfl) (by kernel_rfl) dr_hp ?_
    refine TQ.op (yq (y_move (ev_t rfl))) rfl rfl rfl ?_
    refine TQ.op (yq (y_nilp (ev_t rfl))) rfl rfl rfl ?_
    refine TQ.op (yq (y_fa (fa_61_1 gc) (ev_t rfl))) rfl rfl rfl ?_
    refine TQ.op (yq (y_ldb 0 (ev_t rfl) one_3 rfl rfl)) rfl rfl rfl ?_
    refine TQ.op (yq (y_move (ev_t rfl))) rfl rfl rfl ?_
    refine TQ.op (yq (y_nilp (ev_t rfl))) rfl rfl rfl ?_
    refine TQ.op (yq (y_fa (fa_61_0 gc) (ev_t rfl))) rfl rfl rfl ?_
    refine TQ.op (yq (y_ldb 0 (ev_t rfl) one_22 rfl rfl)) rfl rfl rfl ?_
    refine TQ.op (yq (y_len (ev_t rfl) Try.underlying22 (fun w hw => ((rd_arg hcode.1) w hw).ln))) rfl rfl rfl ?_
    refine TQ.op (yq (y_leq (ev_t rfl) (ev_t rfl))) rfl rfl rfl ?_
    refine TQ.nil ?_
    refine TN.seq ?_
    refine TC.cond (b := decide (at_ + 1 ≤ (code.length : Int))) (ev_t rfl) (fun h13 => ?_) (fun h13 => ?_)
    · rw [bif_pos h13] at hF
      have q14 := (of_decide_eq_true h13)
      refine TC.seq ?_
      refine TC.region ?_
      refine TL.op (yq (y_move (ev_t rfl))) rfl rfl rfl ?_
      refine TL.op (yq (y_assign (ev_t rfl))) rfl rfl rfl ?_
      refine TL.nil ?_
      refine TN.seq ?_
      refine TC.ret ?_
      refine TN.thenR ?_
      subst hF
      exact TN.ret1 rfl (ev_t rfl) (fun w' hw => ⟨trivial, (), rfl, hw⟩)
    · rw [bif_neg h13] at hF
      have q14 := (of_decide_eq_false h13)
      refine TC.skip ?_
      refine TN.seq ?_
      refine TC.seq ?_
      refine TC.region ?_
      refine TL.op (yq (y_move (ev_t rfl))) rfl rfl rfl ?_
      refine TL.op (yq (y_nilp (ev_t rfl))) rfl rfl rfl ?_
      refine TL.op (yq (y_fa (fa_61_2 gc) (ev_t rfl))) rfl rfl rfl ?_
      refine TL.op (yq (y_ldb 0 (ev_t rfl) one_59 rfl rfl)) rfl rfl rfl ?_
      refine TL.op (yq (y_shr40 (ev_t rfl) ev_c (by omega))) rfl rfl rfl ?_
      refine TL.op (yq (y_and255 (ev_t rfl) ev_c (by omega) (by omega))) rfl rfl rfl ?_
      refine TL.op (yq (y_conv_i64 (ev_t rfl) Try.underlying59 Try.underlying3 (by first | omega | (simp only [List.length_set, List.length_append, List.length_cons, List.length_nil, List.length_replicate]; omega) | (rw [sortI_length]; simp only [List.length_cons, List.length_nil]; omega)))) rfl rfl rfl ?_
      refine TL.op (yq (y_assign (ev_t rfl))) rfl rfl rfl ?_
      refine TL.nil ?_
      refine TN.seq ?_
      refine TC.ret ?_
      subst hF
      exact TN.ret1 rfl (ev_t rfl) (fun w' hw => ⟨trivial, (), rfl, hw⟩)
  · rw [bif_neg h9] at hF
    have q10 := (of_decide_eq_false h9)
    refine TC.skip ?_
    refine TN.seq ?_
    refine TC.seq ?_
    refine TC.region ?_
    refine TL.op (yq (y_move (ev_t rfl))) rfl rfl rfl ?_
    refine TL.op (yq (y_nilp (ev_t rfl))) rfl rfl rfl ?_
    refine TL.op (yq (y_fa (fa_61_1 gc) (ev_t rfl))) rfl rfl rfl ?_
    refine TL.op (yq (y_ldb 0 (ev_t rfl) one_3 rfl rfl)) rfl rfl rfl ?_
    refine TL.op (yq (y_add (ev_t rfl) ev_c (by unfold In64; omega))) rfl rfl rfl ?_
    refine TL.op (yq (y_nilp (ev_t rfl))) rfl rfl rfl ?_
    refine TL.op (yq (y_fa (fa_61_1 gc) (ev_t rfl))) rfl rfl rfl ?_
    refine TL.storeB 0 (ev_t rfl) (ev_t rfl) one_3 rfl (by first | decide | simp) (fun w hw => rfl) ?_
    refine TL.nil ?_
    refine TN.seq ?_
    refine TC.seq ?_
    refine TC.region ?_
    refine TL.op (yq (y_move (ev_t rfl))) rfl rfl rfl ?_
    refine TL.op (yq (y_move (ev_t rfl))) rfl rfl rfl ?_
    refine TL.op (yq (y_nilp (ev_t rfl))) rfl rfl rfl ?_
    refine TL.op (yq (y_fa (fa_61_2 gc) (ev_t rfl))) rfl rfl rfl ?_
    refine TL.op (yq (y_ldb 0 (ev_t rfl) one_59 rfl rfl)) rfl rfl rfl ?_
    refine TL.op (yq (y_mulu (ev_t rfl) ev_c)) rfl rfl rfl ?_
    refine TL.op (yq (y_move (ev_t rfl))) rfl rfl rfl ?_
    refine TL.op (yq (y_conv_u64 (ev_t rfl) Try.underlying3 Try.underlying59 (by first | omega | (simp only [List.length_set, List.length_append, List.length_cons, List.length_nil, List.length_replicate]; omega) | (rw [sortI_length]; simp only [List.length_cons, List.length_nil]; omega)))) rfl rfl rfl ?_
    refine TL.op (yq (y_addu (ev_t rfl) (ev_t rfl))) rfl rfl rfl ?_
    refine TL.op (yq (y_addu (ev_t rfl) ev_c)) rfl rfl rfl ?_
    refine TL.op (yq (y_nilp (ev_t rfl))) rfl rfl rfl ?_
    refine TL.op (yq (y_fa (fa_61_2 gc) (ev_t rfl))) rfl rfl rfl ?_
    refine TL.storeB 0 (ev_t rfl) (ev_t rfl) one_59 rfl (by first | decide | simp) (fun w hw => rfl) ?_
    refine TL.nil ?_
    refine TN.seq ?_
    refine TC.seq ?_
    refine TC.seq ?_
    refine TC.regionQ (by kernel_rfl) (by kernel_rfl) dr_hp ?_
    refine TQ.op (yq (y_move (ev_t rfl))) rfl rfl rfl ?_
    refine TQ.op (yq (y_nilp (ev_t rfl))) rfl rfl rfl ?_
    refine TQ.op (yq (y_fa (fa_61_1 gc) (ev_t rfl))) rfl rfl rfl ?_
    refine TQ.op (yq (y_ldb 0 (ev_t rfl) one_3 rfl rfl)) rfl rfl rfl ?_
    refine TQ.op (yq (y_move (ev_t rfl))) rfl rfl rfl ?_
    refine TQ.op (yq (y_nilp (ev_t rfl))) rfl rfl rfl ?_
    refine TQ.op (yq (y_fa (fa_61_0 gc) (ev_t rfl))) rfl rfl rfl ?_
    refine TQ.op (yq (y_ldb 0 (ev_t rfl) one_22 rfl rfl)) rfl rfl rfl ?_
    refine TQ.op (yq (y_len (ev_t rfl) Try.underlying22 (fun w hw => ((rd_arg hcode.1) w hw).ln))) rfl rfl rfl ?_
    refine TQ.op (yq (y_leq (ev_t rfl) (ev_t rfl))) rfl rfl rfl ?_
    refine TQ.nil ?_
    refine TN.seq ?_
    refine TC.cond (b := decide (at_ + 1 ≤ (code.length : Int))) (ev_t rfl) (fun h15 => ?_) (fun h15 => ?_)
    · rw [bif_pos h15] at hF
      have q16 := (of_decide_eq_true h15)
      refine TC.seq ?_
      refine TC.region ?_
      refine TL.op (yq (y_move (ev_t rfl))) rfl rfl rfl ?_
      refine TL.op (yq (y_assign (ev_t rfl))) rfl rfl rfl ?_
      refine TL.nil ?_
      refine TN.seq ?_
      refine TC.ret ?_
      refine TN.thenR ?_
      subst hF
      exact TN.ret1 rfl (ev_t rfl) (fun w' hw => ⟨trivial, (), rfl, hw⟩)
    · rw [bif_neg h15] at hF
      have q16 := (of_decide_eq_false h15)
      refine TC.skip ?_
      refine TN.seq ?_
      refine TC.seq ?_
      refine TC.region ?_
      refine TL.op (yq (y_move (ev_t rfl))) rfl rfl rfl ?_
      refine TL.op (yq (y_nilp (ev_t rfl))) rfl rfl rfl ?_
      refine TL.op (yq (y_fa (fa_61_2 gc) (ev_t rfl))) rfl rfl rfl ?_
      refine TL.op (yq (y_ldb 0 (ev_t rfl) one_59 rfl rfl)) rfl rfl rfl ?_
      refine TL.op (yq (y_shr40 (ev_t rfl) ev_c (by omega))) rfl rfl rfl ?_
      refine TL.op (yq (y_and255 (ev_t rfl) ev_c (by omega) (by omega))) rfl rfl rfl ?_
      refine TL.op (yq (y_conv_i64 (ev_t rfl) Try.underlying59 Try.underlying3 (by first | omega | (simp only [List.length_set, List.length_append, List.length_cons, List.length_nil, List.length_replicate]; omega) | (rw [sortI_length]; simp only [List.length_cons, List.length_nil]; omega)))) rfl rfl rfl ?_
      refine TL.op (yq (y_assign (ev_t rfl))) rfl rfl rfl ?_
      refine TL.nil ?_
      refine TN.seq ?_
      refine TC.ret ?_
      subst hF
      exact TN.ret1 rfl (ev_t rfl) (fun w' hw => ⟨trivial, (), rfl, hw⟩)

set_option maxRecDepth 4000 in
set_option maxHeartbeats 1000000 in
theorem spec_l1Cur_pick_ok (w0 w : World) (fr : List Ck) (gc : Nat) (vc : Value) (code : List Int) (hcode : RB w0 vc code) (at_ : Int) (seed : Int) (hw : Hp w0 (.blk gc 61 [vc, (.int .i64 at_), (.int .u64 seed)] :: fr) w) (n : Int) (hp0 : 0 ≤ at_) (hp1 : at_ ≤ 3000000000) (hp2 : 0 ≤ seed) (hp3 : seed < 18446744073709551616) :
    Calls Try.prog 43 ([(.pointer (some ⟨gc, 0, none⟩)), (.int .i64 n)] : List Value).toArray w (fun e w' => True ∧ ∃ _i : Unit, e = .returned (.int .i64 ((F_spec_l1Cur_pick code at_ seed n).1)) ∧ Hp w0 ([.blk gc 61 [vc, (.int .i64 ((F_spec_l1Cur_pick code at_ seed n).2.1)), (.int .u64 ((F_spec_l1Cur_pick code at_ seed n).2.2))]] ++ fr) w') := by
  obtain ⟨rz, hF⟩ : ∃ rz, (F_spec_l1Cur_pick code at_ seed n) = rz := ⟨_, rfl⟩
  rw [hF]
  unfold F_spec_l1Cur_pick at hF
  have hlen_code := argB_len hcode
  refine calls_tcm Try.func43 rfl rfl rfl hw ?_
  change TC _ _ _ _ (Hp w0 ([.blk gc 61 [vc, (.int .i64 at_), (.int .u64 seed)]] ++ fr)) [(0, (.pointer (some ⟨gc, 0, none⟩))), (1, (.int .i64 n))]
  refine TC.seq ?_
  refine TC.region ?_
  refine TL.op (yq (y_assign ev_c)) rfl rfl rfl ?_
  refine TL.nil ?_
  refine TN.seq ?_
  refine TC.seq ?_
  refine TC.seq ?_
  refine TC.region ?_
  refine TL.op (yq (y_move (ev_t rfl))) rfl rfl rfl ?_
  refine TL.op (yq (y_leq (ev_t rfl) ev_c)) rfl rfl rfl ?_
  refine TL.nil ?_
  refine TN.seq ?_
  refine TC.cond (b := decide (n ≤ 1)) (ev_t rfl) (fun h9 => ?_) (fun h9 => ?_)
  · rw [bif_pos h9] at hF
    have q10 := (of_decide_eq_true h9)
    refine TC.seq ?_
    refine TC.region ?_
    refine TL.op (yq (y_assign ev_c)) rfl rfl rfl ?_
    refine TL.nil ?_
    refine TN.seq ?_
    refine TC.ret ?_
    refine TN.thenR ?_
    subst hF
    exact TN.ret1 rfl (ev_t rfl) (fun w' hw => ⟨trivial, (), rfl, hw⟩)
  · rw [bif_neg h9] at hF
    have q10 := (of_decide_eq_false h9)
    refine TC.skip ?_
    refine TN.seq ?_
    refine TC.seq ?_
    refine TC.region ?_
    refine TL.op (yq (y_move (ev_t rfl))) rfl rfl rfl ?_
    refine TL.callmX (ι := Unit) (p := True) 0 (vs := [(.pointer (some ⟨gc, 0, none⟩))]) (fun _ => (.int .i64 ((F_spec_l1Cur_next code at_ seed).1))) (fun _ => .blk gc 61 [vc, (.int .i64 (((F_spec_l1Cur_next code at_ seed).2).1)), (.int .u64 (((F_spec_l1Cur_next code at_ seed).2).2))]) (fun _ => []) en_79 ⟨(ev_t rfl), trivial⟩ rfl rfl (fun w1 _ hw => spec_l1Cur_next_ok w0 w1 _ gc vc code hcode at_ seed hw (by first | assumption | omega | grind) (by first | assumption | omega | grind) (by first | assumption | omega | grind) (by first | assumption | omega | grind)) (fun hpo11 _ => ?_)
    replace hpo11 := next_post hcode.2 code at_ seed
    obtain ⟨q3_1, hq12⟩ : ∃ q, (F_spec_l1Cur_next code at_ seed) = q := ⟨_, rfl⟩
    rw [hq12] at hF hpo11 ⊢
    try dsimp only at hF
    refine TL.op (yq (y_assign (ev_t rfl))) rfl rfl rfl ?_
    refine TL.nil ?_
    refine TN.seq ?_
    refine TC.seq ?_
    refine TC.seq ?_
    refine TC.region ?_
    refine TL.op (yq (y_move (ev_t rfl))) rfl rfl rfl ?_
    refine TL.op (yq (y_gtr (ev_t rfl) ev_c)) rfl rfl rfl ?_
    refine TL.nil ?_
    refine TN.seq ?_
    refine TC.cond (b := decide (200 < n)) (ev_t rfl) (fun h13 => ?_) (fun h13 => ?_)
    · rw [bif_pos h13] at hF
      have q14 := (of_decide_eq_true h13)
      refine TC.region ?_
      refine TL.op (yq (y_move (ev_t rfl))) rfl rfl rfl ?_
      refine TL.op (yq (y_mul (ev_t rfl) ev_c (by unfold In64; omega))) rfl rfl rfl ?_
      refine TL.op (yq (y_move (ev_t rfl))) rfl rfl rfl ?_
      refine TL.callmX (ι := Unit) (p := True) 0 (vs := [(.pointer (some ⟨gc, 0, none⟩))]) (fun _ => (.int .i64 ((F_spec_l1Cur_next code ((q3_1.2).1) ((q3_1.2).2)).1))) (fun _ => .blk gc 61 [vc, (.int .i64 (((F_spec_l1Cur_next code ((q3_1.2).1) ((q3_1.2).2)).2).1)), (.int .u64 (((F_spec_l1Cur_next code ((q3_1.2).1) ((q3_1.2).2)).2).2))]) (fun _ => []) en_79 ⟨(ev_t rfl), trivial⟩ rfl rfl (fun w1 _ hw => spec_l1Cur_next_ok w0 w1 _ gc vc code hcode ((q3_1.2).1) ((q3_1.2).2) hw (by first | assumption | omega | grind) (by first | assumption | omega | grind) (by first | assumption | omega | grind) (by first | assumption | omega | grind)) (fun hpo15 _ => ?_)
      replace hpo15 := next_post hcode.2 code ((q3_1.2).1) ((q3_1.2).2)
      obtain ⟨q5_3, hq16⟩ : ∃ q, (F_spec_l1Cur_next code ((q3_1.2).1) ((q3_1.2).2)) = q := ⟨_, rfl⟩
      rw [hq16] at hF hpo15 ⊢
      try dsimp only at hF
      refine TL.op (yq (y_add (ev_t rfl) (ev_t rfl) (by unfold In64; omega))) rfl rfl rfl ?_
      refine TL.op (yq (y_assign (ev_t rfl))) rfl rfl rfl ?_
      refine TL.nil ?_
      refine TN.seq ?_
      refine TC.seq ?_
      refine TC.region ?_
      refine TL.op (yq (y_move (ev_t rfl))) rfl rfl rfl ?_
      refine TL.op (yq (y_move (ev_t rfl))) rfl rfl rfl ?_
      refine TL.op (yq (y_rem (ev_t rfl) (ev_t rfl) (by first | omega | (simp only [Int.natCast_ediv] at *; omega)) (by first | omega | (simp only [Int.natCast_ediv] at *; omega)))) rfl rfl rfl ?_
      refine TL.op (yq (y_assign (ev_t rfl))) rfl rfl rfl ?_
      refine TL.nil ?_
      refine TN.seq ?_
      refine TC.ret ?_
      subst hF
      exact TN.ret1 rfl (ev_t rfl) (fun w' hw => ⟨trivial, (), rfl, hw⟩)
    · rw [bif_neg h13] at hF
      have q14 := (of_decide_eq_false h13)
      refine TC.skip ?_
      refine TN.seq ?_
      refine TC.seq ?_
      refine TC.region ?_
      refine TL.op (yq (y_move (ev_t rfl))) rfl rfl rfl ?_
      refine TL.op (yq (y_move (ev_t rfl))) rfl rfl rfl ?_
      refine TL.op (yq (y_rem (ev_t rfl) (ev_t rfl) (by first | omega | (simp only [Int.natCast_ediv] at *; omega)) (by first | omega | (simp only [Int.natCast_ediv] at *; omega)))) rfl rfl rfl ?_
      refine TL.op (yq (y_assign (ev_t rfl))) rfl rfl rfl ?_
      refine TL.nil ?_
      refine TN.seq ?_
      refine TC.ret ?_
      subst hF
      exact TN.ret1 rfl (ev_t rfl) (fun w' hw => ⟨trivial, (), rfl, hw⟩)

set_option maxRecDepth 4000 in
set_option maxHeartbeats 1000000 in
theorem spec_l1Cur_one_ok (w0 w : World) (fr : List Ck) (gc : Nat) (vc : Value) (code : List Int) (hcode : RB w0 vc code) (at_ : Int) (seed : Int) (hw : Hp w0 (.blk gc 61 [vc, (.int .i64 at_), (.int .u64 seed)] :: fr) w) (n : Int) (hp0 : 0 ≤ at_) (hp1 : at_ ≤ 2000000000) (hp2 : 0 ≤ seed) (hp3 : seed < 18446744073709551616) :
    Calls Try.prog 44 ([(.pointer (some ⟨gc, 0, none⟩)), (.int .i64 n)] : List Value).toArray w (fun e w' => True ∧ ∃ _i : Unit, e = .returned (.bool ((F_spec_l1Cur_one code at_ seed n).1)) ∧ Hp w0 ([.blk gc 61 [vc, (.int .i64 ((F_spec_l1Cur_one code at_ seed n).2.1)), (.int .u64 ((F_spec_l1Cur_one code at_ seed n).2.2))]] ++ fr) w') := by
  obtain ⟨rz, hF⟩ : ∃ rz, (F_spec_l1Cur_one code at_ seed n) = rz := ⟨_, rfl⟩
  rw [hF]
  unfold F_spec_l1Cur_one at hF
  have hlen_code := argB_len hcode
  refine calls_tcm Try.func44 rfl rfl rfl hw ?_
  change TC _ _ _ _ (Hp w0 ([.blk gc 61 [vc, (.int .i64 at_), (.int .u64 seed)]] ++ fr)) [(0, (.pointer (some ⟨gc, 0, none⟩))), (1, (.int .i64 n))]
  refine TC.seq ?_
  refine TC.region ?_
  refine TL.op (yq (y_assign ev_c)) rfl rfl rfl ?_
  refine TL.nil ?_
  refine TN.seq ?_
  refine TC.seq ?_
  refine TC.region ?_
  refine TL.op (yq (y_move (ev_t rfl))) rfl rfl rfl ?_
  refine TL.op (yq (y_move (ev_t rfl))) rfl rfl rfl ?_
  refine TL.callmX (ι := Unit) (p := True) 0 (vs := [(.pointer (some ⟨gc, 0, none⟩)), (.int .i64 n)]) (fun _ => (.int .i64 ((F_spec_l1Cur_pick code at_ seed n).1))) (fun _ => .blk gc 61 [vc, (.int .i64 (((F_spec_l1Cur_pick code at_ seed n).2).1)), (.int .u64 (((F_spec_l1Cur_pick code at_ seed n).2).2))]) (fun _ => []) en_43 ⟨(ev_t rfl), (ev_t rfl), trivial⟩ rfl rfl (fun w1 _ hw => spec_l1Cur_pick_ok w0 w1 _ gc vc code hcode at_ seed hw n (by first | assumption | omega | grind) (by first | assumption | omega | grind) (by first | assumption | omega | grind) (by first | assumption | omega | grind)) (fun hpo3 _ => ?_)
  replace hpo3 := pick_post hcode.2 code at_ seed n (by omega)
  obtain ⟨q1_2, hq4⟩ : ∃ q, (F_spec_l1Cur_pick code at_ seed n) = q := ⟨_, rfl⟩
  rw [hq4] at hF hpo3 ⊢
  try dsimp only at hF
  refine TL.op (yq (y_eql (ev_t rfl) ev_c)) rfl rfl rfl ?_
  refine TL.op (yq (y_assign (ev_t rfl))) rfl rfl rfl ?_
  refine TL.nil ?_
  refine TN.seq ?_
  refine TC.ret ?_
  subst hF
  exact TN.ret1 rfl (ev_t rfl) (fun w' hw => ⟨trivial, (), rfl, hw⟩)

set_option maxRecDepth 4000 in
set_option maxHeartbeats 1000000 in
theorem spec_l1Cur_among_ok (w0 w : World) (fr : List Ck) (gc : Nat) (vc : Value) (code : List Int) (hcode : RB w0 vc code) (at_ : Int) (seed : Int) (hw : Hp w0 (.blk gc 61 [vc, (.int .i64 at_), (.int .u64 seed)] :: fr) w) (vlist : Value) (list : List Int) (hlist : ∀ (w' : World) (c : Ck), Hp w0 (c :: fr) w' → RI w' vlist list) (hp0 : 0 ≤ at_) (hp1 : at_ ≤ 1900000000) (hp2 : 0 ≤ seed) (hp3 : seed < 18446744073709551616) (hp4 : 1 ≤ list.length) (hp5 : list.length ≤ 1000) :
    Calls Try.prog 93 ([(.pointer (some ⟨gc, 0, none⟩)), vlist] : List Value).toArray w (fun e w' => (at_ ≤ ((F_spec_l1Cur_among code at_ seed list).2).1 ∧ ((F_spec_l1Cur_among code at_ seed list).2).1 ≤ at_ + 2 ∧ 0 ≤ ((F_spec_l1Cur_among code at_ seed list).2).2 ∧ ((F_spec_l1Cur_among code at_ seed list).2).2 < 18446744073709551616) ∧ ∃ _i : Unit, e = .returned (.int .i64 ((F_spec_l1Cur_among code at_ seed list).1)) ∧ Hp w0 ([.blk gc 61 [vc, (.int .i64 ((F_spec_l1Cur_among code at_ seed list).2.1)), (.int .u64 ((F_spec_l1Cur_among code at_ seed list).2.2))]] ++ fr) w') := by
  obtain ⟨rz, hF⟩ : ∃ rz, (F_spec_l1Cur_among code at_ seed list) = rz := ⟨_, rfl⟩
  rw [hF]
  unfold F_spec_l1Cur_among at hF
  have hlen_code := argB_len hcode
  have hlen_list := arg_len (hlist w _ hw)
  refine calls_tcm Try.func93 rfl rfl rfl hw ?_
  change TC _ _ _ _ (Hp w0 ([.blk gc 61 [vc, (.int .i64 at_), (.int .u64 seed)]] ++ fr)) [(0, (.pointer (some ⟨gc, 0, none⟩))), (1, vlist)]
  refine TC.seq ?_
  refine TC.region ?_
  refine TL.op (yq (y_assign ev_c)) rfl rfl rfl ?_
  refine TL.nil ?_
  refine TN.seq ?_
  refine TC.seq ?_
  refine TC.region ?_
  refine TL.op (yq (y_move (ev_t rfl))) rfl rfl rfl ?_
  refine TL.op (yq (y_move (ev_t rfl))) rfl rfl rfl ?_
  refine TL.op (yq (y_move (ev_t rfl))) rfl rfl rfl ?_
  refine TL.op (yq (y_len (ev_t rfl) Try.underlying34 (fun w hw => ((fun w hw => hlist w _ (hw)) w hw).ln))) rfl rfl rfl ?_
  refine TL.callmX (ι := Unit) (p := True) 0 (vs := [(.pointer (some ⟨gc, 0, none⟩)), (.int .i64 (list.length : Int))]) (fun _ => (.int .i64 ((F_spec_l1Cur_pick code at_ seed (list.length : Int)).1))) (fun _ => .blk gc 61 [vc, (.int .i64 (((F_spec_l1Cur_pick code at_ seed (list.length : Int)).2).1)), (.int .u64 (((F_spec_l1Cur_pick code at_ seed (list.length : Int)).2).2))]) (fun _ => []) en_43 ⟨(ev_t rfl), (ev_t rfl), trivial⟩ rfl rfl (fun w1 _ hw => spec_l1Cur_pick_ok w0 w1 _ gc vc code hcode at_ seed hw (list.length : Int) (by first | assumption | omega | grind) (by first | assumption | omega | grind) (by first | assumption | omega | grind) (by first | assumption | omega | grind)) (fun hpo4 _ => ?_)
  replace hpo4 := pick_post hcode.2 code at_ seed (list.length : Int) (by omega)
  obtain ⟨q1_4, hq5⟩ : ∃ q, (F_spec_l1Cur_pick code at_ seed (list.length : Int)) = q := ⟨_, rfl⟩
  rw [hq5] at hF hpo4 ⊢
  try dsimp only at hF
  have hb6 : (q1_4.1).toNat < list.length := (by first | omega | (simp only [List.length_set, List.length_append, List.length_cons, List.length_nil, List.length_replicate]; omega) | (rw [sortI_length]; simp only [List.length_cons, List.length_nil]; omega))
  refine TL.op (yq (y_idx (k := (q1_4.1).toNat) (ev_t rfl) (ev_t rfl) (by first | omega | simp) slT_34 (fun w hw => hlist w _ (hw)) hb6)) rfl rfl rfl ?_
  refine TL.op (yq (y_ldi (ev_t rfl) one_3 (fun w hw => hlist w _ (hw)) hb6)) rfl rfl rfl ?_
  refine TL.op (yq (y_assign (ev_t rfl))) rfl rfl rfl ?_
  refine TL.nil ?_
  refine TN.seq ?_
  refine TC.ret ?_
  subst hF
  exact TN.ret1 rfl (ev_t rfl) (fun w' hw => ⟨(by dsimp only; omega), (), rfl, hw⟩)

set_option maxRecDepth 4000 in
set_option maxHeartbeats 1000000 in
theorem spec_l1Cur_row_ok (w0 w : World) (fr : List Ck) (gc : Nat) (vc : Value) (code : List Int) (hcode : RB w0 vc code) (at_ : Int) (seed : Int) (hw : Hp w0 (.blk gc 61 [vc, (.int .i64 at_), (.int .u64 seed)] :: fr) w) (k : Int) (hp0 : 0 ≤ at_) (hp1 : at_ ≤ 1500000000) (hp2 : 0 ≤ seed) (hp3 : seed < 18446744073709551616) (hp4 : 0 ≤ k ∧ k ≤ 10) :
    Calls Try.prog 70 ([(.pointer (some ⟨gc, 0, none⟩)), (.int .i64 k)] : List Value).toArray w (fun e w' => (at_ ≤ ((F_spec_l1Cur_row code at_ seed k).2).1 ∧ ((F_spec_l1Cur_row code at_ seed k).2).1 ≤ at_ + 200 ∧ 0 ≤ ((F_spec_l1Cur_row code at_ seed k).2).2 ∧ ((F_spec_l1Cur_row code at_ seed k).2).2 < 18446744073709551616) ∧ ∃ i : Value, e = .returned i ∧ Hp w0 ([.blk gc 61 [vc, (.int .i64 ((F_spec_l1Cur_row code at_ seed k).2.1)), (.int .u64 ((F_spec_l1Cur_row code at_ seed k).2.2))], rowI 3 i ((F_spec_l1Cur_row code at_ seed k).1)] ++ fr) w') := by
  obtain ⟨rz, hF⟩ : ∃ rz, (F_spec_l1Cur_row code at_ seed k) = rz := ⟨_, rfl⟩
  rw [hF]
  unfold F_spec_l1Cur_row at hF
  have hlen_code := argB_len hcode
  refine calls_tcm Try.func70 rfl rfl rfl hw ?_
  change TC _ _ _ _ (Hp w0 ([.blk gc 61 [vc, (.int .i64 at_), (.int .u64 seed)]] ++ fr)) [(0, (.pointer (some ⟨gc, 0, none⟩))), (1, (.int .i64 k))]
  refine TC.seq ?_
  refine TC.region ?_
  refine TL.op (yq (y_assign ev_c)) rfl rfl rfl ?_
  refine TL.nil ?_
  refine TN.seq ?_
  refine TC.seq ?_
  refine TC.region ?_
  refine TL.buildI (zs := []) (qs := []) slT_34 rfl trivial rfl (by decide) rfl (fun v1_0 => ?_)
  refine TL.op (yq (y_assign (ev_t rfl))) rfl rfl rfl ?_
  refine TL.nil ?_
  refine TN.seq ?_
  refine TC.seq ?_
  refine TC.seq ?_
  refine TC.region ?_
  refine TL.op (yq (y_assign ev_c)) rfl rfl rfl ?_
  refine TL.nil ?_
  refine TN.seq ?_
  refine TC.block ?_
  obtain ⟨c39, hc40⟩ : ∃ c, F_spec_l1Cur_row_L1 code k ((((k).toNat) - 0) + 1) (([] : List Int), 0, at_, seed) = c := ⟨_, rfl⟩
  rw [hc40] at hF
  refine TC.loop (ι := Nat × List Int × Nat × Int × Int × Value) (fun (fu1, a1, i1, zP_1_1, zP_2_1, va1) => [(0, (.pointer (some ⟨gc, 0, none⟩))), (1, (.int .i64 k)), (5, va1), (6, (.int .i64 (i1 : Int)))]) (fun (fu1, a1, i1, zP_1_1, zP_2_1, va1) => Hp w0 ([rowI 3 va1 a1, .blk gc 61 [vc, (.int .i64 zP_1_1), (.int .u64 zP_2_1)]] ++ fr)) (fun (fu1, a1, i1, zP_1_1, zP_2_1, va1) => (i1 ≤ ((k).toNat)) ∧ (at_ ≤ zP_1_1) ∧ (zP_1_1 ≤ at_ + 10 * i1) ∧ (0 ≤ zP_2_1) ∧ (zP_2_1 < 18446744073709551616) ∧ (a1.length = i1) ∧ (i1 ≤ 10) ∧ ((k).toNat) - i1 < fu1 ∧ F_spec_l1Cur_row_L1 code k fu1 (a1, i1, zP_1_1, zP_2_1) = c39) (fun (fu1, a1, i1, zP_1_1, zP_2_1, va1) => fu1) ((((k).toNat) - 0) + 1, ([] : List Int), 0, at_, seed, v1_0) ⟨(by first | omega | (simp [-List.getD_eq_getElem?_getD] <;> omega)), (by first | omega | (simp [-List.getD_eq_getElem?_getD] <;> omega)), (by first | omega | (simp [-List.getD_eq_getElem?_getD] <;> omega)), (by first | omega | (simp [-List.getD_eq_getElem?_getD] <;> omega)), (by first | omega | (simp [-List.getD_eq_getElem?_getD] <;> omega)), (by first | omega | (simp [-List.getD_eq_getElem?_getD] <;> omega)), (by first | omega | (simp [-List.getD_eq_getElem?_getD] <;> omega)), (by omega), hc40⟩ ⟨rfl, rfl, rfl, rfl, trivial⟩ (fun w hw => hw) ?_
  rintro ⟨fu1, a1, i1, zP_1_1, zP_2_1, va1⟩ hJ1
  obtain ⟨hi1_0, hi1_1, hi1_2, hi1_3, hi1_4, hi1_5, hi1_6, hmu1, hL1⟩ : (i1 ≤ ((k).toNat)) ∧ (at_ ≤ zP_1_1) ∧ (zP_1_1 ≤ at_ + 10 * i1) ∧ (0 ≤ zP_2_1) ∧ (zP_2_1 < 18446744073709551616) ∧ (a1.length = i1) ∧ (i1 ≤ 10) ∧ ((k).toNat) - i1 < fu1 ∧ F_spec_l1Cur_row_L1 code k fu1 (a1, i1, zP_1_1, zP_2_1) = c39 := hJ1
  change TC _ _ _ _ (Hp w0 ([rowI 3 va1 a1, .blk gc 61 [vc, (.int .i64 zP_1_1), (.int .u64 zP_2_1)]] ++ fr)) [(0, (.pointer (some ⟨gc, 0, none⟩))), (1, (.int .i64 k)), (5, va1), (6, (.int .i64 (i1 : Int)))]
  obtain ⟨mf1, rfl⟩ : ∃ m, fu1 = m + 1 := ⟨fu1 - 1, by omega⟩
  rw [F_spec_l1Cur_row_L1_s] at hL1
  refine TC.seq ?_
  refine TC.seq ?_
  refine TC.region ?_
  refine TL.op (yq (y_move (ev_t rfl))) rfl rfl rfl ?_
  refine TL.op (yq (y_move (ev_t rfl))) rfl rfl rfl ?_
  refine TL.op (yq (y_lss (ev_t rfl) (ev_t rfl))) rfl rfl rfl ?_
  refine TL.nil ?_
  refine TN.seq ?_
  refine TC.cond (b := decide ((i1 : Int) < k)) (ev_t rfl) (fun h41 => ?_) (fun h41 => ?_)
  · rw [bif_pos h41] at hL1
    have q42 := (of_decide_eq_true h41)
    refine TC.skip ?_
    refine TN.seq ?_
    refine TC.seq ?_
    refine TC.block ?_
    refine TC.region ?_
    refine TL.op (yq (y_move (ev_t rfl))) rfl rfl rfl ?_
    refine TL.op (yq (y_move (ev_t rfl))) rfl rfl rfl ?_
    refine TL.op (yq (y_move (ev_t rfl))) rfl rfl rfl ?_
    refine TL.callmX (ι := Unit) (p := True) 1 (vs := [(.pointer (some ⟨gc, 0, none⟩)), (.int .i64 100)]) (fun _ => (.int .i64 ((F_spec_l1Cur_pick code zP_1_1 zP_2_1 100).1))) (fun _ => .blk gc 61 [vc, (.int .i64 (((F_spec_l1Cur_pick code zP_1_1 zP_2_1 100).2).1)), (.int .u64 (((F_spec_l1Cur_pick code zP_1_1 zP_2_1 100).2).2))]) (fun _ => []) en_43 ⟨(ev_t rfl), ev_c, trivial⟩ rfl rfl (fun w1 _ hw => spec_l1Cur_pick_ok w0 w1 _ gc vc code hcode zP_1_1 zP_2_1 hw 100 (by first | assumption | omega | grind) (by first | assumption | omega | grind) (by first | assumption | omega | grind) (by first | assumption | omega | grind)) (fun hpo43 _ => ?_)
    replace hpo43 := pick_post hcode.2 code zP_1_1 zP_2_1 100 (by omega)
    obtain ⟨q5_3, hq44⟩ : ∃ q, (F_spec_l1Cur_pick code zP_1_1 zP_2_1 100) = q := ⟨_, rfl⟩
    rw [hq44] at hL1 hpo43 ⊢
    try dsimp only at hL1
    refine TL.op (yq (y_move (ev_t rfl))) rfl rfl rfl ?_
    refine TL.callmX (ι := Unit) (p := True) 1 (vs := [(.pointer (some ⟨gc, 0, none⟩)), (.int .i64 20)]) (fun _ => (.int .i64 ((F_spec_l1Cur_pick code ((q5_3.2).1) ((q5_3.2).2) 20).1))) (fun _ => .blk gc 61 [vc, (.int .i64 (((F_spec_l1Cur_pick code ((q5_3.2).1) ((q5_3.2).2) 20).2).1)), (.int .u64 (((F_spec_l1Cur_pick code ((q5_3.2).1) ((q5_3.2).2) 20).2).2))]) (fun _ => []) en_43 ⟨(ev_t rfl), ev_c, trivial⟩ rfl rfl (fun w1 _ hw => spec_l1Cur_pick_ok w0 w1 _ gc vc code hcode ((q5_3.2).1) ((q5_3.2).2) hw 20 (by first | assumption | omega | grind) (by first | assumption | omega | grind) (by first | assumption | omega | grind) (by first | assumption | omega | grind)) (fun hpo45 _ => ?_)
    replace hpo45 := pick_post hcode.2 code ((q5_3.2).1) ((q5_3.2).2) 20 (by omega)
    obtain ⟨q5_5, hq46⟩ : ∃ q, (F_spec_l1Cur_pick code ((q5_3.2).1) ((q5_3.2).2) 20) = q := ⟨_, rfl⟩
    rw [hq46] at hL1 hpo45 ⊢
    try dsimp only at hL1
    refine TL.op (yq (y_move (ev_t rfl))) rfl rfl rfl ?_
    refine TL.callmX (ι := Unit) (p := True) 1 (vs := [(.pointer (some ⟨gc, 0, none⟩)), (.int .i64 20)]) (fun _ => (.int .i64 ((F_spec_l1Cur_pick code ((q5_5.2).1) ((q5_5.2).2) 20).1))) (fun _ => .blk gc 61 [vc, (.int .i64 (((F_spec_l1Cur_pick code ((q5_5.2).1) ((q5_5.2).2) 20).2).1)), (.int .u64 (((F_spec_l1Cur_pick code ((q5_5.2).1) ((q5_5.2).2) 20).2).2))]) (fun _ => []) en_43 ⟨(ev_t rfl), ev_c, trivial⟩ rfl rfl (fun w1 _ hw => spec_l1Cur_pick_ok w0 w1 _ gc vc code hcode ((q5_5.2).1) ((q5_5.2).2) hw 20 (by first | assumption | omega | grind) (by first | assumption | omega | grind) (by first | assumption | omega | grind) (by first | assumption | omega | grind)) (fun hpo47 _ => ?_)
    replace hpo47 := pick_post hcode.2 code ((q5_5.2).1) ((q5_5.2).2) 20 (by omega)
    obtain ⟨q5_7, hq48⟩ : ∃ q, (F_spec_l1Cur_pick code ((q5_5.2).1) ((q5_5.2).2) 20) = q := ⟨_, rfl⟩
    rw [hq48] at hL1 hpo47 ⊢
    try dsimp only at hL1
    refine TL.buildI (zs := [.const (.int .i64 0), .const (.int .i64 99), .const (.int .i64 50), .tmp 16, .tmp 18, .tmp 20]) (qs := [0, 99, 50, q5_3.1, q5_5.1, q5_7.1]) slT_34 rfl ⟨ev_c, ev_c, ev_c, (ev_t rfl), (ev_t rfl), (ev_t rfl), trivial⟩ rfl (by decide) rfl (fun v5_8 => ?_)
    refine TL.callmX (ι := Unit) (p := ((q5_7.2).1 ≤ ((F_spec_l1Cur_among code ((q5_7.2).1) ((q5_7.2).2) ([0, 99, 50, q5_3.1, q5_5.1, q5_7.1])).2).1 ∧ ((F_spec_l1Cur_among code ((q5_7.2).1) ((q5_7.2).2) ([0, 99, 50, q5_3.1, q5_5.1, q5_7.1])).2).1 ≤ ((q5_7.2).1) + 2 ∧ 0 ≤ ((F_spec_l1Cur_among code ((q5_7.2).1) ((q5_7.2).2) ([0, 99, 50, q5_3.1, q5_5.1, q5_7.1])).2).2 ∧ ((F_spec_l1Cur_among code ((q5_7.2).1) ((q5_7.2).2) ([0, 99, 50, q5_3.1, q5_5.1, q5_7.1])).2).2 < 18446744073709551616)) 2 (vs := [(.pointer (some ⟨gc, 0, none⟩)), v5_8]) (fun _ => (.int .i64 ((F_spec_l1Cur_among code ((q5_7.2).1) ((q5_7.2).2) ([0, 99, 50, q5_3.1, q5_5.1, q5_7.1])).1))) (fun _ => .blk gc 61 [vc, (.int .i64 (((F_spec_l1Cur_among code ((q5_7.2).1) ((q5_7.2).2) ([0, 99, 50, q5_3.1, q5_5.1, q5_7.1])).2).1)), (.int .u64 (((F_spec_l1Cur_among code ((q5_7.2).1) ((q5_7.2).2) ([0, 99, 50, q5_3.1, q5_5.1, q5_7.1])).2).2))]) (fun _ => []) en_93 ⟨(ev_t rfl), (ev_t rfl), trivial⟩ rfl rfl (fun w1 _ hw => spec_l1Cur_among_ok w0 w1 _ gc vc code hcode ((q5_7.2).1) ((q5_7.2).2) hw v5_8 ([0, 99, 50, q5_3.1, q5_5.1, q5_7.1]) (fun w2 _ hw2 => (ri_row 1 rfl) w2 hw2) (by first | assumption | omega | grind) (by first | assumption | omega | grind) (by first | assumption | omega | grind) (by first | assumption | omega | grind) (by first | assumption | omega | grind) (by first | assumption | omega | grind)) (fun hpo49 _ => ?_)
    obtain ⟨q5_9, hq50⟩ : ∃ q, (F_spec_l1Cur_among code ((q5_7.2).1) ((q5_7.2).2) ([0, 99, 50, q5_3.1, q5_5.1, q5_7.1])) = q := ⟨_, rfl⟩
    rw [hq50] at hL1 hpo49 ⊢
    try dsimp only at hL1
    refine TL.buildI (zs := [.tmp 22]) (qs := [q5_9.1]) slT_34 rfl ⟨(ev_t rfl), trivial⟩ rfl (by decide) rfl (fun v5_10 => ?_)
    refine TL.appendI 2 (ev_t rfl) (ev_t rfl) rfl slT_34 (ri_row 0 rfl) (by first | omega | (simp [-List.getD_eq_getElem?_getD] <;> omega)) rfl (fun v5_11 => ?_)
    refine TL.op (yq (y_assign (ev_t rfl))) rfl rfl rfl ?_
    refine TL.nil ?_
    refine TN.blockN ?_
    refine TN.seq ?_
    refine TC.region ?_
    refine TL.op (yq (y_move (ev_t rfl))) rfl rfl rfl ?_
    refine TL.op (yq (y_add (ev_t rfl) ev_c (by unfold In64; omega))) rfl rfl rfl ?_
    refine TL.op (yq (y_assign (ev_t rfl))) rfl rfl rfl ?_
    refine TL.nil ?_
    exact TN.hand (mf1, (a1 ++ ([q5_9.1])), (i1 + 1), (q5_9.2).1, (q5_9.2).2, v5_11) ⟨(by first | omega | (simp [-List.getD_eq_getElem?_getD] <;> omega)), (by first | omega | (simp [-List.getD_eq_getElem?_getD] <;> omega)), (by first | omega | (simp [-List.getD_eq_getElem?_getD] <;> omega)), (by first | omega | (simp [-List.getD_eq_getElem?_getD] <;> omega)), (by first | omega | (simp [-List.getD_eq_getElem?_getD] <;> omega)), (by first | omega | (simp [-List.getD_eq_getElem?_getD] <;> omega)), (by first | omega | (simp [-List.getD_eq_getElem?_getD] <;> omega)), (by omega), hL1⟩ (Nat.lt_succ_self _) ⟨rfl, rfl, rfl, rfl, trivial⟩ (fun w hw => Hp.sublist hw (.cons _ (.cons _ (.cons_cons _ (.cons_cons _ (List.Sublist.refl _))))))
  · rw [bif_neg h41] at hL1
    have q42 := (of_decide_eq_false h41)
    refine TC.exit ?_
    refine TN.thenE ?_
    refine TN.thenE ?_
    rw [← hL1, elim_next] at hF
    try dsimp only at hF
    have hsl := l6Sort_len a1
    refine TN.blockH ?_
    refine TN.seq ?_
    refine TC.seq ?_
    refine TC.region ?_
    refine TL.op (yq (y_move (ev_t rfl))) rfl rfl rfl ?_
    refine TL.callr (ι := Value) (vs := [va1]) (fun i => i) (fun i => [rowI 3 i (F_spec_l6Sort a1)]) en_100 ⟨(ev_t rfl), trivial⟩ rfl (fun w hw => spec_l6Sort_ok w va1 a1 ((ri_row 0 rfl) w hw) (by first | assumption | omega | grind)) (fun r6_1 => ?_)
    refine TL.op (yq (y_assign (ev_t rfl))) rfl rfl rfl ?_
    refine TL.nil ?_
    refine TN.seq ?_
    refine TC.seq ?_
    refine TC.seq ?_
    refine TC.region ?_
    refine TL.op (yq (y_move (ev_t rfl))) rfl rfl rfl ?_
    refine TL.callmX (ι := Unit) (p := True) 2 (vs := [(.pointer (some ⟨gc, 0, none⟩)), (.int .i64 40)]) (fun _ => (.int .i64 ((F_spec_l1Cur_pick code zP_1_1 zP_2_1 40).1))) (fun _ => .blk gc 61 [vc, (.int .i64 (((F_spec_l1Cur_pick code zP_1_1 zP_2_1 40).2).1)), (.int .u64 (((F_spec_l1Cur_pick code zP_1_1 zP_2_1 40).2).2))]) (fun _ => []) en_43 ⟨(ev_t rfl), ev_c, trivial⟩ rfl rfl (fun w1 _ hw => spec_l1Cur_pick_ok w0 w1 _ gc vc code hcode zP_1_1 zP_2_1 hw 40 (by first | assumption | omega | grind) (by first | assumption | omega | grind) (by first | assumption | omega | grind) (by first | assumption | omega | grind)) (fun hpo51 _ => ?_)
    replace hpo51 := pick_post hcode.2 code zP_1_1 zP_2_1 40 (by omega)
    obtain ⟨q7_1, hq52⟩ : ∃ q, (F_spec_l1Cur_pick code zP_1_1 zP_2_1 40) = q := ⟨_, rfl⟩
    rw [hq52] at hF hpo51 ⊢
    try dsimp only at hF
    refine TL.nil ?_
    refine TN.seq ?_
    refine TC.block ?_
    refine TC.seq ?_
    refine TC.region ?_
    refine TL.op (yq (y_eql (ev_t rfl) ev_c)) rfl rfl rfl ?_
    refine TL.op (yq (y_assign (ev_t rfl))) rfl rfl rfl ?_
    refine TL.nil ?_
    refine TN.seq ?_
    refine TC.cond (b := decide (q7_1.1 = 0)) (ev_t rfl) (fun h53 => ?_) (fun h53 => ?_)
    · rw [bif_pos h53] at hF
      have q54 := (of_decide_eq_true h53)
      refine TC.seq ?_
      refine TC.region ?_
      refine TL.op (yq (y_move (ev_t rfl))) rfl rfl rfl ?_
      refine TL.buildI (zs := [.const (.int .i64 100)]) (qs := [100]) slT_34 rfl ⟨ev_c, trivial⟩ rfl (by decide) rfl (fun v9_1 => ?_)
      refine TL.appendI 1 (ev_t rfl) (ev_t rfl) rfl slT_34 (ri_row 0 rfl) (by first | omega | (simp [-List.getD_eq_getElem?_getD] <;> omega)) rfl (fun v9_2 => ?_)
      refine TL.op (yq (y_assign (ev_t rfl))) rfl rfl rfl ?_
      refine TL.nil ?_
      refine TN.seq ?_
      refine TC.ret ?_
      refine TN.blockR ?_
      refine TN.thenR ?_
      subst hF
      exact TN.ret1 rfl (ev_t rfl) (fun w' hw => ⟨(by dsimp only; omega), v9_2, rfl, Hp.picksF (ks := [rowI 3 v9_1 ([100]), rowI 3 v9_2 ((F_spec_l6Sort a1) ++ ([100])), rowI 3 va1 a1, .blk gc 61 [vc, (.int .i64 ((q7_1.2).1)), (.int .u64 ((q7_1.2).2))]]) (fr := fr) [3, 1] (by decide) rfl hw⟩)
    · rw [bif_neg h53] at hF
      have q54 := (of_decide_eq_false h53)
      refine TC.seq ?_
      refine TC.region ?_
      refine TL.op (yq (y_eql (ev_t rfl) ev_c)) rfl rfl rfl ?_
      refine TL.op (yq (y_assign (ev_t rfl))) rfl rfl rfl ?_
      refine TL.nil ?_
      refine TN.seq ?_
      refine TC.cond (b := decide (q7_1.1 = 1)) (ev_t rfl) (fun h55 => ?_) (fun h55 => ?_)
      · rw [bif_pos h55] at hF
        have q56 := (of_decide_eq_true h55)
        refine TC.seq ?_
        refine TC.region ?_
        refine TL.buildI (zs := [.const (.int .i64 (-1))]) (qs := [-1]) slT_34 rfl ⟨ev_c, trivial⟩ rfl (by decide) rfl (fun v11_0 => ?_)
        refine TL.op (yq (y_move (ev_t rfl))) rfl rfl rfl ?_
        refine TL.appendI 0 (ev_t rfl) (ev_t rfl) rfl slT_34 (ri_row 1 rfl) (by first | omega | (simp [-List.getD_eq_getElem?_getD] <;> omega)) rfl (fun v11_2 => ?_)
        refine TL.op (yq (y_assign (ev_t rfl))) rfl rfl rfl ?_
        refine TL.nil ?_
        refine TN.seq ?_
        refine TC.ret ?_
        refine TN.blockR ?_
        refine TN.thenR ?_
        subst hF
        exact TN.ret1 rfl (ev_t rfl) (fun w' hw => ⟨(by dsimp only; omega), v11_2, rfl, Hp.picksF (ks := [rowI 3 v11_2 ([-1] ++ (F_spec_l6Sort a1)), rowI 3 r6_1 (F_spec_l6Sort a1), rowI 3 va1 a1, .blk gc 61 [vc, (.int .i64 ((q7_1.2).1)), (.int .u64 ((q7_1.2).2))]]) (fr := fr) [3, 0] (by decide) rfl hw⟩)
      · rw [bif_neg h55] at hF
        have q56 := (of_decide_eq_false h55)
        refine TC.seq ?_
        refine TC.region ?_
        refine TL.op (yq (y_eql (ev_t rfl) ev_c)) rfl rfl rfl ?_
        refine TL.op (yq (y_assign (ev_t rfl))) rfl rfl rfl ?_
        refine TL.nil ?_
        refine TN.seq ?_
        refine TC.cond (b := decide (q7_1.1 = 2)) (ev_t rfl) (fun h57 => ?_) (fun h57 => ?_)
        · rw [bif_pos h57] at hF
          have q58 := (of_decide_eq_true h57)
          refine TC.seq ?_
          refine TC.region ?_
          refine TL.op (yq (y_move (ev_t rfl))) rfl rfl rfl ?_
          refine TL.buildI (zs := [.const (.int .i64 0)]) (qs := [0]) slT_34 rfl ⟨ev_c, trivial⟩ rfl (by decide) rfl (fun v13_1 => ?_)
          refine TL.appendI 1 (ev_t rfl) (ev_t rfl) rfl slT_34 (ri_row 0 rfl) (by first | omega | (simp [-List.getD_eq_getElem?_getD] <;> omega)) rfl (fun v13_2 => ?_)
          refine TL.op (yq (y_assign (ev_t rfl))) rfl rfl rfl ?_
          refine TL.nil ?_
          refine TN.seq ?_
          refine TC.ret ?_
          refine TN.blockR ?_
          refine TN.thenR ?_
          subst hF
          exact TN.ret1 rfl (ev_t rfl) (fun w' hw => ⟨(by dsimp only; omega), v13_2, rfl, Hp.picksF (ks := [rowI 3 v13_1 ([0]), rowI 3 v13_2 ((F_spec_l6Sort a1) ++ ([0])), rowI 3 va1 a1, .blk gc 61 [vc, (.int .i64 ((q7_1.2).1)), (.int .u64 ((q7_1.2).2))]]) (fr := fr) [3, 1] (by decide) rfl hw⟩)
        · rw [bif_neg h57] at hF
          have q58 := (of_decide_eq_false h57)
          refine TC.skip ?_
          refine TN.blockN ?_
          refine TN.seq ?_
          refine TC.seq ?_
          refine TC.region ?_
          refine TL.op (yq (y_move (ev_t rfl))) rfl rfl rfl ?_
          refine TL.op (yq (y_assign (ev_t rfl))) rfl rfl rfl ?_
          refine TL.nil ?_
          refine TN.seq ?_
          refine TC.ret ?_
          subst hF
          exact TN.ret1 rfl (ev_t rfl) (fun w' hw => ⟨(by dsimp only; omega), r6_1, rfl, Hp.picksF (ks := [rowI 3 r6_1 (F_spec_l6Sort a1), rowI 3 va1 a1, .blk gc 61 [vc, (.int .i64 ((q7_1.2).1)), (.int .u64 ((q7_1.2).2))]]) (fr := fr) [2, 0] (by decide) rfl hw⟩)

set_option maxRecDepth 4000 in
set_option maxHeartbeats 1000000 in
theorem spec_DrawRowDistance_ok (w : World) (vcode : Value) (code : List Int) (hcode : RB w vcode code)  :
    Calls Try.prog 35 ([vcode] : List Value).toArray w (fun e w' => ∃ i : Value × Value, e = .returned (.tuple #[i.1, i.2]) ∧ Hp w [rowI 3 i.1 ((F_spec_DrawRowDistance code).1), rowI 3 i.2 ((F_spec_DrawRowDistance code).2)] w') := by
  obtain ⟨rz, hF⟩ : ∃ rz, (F_spec_DrawRowDistance code) = rz := ⟨_, rfl⟩
  rw [hF]
  unfold F_spec_DrawRowDistance at hF
  have hlen_code := argB_len hcode
  refine calls_tc Try.func35 rfl rfl rfl ?_
  change TC _ _ _ _ (Hp w []) [(0, vcode)]
  refine TC.seq ?_
  refine TC.region ?_
  refine TL.op (yq (y_assign ev_c)) rfl rfl rfl ?_
  refine TL.op (yq (y_assign ev_c)) rfl rfl rfl ?_
  refine TL.nil ?_
  refine TN.seq ?_
  refine TC.seq ?_
  refine TC.region ?_
  refine TL.op (yq (y_move (ev_t rfl))) rfl rfl rfl ?_
  refine TL.op (yq (y_bldC (ev_t rfl) bd_61_c (fun w hw => ((rd_arg hcode.1) w hw).ln))) rfl rfl rfl ?_
  refine TL.boxCur (ev_t rfl) (fun w hw => ((rd_arg hcode.1) w hw).ln) rfl (fun g1_2 => ?_)
  refine TL.op (yq (y_assign (ev_t rfl))) rfl rfl rfl ?_
  refine TL.nil ?_
  refine TN.seq ?_
  refine TC.seq ?_
  refine TC.region ?_
  refine TL.op (yq (y_move (ev_t rfl))) rfl rfl rfl ?_
  refine TL.callmX (ι := Unit) (p := True) 0 (vs := [(.pointer (some ⟨g1_2, 0, none⟩)), (.int .i64 3)]) (fun _ => (.int .i64 ((F_spec_l1Cur_pick code 0 0 3).1))) (fun _ => .blk g1_2 61 [vcode, (.int .i64 (((F_spec_l1Cur_pick code 0 0 3).2).1)), (.int .u64 (((F_spec_l1Cur_pick code 0 0 3).2).2))]) (fun _ => []) en_43 ⟨(ev_t rfl), ev_c, trivial⟩ rfl rfl (fun w1 _ hw => spec_l1Cur_pick_ok w w1 _ g1_2 vcode code hcode 0 0 hw 3 (by first | assumption | omega | grind) (by first | assumption | omega | grind) (by first | assumption | omega | grind) (by first | assumption | omega | grind)) (fun hpo15 _ => ?_)
  replace hpo15 := pick_post hcode.2 code 0 0 3 (by omega)
  obtain ⟨q2_1, hq16⟩ : ∃ q, (F_spec_l1Cur_pick code 0 0 3) = q := ⟨_, rfl⟩
  rw [hq16] at hF hpo15 ⊢
  try dsimp only at hF
  refine TL.op (yq (y_add ev_c (ev_t rfl) (by unfold In64; omega))) rfl rfl rfl ?_
  refine TL.op (yq (y_assign (ev_t rfl))) rfl rfl rfl ?_
  refine TL.nil ?_
  refine TN.seq ?_
  refine TC.seq ?_
  refine TC.region ?_
  refine TL.op (yq (y_move (ev_t rfl))) rfl rfl rfl ?_
  refine TL.op (yq (y_move (ev_t rfl))) rfl rfl rfl ?_
  refine TL.callmX (ι := Value) (p := ((q2_1.2).1 ≤ ((F_spec_l1Cur_row code ((q2_1.2).1) ((q2_1.2).2) (1 + q2_1.1)).2).1 ∧ ((F_spec_l1Cur_row code ((q2_1.2).1) ((q2_1.2).2) (1 + q2_1.1)).2).1 ≤ ((q2_1.2).1) + 200 ∧ 0 ≤ ((F_spec_l1Cur_row code ((q2_1.2).1) ((q2_1.2).2) (1 + q2_1.1)).2).2 ∧ ((F_spec_l1Cur_row code ((q2_1.2).1) ((q2_1.2).2) (1 + q2_1.1)).2).2 < 18446744073709551616)) 0 (vs := [(.pointer (some ⟨g1_2, 0, none⟩)), (.int .i64 (1 + q2_1.1))]) (fun i => i) (fun _ => .blk g1_2 61 [vcode, (.int .i64 (((F_spec_l1Cur_row code ((q2_1.2).1) ((q2_1.2).2) (1 + q2_1.1)).2).1)), (.int .u64 (((F_spec_l1Cur_row code ((q2_1.2).1) ((q2_1.2).2) (1 + q2_1.1)).2).2))]) (fun i => [rowI 3 i ((F_spec_l1Cur_row code ((q2_1.2).1) ((q2_1.2).2) (1 + q2_1.1)).1)]) en_70 ⟨(ev_t rfl), (ev_t rfl), trivial⟩ rfl rfl (fun w1 _ hw => spec_l1Cur_row_ok w w1 _ g1_2 vcode code hcode ((q2_1.2).1) ((q2_1.2).2) hw (1 + q2_1.1) (by first | assumption | omega | grind) (by first | assumption | omega | grind) (by first | assumption | omega | grind) (by first | assumption | omega | grind) (by first | assumption | omega | grind)) (fun hpo17 r3_2 => ?_)
  obtain ⟨q3_2, hq18⟩ : ∃ q, (F_spec_l1Cur_row code ((q2_1.2).1) ((q2_1.2).2) (1 + q2_1.1)) = q := ⟨_, rfl⟩
  rw [hq18] at hF hpo17 ⊢
  try dsimp only at hF
  refine TL.op (yq (y_assign (ev_t rfl))) rfl rfl rfl ?_
  refine TL.nil ?_
  refine TN.seq ?_
  refine TC.seq ?_
  refine TC.seq ?_
  refine TC.region ?_
  refine TL.op (yq (y_move (ev_t rfl))) rfl rfl rfl ?_
  refine TL.callmX (ι := Unit) (p := True) 1 (vs := [(.pointer (some ⟨g1_2, 0, none⟩)), (.int .i64 12)]) (fun _ => (.bool ((F_spec_l1Cur_one code ((q3_2.2).1) ((q3_2.2).2) 12).1))) (fun _ => .blk g1_2 61 [vcode, (.int .i64 (((F_spec_l1Cur_one code ((q3_2.2).1) ((q3_2.2).2) 12).2).1)), (.int .u64 (((F_spec_l1Cur_one code ((q3_2.2).1) ((q3_2.2).2) 12).2).2))]) (fun _ => []) en_44 ⟨(ev_t rfl), ev_c, trivial⟩ rfl rfl (fun w1 _ hw => spec_l1Cur_one_ok w w1 _ g1_2 vcode code hcode ((q3_2.2).1) ((q3_2.2).2) hw 12 (by first | assumption | omega | grind) (by first | assumption | omega | grind) (by first | assumption | omega | grind) (by first | assumption | omega | grind)) (fun hpo19 _ => ?_)
  replace hpo19 := one_post hcode.2 code ((q3_2.2).1) ((q3_2.2).2) 12 (by omega)
  obtain ⟨q4_1, hq20⟩ : ∃ q, (F_spec_l1Cur_one code ((q3_2.2).1) ((q3_2.2).2) 12) = q := ⟨_, rfl⟩
  rw [hq20] at hF hpo19 ⊢
  try dsimp only at hF
  refine TL.nil ?_
  refine TN.seq ?_
  refine TC.cond (b := q4_1.1) (ev_t rfl) (fun h21 => ?_) (fun h21 => ?_)
  · rw [bif_pos h21] at hF
    have q22 := h21
    refine TC.region ?_
    refine TL.op (yq (y_move (ev_t rfl))) rfl rfl rfl ?_
    refine TL.callmX (ι := Unit) (p := True) 1 (vs := [(.pointer (some ⟨g1_2, 0, none⟩)), (.int .i64 3)]) (fun _ => (.int .i64 ((F_spec_l1Cur_pick code ((q4_1.2).1) ((q4_1.2).2) 3).1))) (fun _ => .blk g1_2 61 [vcode, (.int .i64 (((F_spec_l1Cur_pick code ((q4_1.2).1) ((q4_1.2).2) 3).2).1)), (.int .u64 (((F_spec_l1Cur_pick code ((q4_1.2).1) ((q4_1.2).2) 3).2).2))]) (fun _ => []) en_43 ⟨(ev_t rfl), ev_c, trivial⟩ rfl rfl (fun w1 _ hw => spec_l1Cur_pick_ok w w1 _ g1_2 vcode code hcode ((q4_1.2).1) ((q4_1.2).2) hw 3 (by first | assumption | omega | grind) (by first | assumption | omega | grind) (by first | assumption | omega | grind) (by first | assumption | omega | grind)) (fun hpo23 _ => ?_)
    replace hpo23 := pick_post hcode.2 code ((q4_1.2).1) ((q4_1.2).2) 3 (by omega)
    obtain ⟨q5_1, hq24⟩ : ∃ q, (F_spec_l1Cur_pick code ((q4_1.2).1) ((q4_1.2).2) 3) = q := ⟨_, rfl⟩
    rw [hq24] at hF hpo23 ⊢
    try dsimp only at hF
    refine TL.op (yq (y_add ev_c (ev_t rfl) (by unfold In64; omega))) rfl rfl rfl ?_
    refine TL.op (yq (y_assign (ev_t rfl))) rfl rfl rfl ?_
    refine TL.nil ?_
    refine TN.seq ?_
    refine TC.seq ?_
    refine TC.region ?_
    refine TL.op (yq (y_move (ev_t rfl))) rfl rfl rfl ?_
    refine TL.op (yq (y_move (ev_t rfl))) rfl rfl rfl ?_
    refine TL.op (yq (y_move (ev_t rfl))) rfl rfl rfl ?_
    refine TL.callmX (ι := Value) (p := ((q5_1.2).1 ≤ ((F_spec_l1Cur_row code ((q5_1.2).1) ((q5_1.2).2) (1 + q5_1.1)).2).1 ∧ ((F_spec_l1Cur_row code ((q5_1.2).1) ((q5_1.2).2) (1 + q5_1.1)).2).1 ≤ ((q5_1.2).1) + 200 ∧ 0 ≤ ((F_spec_l1Cur_row code ((q5_1.2).1) ((q5_1.2).2) (1 + q5_1.1)).2).2 ∧ ((F_spec_l1Cur_row code ((q5_1.2).1) ((q5_1.2).2) (1 + q5_1.1)).2).2 < 18446744073709551616)) 1 (vs := [(.pointer (some ⟨g1_2, 0, none⟩)), (.int .i64 (1 + q5_1.1))]) (fun i => i) (fun _ => .blk g1_2 61 [vcode, (.int .i64 (((F_spec_l1Cur_row code ((q5_1.2).1) ((q5_1.2).2) (1 + q5_1.1)).2).1)), (.int .u64 (((F_spec_l1Cur_row code ((q5_1.2).1) ((q5_1.2).2) (1 + q5_1.1)).2).2))]) (fun i => [rowI 3 i ((F_spec_l1Cur_row code ((q5_1.2).1) ((q5_1.2).2) (1 + q5_1.1)).1)]) en_70 ⟨(ev_t rfl), (ev_t rfl), trivial⟩ rfl rfl (fun w1 _ hw => spec_l1Cur_row_ok w w1 _ g1_2 vcode code hcode ((q5_1.2).1) ((q5_1.2).2) hw (1 + q5_1.1) (by first | assumption | omega | grind) (by first | assumption | omega | grind) (by first | assumption | omega | grind) (by first | assumption | omega | grind) (by first | assumption | omega | grind)) (fun hpo25 r6_3 => ?_)
    obtain ⟨q6_3, hq26⟩ : ∃ q, (F_spec_l1Cur_row code ((q5_1.2).1) ((q5_1.2).2) (1 + q5_1.1)) = q := ⟨_, rfl⟩
    rw [hq26] at hF hpo25 ⊢
    try dsimp only at hF
    refine TL.op (yq (y_assign (ev_t rfl))) rfl rfl rfl ?_
    refine TL.op (yq (y_assign (ev_t rfl))) rfl rfl rfl ?_
    refine TL.nil ?_
    refine TN.seq ?_
    refine TC.ret ?_
    subst hF
    exact TN.ret2 rfl (ev_t rfl) (ev_t rfl) (fun w' hw => ⟨(r3_2, r6_3), rfl, Hp.picks [1, 0] (by decide) rfl hw⟩)
  · rw [bif_neg h21] at hF
    have q22 := h21
    refine TC.skip ?_
    refine TN.seq ?_
    refine TC.seq ?_
    refine TC.region ?_
    refine TL.op (yq (y_move (ev_t rfl))) rfl rfl rfl ?_
    refine TL.op (yq (y_move (ev_t rfl))) rfl rfl rfl ?_
    refine TL.op (yq (y_move (ev_t rfl))) rfl rfl rfl ?_
    refine TL.callmX (ι := Value) (p := ((q4_1.2).1 ≤ ((F_spec_l1Cur_row code ((q4_1.2).1) ((q4_1.2).2) (1 + q2_1.1)).2).1 ∧ ((F_spec_l1Cur_row code ((q4_1.2).1) ((q4_1.2).2) (1 + q2_1.1)).2).1 ≤ ((q4_1.2).1) + 200 ∧ 0 ≤ ((F_spec_l1Cur_row code ((q4_1.2).1) ((q4_1.2).2) (1 + q2_1.1)).2).2 ∧ ((F_spec_l1Cur_row code ((q4_1.2).1) ((q4_1.2).2) (1 + q2_1.1)).2).2 < 18446744073709551616)) 1 (vs := [(.pointer (some ⟨g1_2, 0, none⟩)), (.int .i64 (1 + q2_1.1))]) (fun i => i) (fun _ => .blk g1_2 61 [vcode, (.int .i64 (((F_spec_l1Cur_row code ((q4_1.2).1) ((q4_1.2).2) (1 + q2_1.1)).2).1)), (.int .u64 (((F_spec_l1Cur_row code ((q4_1.2).1) ((q4_1.2).2) (1 + q2_1.1)).2).2))]) (fun i => [rowI 3 i ((F_spec_l1Cur_row code ((q4_1.2).1) ((q4_1.2).2) (1 + q2_1.1)).1)]) en_70 ⟨(ev_t rfl), (ev_t rfl), trivial⟩ rfl rfl (fun w1 _ hw => spec_l1Cur_row_ok w w1 _ g1_2 vcode code hcode ((q4_1.2).1) ((q4_1.2).2) hw (1 + q2_1.1) (by first | assumption | omega | grind) (by first | assumption | omega | grind) (by first | assumption | omega | grind) (by first | assumption | omega | grind) (by first | assumption | omega | grind)) (fun hpo27 r6_3 => ?_)
    obtain ⟨q6_3, hq28⟩ : ∃ q, (F_spec_l1Cur_row code ((q4_1.2).1) ((q4_1.2).2) (1 + q2_1.1)) = q := ⟨_, rfl⟩
    rw [hq28] at hF hpo27 ⊢
    try dsimp only at hF
    refine TL.op (yq (y_assign (ev_t rfl))) rfl rfl rfl ?_
    refine TL.op (yq (y_assign (ev_t rfl))) rfl rfl rfl ?_
    refine TL.nil ?_
    refine TN.seq ?_
    refine TC.ret ?_
    subst hF
    exact TN.ret2 rfl (ev_t rfl) (ev_t rfl) (fun w' hw => ⟨(r3_2, r6_3), rfl, Hp.picks [1, 0] (by decide) rfl hw⟩)

end Go.Proofs.Ytfhhfhiooehlcaa
