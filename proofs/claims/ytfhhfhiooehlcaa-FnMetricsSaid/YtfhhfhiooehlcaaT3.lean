/-
  Walks of functions of the program: each computes its plain function. No condition but the bounds that are typed.
-/
import Derived.Test.YtfhhfhiooehlcaaT2
namespace Go.Proofs.Ytfhhfhiooehlcaa
open Go Go.RowKit
set_option linter.unusedVariables false

set_option maxRecDepth 4000 in
set_option maxHeartbeats 1000000 in
theorem spec_l6Ways_ok_R (fr : Nat) : ∀ (w : World) (vm : Value) (um : List Value) (m : List (List Int)) (hm : RII w vm um m) (vbegun : Value) (begun : List Int) (hbegun : RI w vbegun begun) (sum : Int) (to : Int) (hp0 : TabP true m) (hp1 : Smp m.length begun) (hp2 : 0 ≤ sum) (hp3 : sum ≤ 99 * begun.length) (hfr : m.length - begun.length < fr),
    Calls Try.prog 67 ([(.agg #[vm]), vbegun, (.int .i64 sum), (.int .i64 to)] : List Value).toArray w (fun e w' => ∃ i : Value, e = .returned (.tuple #[i, (.int .i64 ((F_spec_l6Ways_R fr m begun sum to).2))]) ∧ Hp w [rowI 3 i ((F_spec_l6Ways_R fr m begun sum to).1)] w') := by
  induction fr with
  | zero => intro w; intros; omega
  | succ mr ih =>
    intro w vm um m hm vbegun begun hbegun sum to hp0 hp1 hp2 hp3 hfr
    obtain ⟨rz, hF⟩ : ∃ rz, (F_spec_l6Ways_R (mr + 1) m begun sum to) = rz := ⟨_, rfl⟩
    rw [hF]
    rw [F_spec_l6Ways_R_s] at hF
    have hn6 := hp0.n6
    have hsl := hp1.len
    have hs1 := hp1.n1
    have hla := hp1.last
    have hl1 : 0 ≤ begun.getD (((begun.length : Int) - 1).toNat) 0 := hla.1
    have hl2 : begun.getD (((begun.length : Int) - 1).toNat) 0 < m.length := hla.2.1
    have hrw := hp0.rows ((begun.getD (((begun.length : Int) - 1).toNat) 0)).toNat (by omega)
    have hlen_m := argT_len hm
    have hlen_begun := arg_len hbegun
    refine calls_tc Try.func67 rfl rfl rfl ?_
    change TC _ _ _ _ (Hp w []) [(0, (.agg #[vm])), (1, vbegun), (2, (.int .i64 sum)), (3, (.int .i64 to))]
    refine TC.seq ?_
    refine TC.region ?_
    refine TL.box (ev_t rfl) rfl (fun g0_0 => ?_)
    refine TL.op (yq (y_assign ev_c)) rfl rfl rfl ?_
    refine TL.op (yq (y_assign ev_c)) rfl rfl rfl ?_
    refine TL.nil ?_
    refine TN.seq ?_
    refine TC.seq ?_
    refine TC.region ?_
    refine TL.op (yq (y_move (ev_t rfl))) rfl rfl rfl ?_
    refine TL.op (yq (y_move (ev_t rfl))) rfl rfl rfl ?_
    refine TL.op (yq (y_len (ev_t rfl) Try.underlying34 (fun w hw => ((ri_arg hbegun) w hw).ln))) rfl rfl rfl ?_
    refine TL.op (yq (y_sub (ev_t rfl) ev_c (by unfold In64; omega))) rfl rfl rfl ?_
    have hb28 : ((begun.length : Int) - 1).toNat < begun.length := (by first | omega | (simp only [List.length_set, List.length_append, List.length_cons, List.length_nil, List.length_replicate]; omega) | (rw [sortI_length]; simp only [List.length_cons, List.length_nil]; omega))
    refine TL.op (yq (y_idx (k := ((begun.length : Int) - 1).toNat) (ev_t rfl) (ev_t rfl) (by first | omega | simp) slT_34 (ri_arg hbegun) hb28)) rfl rfl rfl ?_
    refine TL.op (yq (y_ldi (ev_t rfl) one_3 (ri_arg hbegun) hb28)) rfl rfl rfl ?_
    refine TL.op (yq (y_assign (ev_t rfl))) rfl rfl rfl ?_
    refine TL.nil ?_
    refine TN.seq ?_
    refine TC.seq ?_
    refine TC.seq ?_
    refine TC.region ?_
    refine TL.op (yq (y_move (ev_t rfl))) rfl rfl rfl ?_
    refine TL.op (yq (y_move (ev_t rfl))) rfl rfl rfl ?_
    refine TL.op (yq (y_eql (ev_t rfl) (ev_t rfl))) rfl rfl rfl ?_
    refine TL.nil ?_
    refine TN.seq ?_
    refine TC.cond (b := decide ((begun.getD (((begun.length : Int) - 1).toNat) 0) = to)) (ev_t rfl) (fun h29 => ?_) (fun h29 => ?_)
    · rw [bif_pos h29] at hF
      have q30 := (of_decide_eq_true h29)
      refine TC.seq ?_
      refine TC.region ?_
      refine TL.buildI (zs := []) (qs := []) slT_34 rfl trivial rfl (by decide) rfl (fun v3_0 => ?_)
      refine TL.op (yq (y_move (ev_t rfl))) rfl rfl rfl ?_
      refine TL.appendI 0 (ev_t rfl) (ev_t rfl) rfl slT_34 (ri_arg hbegun) (by first | omega | (simp [-List.getD_eq_getElem?_getD] <;> omega)) rfl (fun v3_2 => ?_)
      refine TL.op (yq (y_move (ev_t rfl))) rfl rfl rfl ?_
      refine TL.op (yq (y_assign (ev_t rfl))) rfl rfl rfl ?_
      refine TL.op (yq (y_assign (ev_t rfl))) rfl rfl rfl ?_
      refine TL.nil ?_
      refine TN.seq ?_
      refine TC.ret ?_
      refine TN.thenR ?_
      subst hF
      exact TN.ret2 rfl (ev_t rfl) (ev_t rfl) (fun w' hw => ⟨v3_2, rfl, Hp.sublist hw (.cons_cons _ (.cons _ .slnil))⟩)
    · rw [bif_neg h29] at hF
      have q30 := (of_decide_eq_false h29)
      refine TC.skip ?_
      refine TN.seq ?_
      refine TC.seq ?_
      refine TC.region ?_
      refine TL.buildI (zs := []) (qs := []) slT_34 rfl trivial rfl (by decide) rfl (fun v4_0 => ?_)
      refine TL.op (yq (y_assign (ev_t rfl))) rfl rfl rfl ?_
      refine TL.op (yq (y_assign ev_c)) rfl rfl rfl ?_
      refine TL.nil ?_
      refine TN.seq ?_
      refine TC.seq ?_
      refine TC.seq ?_
      refine TC.region ?_
      refine TL.op (yq (y_assign ev_c)) rfl rfl rfl ?_
      refine TL.nil ?_
      refine TN.seq ?_
      refine TC.block ?_
      obtain ⟨c31, hc32⟩ : ∃ c, F_spec_l6Ways_L1 m begun sum to (F_spec_l6Ways_R mr) ((m.length - 0) + 1) (([] : List Int), (-1), 0) = c := ⟨_, rfl⟩
      rw [hc32] at hF
      refine TC.loop (ι := Nat × List Int × Int × Nat × Value) (fun (fu1, k11_1, k12_1, k13_1, vk11_1) => [(1, vbegun), (2, (.int .i64 sum)), (3, (.int .i64 to)), (4, (.pointer (some ⟨g0_0, 0, none⟩))), (10, (.int .i64 (begun.getD (((begun.length : Int) - 1).toNat) 0))), (11, vk11_1), (12, (.int .i64 k12_1)), (13, (.int .i64 (k13_1 : Int)))]) (fun (fu1, k11_1, k12_1, k13_1, vk11_1) => Hp w [rowI 3 vk11_1 k11_1, .blk g0_0 45 [vm]]) (fun (fu1, k11_1, k12_1, k13_1, vk11_1) => (k13_1 ≤ m.length) ∧ m.length - k13_1 < fu1 ∧ F_spec_l6Ways_L1 m begun sum to (F_spec_l6Ways_R mr) fu1 (k11_1, k12_1, k13_1) = c31) (fun (fu1, k11_1, k12_1, k13_1, vk11_1) => fu1) ((m.length - 0) + 1, ([] : List Int), -1, 0, v4_0) ⟨(by first | omega | (simp [-List.getD_eq_getElem?_getD] <;> omega)), (by omega), hc32⟩ ⟨rfl, rfl, rfl, rfl, rfl, rfl, rfl, rfl, trivial⟩ (fun w hw => hw) ?_
      rintro ⟨fu1, k11_1, k12_1, k13_1, vk11_1⟩ hJ1
      obtain ⟨hi1_0, hmu1, hL1⟩ : (k13_1 ≤ m.length) ∧ m.length - k13_1 < fu1 ∧ F_spec_l6Ways_L1 m begun sum to (F_spec_l6Ways_R mr) fu1 (k11_1, k12_1, k13_1) = c31 := hJ1
      change TC _ _ _ _ (Hp w [rowI 3 vk11_1 k11_1, .blk g0_0 45 [vm]]) [(1, vbegun), (2, (.int .i64 sum)), (3, (.int .i64 to)), (4, (.pointer (some ⟨g0_0, 0, none⟩))), (10, (.int .i64 (begun.getD (((begun.length : Int) - 1).toNat) 0))), (11, vk11_1), (12, (.int .i64 k12_1)), (13, (.int .i64 (k13_1 : Int)))]
      obtain ⟨mf1, rfl⟩ : ∃ m, fu1 = m + 1 := ⟨fu1 - 1, by omega⟩
      rw [F_spec_l6Ways_L1_s] at hL1
      refine TC.seq ?_
      refine TC.seq ?_
      refine TC.region ?_
      refine TL.op (yq (y_move (ev_t rfl))) rfl rfl rfl ?_
      refine TL.op (yq (y_fa (fa_45_0 g0_0) (ev_t rfl))) rfl rfl rfl ?_
      refine TL.op (yq (y_ldb 1 (ev_t rfl) one_43 rfl rfl)) rfl rfl rfl ?_
      refine TL.op (yq (y_len (ev_t rfl) Try.underlying43 (fun w hw => ((fun w hw => ((rii_arg hm) w hw).1) w hw).ln))) rfl rfl rfl ?_
      refine TL.op (yq (y_lss (ev_t rfl) (ev_t rfl))) rfl rfl rfl ?_
      refine TL.nil ?_
      refine TN.seq ?_
      refine TC.cond (b := decide ((k13_1 : Int) < (m.length : Int))) (ev_t rfl) (fun h33 => ?_) (fun h33 => ?_)
      · rw [bif_pos h33] at hL1
        have q34 := (of_decide_eq_true h33)
        refine TC.skip ?_
        refine TN.seq ?_
        refine TC.seq ?_
        refine TC.block ?_
        refine TC.seq ?_
        refine TC.seq ?_
        refine TC.region ?_
        refine TL.op (yq (y_fa (fa_45_0 g0_0) (ev_t rfl))) rfl rfl rfl ?_
        refine TL.op (yq (y_ldb 1 (ev_t rfl) one_43 rfl rfl)) rfl rfl rfl ?_
        refine TL.op (yq (y_move (ev_t rfl))) rfl rfl rfl ?_
        have hb35 : ((begun.getD (((begun.length : Int) - 1).toNat) 0)).toNat < m.length := (by first | omega | (simp only [List.length_set, List.length_append, List.length_cons, List.length_nil, List.length_replicate]; omega) | (rw [sortI_length]; simp only [List.length_cons, List.length_nil]; omega))
        refine TL.op (yq (y_idx (k := ((begun.getD (((begun.length : Int) - 1).toNat) 0)).toNat) (ev_t rfl) (ev_t rfl) (by first | omega | simp) slT_43 (fun w hw => ((rii_arg hm) w hw).1) hb35)) rfl rfl rfl ?_
        have ha36 := hm.row (i := ((begun.getD (((begun.length : Int) - 1).toNat) 0)).toNat) hb35
        refine TL.op (yq (y_ldA (ev_t rfl) one_34 (rii_arg hm) hb35)) rfl rfl rfl ?_
        refine TL.op (yq (y_move (ev_t rfl))) rfl rfl rfl ?_
        have hb37 : k13_1 < (m.getD (((begun.getD (((begun.length : Int) - 1).toNat) 0)).toNat) []).length := (by first | omega | (simp only [List.length_set, List.length_append, List.length_cons, List.length_nil, List.length_replicate]; omega) | (rw [sortI_length]; simp only [List.length_cons, List.length_nil]; omega))
        refine TL.op (yq (y_idx (k := k13_1) (ev_t rfl) (ev_t rfl) (by first | omega | simp) slT_34 (ri_arg ha36) hb37)) rfl rfl rfl ?_
        refine TL.op (yq (y_ldi (ev_t rfl) one_3 (ri_arg ha36) hb37)) rfl rfl rfl ?_
        refine TL.op (yq (y_lss (ev_t rfl) ev_c)) rfl rfl rfl ?_
        refine TL.op (yq (y_move (ev_t rfl))) rfl rfl rfl ?_
        refine TL.opw (w_f rfl rfl rfl) (fun hg => yq (y_move (ev_t rfl))) rfl rfl ?_
        refine TL.opw (w_f rfl rfl rfl) (fun hg => yq (y_move (ev_t rfl))) rfl rfl ?_
        refine TL.opw (w_f rfl rfl rfl) (fun hg => y_call (vs := [vbegun, (.int .i64 (k13_1 : Int))]) (v := (.bool (F_spec_l1Has begun (k13_1 : Int)))) en_75 ⟨(ev_g rfl hg), (ev_g rfl hg), trivial⟩ (fun w hw => spec_l1Has_ok w vbegun begun ((ri_arg hbegun) w hw) (k13_1 : Int))) rfl rfl ?_
        refine TL.op (yq (y_or (ev_t rfl) (fun hq => (ev_g rfl hq)))) rfl rfl rfl ?_
        refine TL.nil ?_
        refine TN.seq ?_
        refine TC.cond (b := ((decide (((m.getD (((begun.getD (((begun.length : Int) - 1).toNat) 0)).toNat) []).getD k13_1 0) < 0)) || (F_spec_l1Has begun (k13_1 : Int)))) (ev_t rfl) (fun h38 => ?_) (fun h38 => ?_)
        · rw [bif_pos h38] at hL1
          have q39 := ((or_t h38).imp (fun h => (of_decide_eq_true h)) (fun h => h))
          refine TC.exit ?_
          refine TN.thenE ?_
          refine TN.blockH ?_
          refine TN.seq ?_
          refine TC.region ?_
          refine TL.op (yq (y_move (ev_t rfl))) rfl rfl rfl ?_
          refine TL.op (yq (y_add (ev_t rfl) ev_c (by unfold In64; omega))) rfl rfl rfl ?_
          refine TL.op (yq (y_assign (ev_t rfl))) rfl rfl rfl ?_
          refine TL.nil ?_
          exact TN.hand (mf1, k11_1, k12_1, (k13_1 + 1), vk11_1) ⟨(by first | omega | (simp [-List.getD_eq_getElem?_getD] <;> omega)), (by omega), hL1⟩ (Nat.lt_succ_self _) ⟨rfl, rfl, rfl, rfl, rfl, rfl, rfl, rfl, trivial⟩ (fun w hw => hw)
        · rw [bif_neg h38] at hL1
          have q39 := (and_imp (or_f h38) (fun h => (of_decide_eq_false h)) (fun h => (l1Has_f h)))
          have hsc := hp1.push (k := k13_1) (by omega) (has_false q39.2)
          have hscl := hsc.len
          have hme := hp0.tab.el ((begun.getD (((begun.length : Int) - 1).toNat) 0)).toNat k13_1
          have hq1 := q39.1
          have hlc : ((([] : List Int) ++ begun) ++ [(k13_1 : Int)]).length = begun.length + 1 := by simp
          refine TC.skip ?_
          refine TN.seq ?_
          refine TC.seq ?_
          refine TC.mid (fun a' w' => ∃ r9_18 : Value, Slots 88 [(1, vbegun), (2, (.int .i64 sum)), (3, (.int .i64 to)), (4, (.pointer (some ⟨g0_0, 0, none⟩))), (10, (.int .i64 (begun.getD (((begun.length : Int) - 1).toNat) 0))), (11, vk11_1), (12, (.int .i64 k12_1)), (13, (.int .i64 (k13_1 : Int))), (14, r9_18), (15, (.int .i64 (((F_spec_l6Ways_R mr) m ((([] : List Int) ++ begun) ++ ([(k13_1 : Int)])) (sum + ((m.getD (((begun.getD (((begun.length : Int) - 1).toNat) 0)).toNat) []).getD k13_1 0)) to).2)))] a' ∧ Hp w [rowI 3 r9_18 (((F_spec_l6Ways_R mr) m ((([] : List Int) ++ begun) ++ ([(k13_1 : Int)])) (sum + ((m.getD (((begun.getD (((begun.length : Int) - 1).toNat) 0)).toNat) []).getD k13_1 0)) to).1), rowI 3 vk11_1 k11_1, .blk g0_0 45 [vm]] w') ?_ ?_
          · refine TC.regionH 24 (Hp w [rowI 3 vk11_1 k11_1, .blk g0_0 45 [vm]]) rfl (by kernel_rfl) dr_hp (fun w hw => hw) ?_
            refine TH.take 0 rfl (by kernel_rfl) (y_ldagg (cs := [vm]) 1 (ev_t rfl) agg_45 rfl) rfl rfl rfl ?_
            refine TH.take 2 rfl (by kernel_rfl) (y_move (ev_t rfl)) rfl rfl rfl ?_
            refine TH.take 4 rfl (by kernel_rfl) (y_move (ev_t rfl)) rfl rfl rfl ?_
            refine TH.take 7 rfl (by kernel_rfl) (y_move (ev_t rfl)) rfl rfl rfl ?_
            refine TH.take 8 rfl (by kernel_rfl) (y_fa (fa_45_0 g0_0) (ev_t rfl)) rfl rfl rfl ?_
            refine TH.take 9 rfl (by kernel_rfl) (y_ldb 1 (ev_t rfl) one_43 rfl rfl) rfl rfl rfl ?_
            refine TH.take 10 rfl (by kernel_rfl) (y_move (ev_t rfl)) rfl rfl rfl ?_
            have hb40 : ((begun.getD (((begun.length : Int) - 1).toNat) 0)).toNat < m.length := (by first | omega | (simp only [List.length_set, List.length_append, List.length_cons, List.length_nil, List.length_replicate]; omega) | (rw [sortI_length]; simp only [List.length_cons, List.length_nil]; omega))
            refine TH.take 11 rfl (by kernel_rfl) (y_idx (k := ((begun.getD (((begun.length : Int) - 1).toNat) 0)).toNat) (ev_t rfl) (ev_t rfl) (by first | omega | simp) slT_43 (fun w hw => ((rii_arg hm) w hw).1) hb40) rfl rfl rfl ?_
            have ha41 := hm.row (i := ((begun.getD (((begun.length : Int) - 1).toNat) 0)).toNat) hb40
            refine TH.take 12 rfl (by kernel_rfl) (y_ldA (ev_t rfl) one_34 (rii_arg hm) hb40) rfl rfl rfl ?_
            refine TH.take 13 rfl (by kernel_rfl) (y_move (ev_t rfl)) rfl rfl rfl ?_
            have hb42 : k13_1 < (m.getD (((begun.getD (((begun.length : Int) - 1).toNat) 0)).toNat) []).length := (by first | omega | (simp only [List.length_set, List.length_append, List.length_cons, List.length_nil, List.length_replicate]; omega) | (rw [sortI_length]; simp only [List.length_cons, List.length_nil]; omega))
            refine TH.take 14 rfl (by kernel_rfl) (y_idx (k := k13_1) (ev_t rfl) (ev_t rfl) (by first | omega | simp) slT_34 (ri_arg ha41) hb42) rfl rfl rfl ?_
            refine TH.take 15 rfl (by kernel_rfl) (y_ldi (ev_t rfl) one_3 (ri_arg ha41) hb42) rfl rfl rfl ?_
            refine TH.take 16 rfl (by kernel_rfl) (y_add (ev_t rfl) (ev_t rfl) (by unfold In64; omega)) rfl rfl rfl ?_
            refine TH.take 17 rfl (by kernel_rfl) (y_move (ev_t rfl)) rfl rfl rfl ?_
            refine TH.loud2 1 5 rfl rfl (by kernel_rfl) ?_ ?_
            · refine TL.buildI (zs := []) (qs := []) slT_34 rfl trivial rfl (by decide) rfl (fun v9_1 => ?_)
              refine TL.nil ?_
              refine TH.back (fun w hw => Hp.sublist hw (.cons _ (.cons_cons _ (.cons_cons _ .slnil)))) ?_
              refine TH.loud2 3 5 rfl rfl (by kernel_rfl) ?_ ?_
              · refine TL.appendI 0 (ev_t rfl) (ev_t rfl) rfl slT_34 (ri_arg hbegun) (by first | omega | (simp [-List.getD_eq_getElem?_getD] <;> omega)) rfl (fun v9_3 => ?_)
                refine TL.nil ?_
                refine TH.back (fun w hw => Hp.sublist hw (.cons _ (.cons_cons _ (.cons_cons _ .slnil)))) ?_
                refine TH.loud 5 rfl (by kernel_rfl) ?_
                refine TL.buildI (zs := [.tmp 56]) (qs := [(k13_1 : Int)]) slT_34 rfl ⟨(ev_t rfl), trivial⟩ rfl (by decide) rfl (fun v9_5 => ?_)
                refine TL.nil ?_
                refine TH.back (fun w hw => Hp.sublist hw (.cons _ (.cons _ (.cons_cons _ (.cons_cons _ .slnil))))) ?_
                refine TH.loud 6 rfl (by kernel_rfl) ?_
                refine TL.appendI 1 (ev_t rfl) (ev_t rfl) rfl slT_34 (ri_row 0 rfl) (by first | omega | (simp [-List.getD_eq_getElem?_getD] <;> omega)) rfl (fun v9_6 => ?_)
                refine TL.nil ?_
                refine TH.back (fun w hw => Hp.sublist hw (.cons _ (.cons _ (.cons_cons _ (.cons_cons _ .slnil))))) ?_
                refine TH.loud 18 rfl (by kernel_rfl) ?_
                refine TL.callr (ι := Value) (vs := [(.agg #[vm]), v9_6, (.int .i64 (sum + ((m.getD (((begun.getD (((begun.length : Int) - 1).toNat) 0)).toNat) []).getD k13_1 0))), (.int .i64 to)]) (fun i => (.tuple #[i, (.int .i64 (((F_spec_l6Ways_R mr) m ((([] : List Int) ++ begun) ++ ([(k13_1 : Int)])) (sum + ((m.getD (((begun.getD (((begun.length : Int) - 1).toNat) 0)).toNat) []).getD k13_1 0)) to).2))])) (fun i => [rowI 3 i (((F_spec_l6Ways_R mr) m ((([] : List Int) ++ begun) ++ ([(k13_1 : Int)])) (sum + ((m.getD (((begun.getD (((begun.length : Int) - 1).toNat) 0)).toNat) []).getD k13_1 0)) to).1)]) en_67 ⟨(ev_t rfl), (ev_t rfl), (ev_t rfl), (ev_t rfl), trivial⟩ rfl (fun w hw => ih w vm um m ((rii_arg hm) w hw) v9_6 ((([] : List Int) ++ begun) ++ ([(k13_1 : Int)])) ((ri_row 1 rfl) w hw) (sum + ((m.getD (((begun.getD (((begun.length : Int) - 1).toNat) 0)).toNat) []).getD k13_1 0)) to (by first | assumption | omega | grind) (by first | assumption | omega | grind) (by first | assumption | omega | grind) (by first | assumption | omega | grind) (by omega)) (fun r9_18 => ?_)
                refine TL.nil ?_
                refine TH.back (fun w hw => Hp.sublist hw (.cons _ (.cons _ (.cons _ (.cons_cons _ (.cons_cons _ .slnil)))))) ?_
                refine TH.take 19 rfl (by kernel_rfl) (y_move (ev_t rfl)) rfl rfl rfl ?_
                refine TH.take 20 rfl (by kernel_rfl) (y_extract (ev_t rfl) rfl) rfl rfl rfl ?_
                refine TH.take 21 rfl (by kernel_rfl) (y_extract (ev_t rfl) rfl) rfl rfl rfl ?_
                refine TH.take 22 rfl (by kernel_rfl) (y_assign (ev_t rfl)) rfl rfl rfl ?_
                refine TH.take 23 rfl (by kernel_rfl) (y_assign (ev_t rfl)) rfl rfl rfl ?_
                refine TH.done (by kernel_rfl) ?_
                exact fun a' w' hs hw => ⟨r9_18, hs.sub ⟨rfl, rfl, rfl, rfl, rfl, rfl, rfl, rfl, rfl, rfl, trivial⟩, Hp.sublist hw (.cons_cons _ (.cons _ (.cons _ (.cons_cons _ (.cons_cons _ .slnil)))))⟩
              · refine TL.buildI (zs := [.tmp 56]) (qs := [(k13_1 : Int)]) slT_34 rfl ⟨(ev_t rfl), trivial⟩ rfl (by decide) rfl (fun v9_5 => ?_)
                refine TL.nil ?_
                refine TH.back (fun w hw => Hp.sublist hw (.cons _ (.cons _ (.cons_cons _ (.cons_cons _ .slnil))))) ?_
                refine TH.loud 3 rfl (by kernel_rfl) ?_
                refine TL.appendI 1 (ev_t rfl) (ev_t rfl) rfl slT_34 (ri_arg hbegun) (by first | omega | (simp [-List.getD_eq_getElem?_getD] <;> omega)) rfl (fun v9_3 => ?_)
                refine TL.nil ?_
                refine TH.back (fun w hw => Hp.sublist hw (.cons _ (.cons _ (.cons_cons _ (.cons_cons _ .slnil))))) ?_
                refine TH.loud 6 rfl (by kernel_rfl) ?_
                refine TL.appendI 1 (ev_t rfl) (ev_t rfl) rfl slT_34 (ri_row 0 rfl) (by first | omega | (simp [-List.getD_eq_getElem?_getD] <;> omega)) rfl (fun v9_6 => ?_)
                refine TL.nil ?_
                refine TH.back (fun w hw => Hp.sublist hw (.cons _ (.cons _ (.cons_cons _ (.cons_cons _ .slnil))))) ?_
                refine TH.loud 18 rfl (by kernel_rfl) ?_
                refine TL.callr (ι := Value) (vs := [(.agg #[vm]), v9_6, (.int .i64 (sum + ((m.getD (((begun.getD (((begun.length : Int) - 1).toNat) 0)).toNat) []).getD k13_1 0))), (.int .i64 to)]) (fun i => (.tuple #[i, (.int .i64 (((F_spec_l6Ways_R mr) m ((([] : List Int) ++ begun) ++ ([(k13_1 : Int)])) (sum + ((m.getD (((begun.getD (((begun.length : Int) - 1).toNat) 0)).toNat) []).getD k13_1 0)) to).2))])) (fun i => [rowI 3 i (((F_spec_l6Ways_R mr) m ((([] : List Int) ++ begun) ++ ([(k13_1 : Int)])) (sum + ((m.getD (((begun.getD (((begun.length : Int) - 1).toNat) 0)).toNat) []).getD k13_1 0)) to).1)]) en_67 ⟨(ev_t rfl), (ev_t rfl), (ev_t rfl), (ev_t rfl), trivial⟩ rfl (fun w hw => ih w vm um m ((rii_arg hm) w hw) v9_6 ((([] : List Int) ++ begun) ++ ([(k13_1 : Int)])) ((ri_row 1 rfl) w hw) (sum + ((m.getD (((begun.getD (((begun.length : Int) - 1).toNat) 0)).toNat) []).getD k13_1 0)) to (by first | assumption | omega | grind) (by first | assumption | omega | grind) (by first | assumption | omega | grind) (by first | assumption | omega | grind) (by omega)) (fun r9_18 => ?_)
                refine TL.nil ?_
                refine TH.back (fun w hw => Hp.sublist hw (.cons _ (.cons _ (.cons _ (.cons_cons _ (.cons_cons _ .slnil)))))) ?_
                refine TH.take 19 rfl (by kernel_rfl) (y_move (ev_t rfl)) rfl rfl rfl ?_
                refine TH.take 20 rfl (by kernel_rfl) (y_extract (ev_t rfl) rfl) rfl rfl rfl ?_
                refine TH.take 21 rfl (by kernel_rfl) (y_extract (ev_t rfl) rfl) rfl rfl rfl ?_
                refine TH.take 22 rfl (by kernel_rfl) (y_assign (ev_t rfl)) rfl rfl rfl ?_
                refine TH.take 23 rfl (by kernel_rfl) (y_assign (ev_t rfl)) rfl rfl rfl ?_
                refine TH.done (by kernel_rfl) ?_
                exact fun a' w' hs hw => ⟨r9_18, hs.sub ⟨rfl, rfl, rfl, rfl, rfl, rfl, rfl, rfl, rfl, rfl, trivial⟩, Hp.sublist hw (.cons_cons _ (.cons _ (.cons _ (.cons_cons _ (.cons_cons _ .slnil)))))⟩
            · refine TL.buildI (zs := [.tmp 56]) (qs := [(k13_1 : Int)]) slT_34 rfl ⟨(ev_t rfl), trivial⟩ rfl (by decide) rfl (fun v9_5 => ?_)
              refine TL.nil ?_
              refine TH.back (fun w hw => Hp.sublist hw (.cons _ (.cons_cons _ (.cons_cons _ .slnil)))) ?_
              refine TH.loud 1 rfl (by kernel_rfl) ?_
              refine TL.buildI (zs := []) (qs := []) slT_34 rfl trivial rfl (by decide) rfl (fun v9_1 => ?_)
              refine TL.nil ?_
              refine TH.back (fun w hw => Hp.sublist hw (.cons _ (.cons _ (.cons_cons _ (.cons_cons _ .slnil))))) ?_
              refine TH.loud 3 rfl (by kernel_rfl) ?_
              refine TL.appendI 0 (ev_t rfl) (ev_t rfl) rfl slT_34 (ri_arg hbegun) (by first | omega | (simp [-List.getD_eq_getElem?_getD] <;> omega)) rfl (fun v9_3 => ?_)
              refine TL.nil ?_
              refine TH.back (fun w hw => Hp.sublist hw (.cons _ (.cons _ (.cons_cons _ (.cons_cons _ .slnil))))) ?_
              refine TH.loud 6 rfl (by kernel_rfl) ?_
              refine TL.appendI 0 (ev_t rfl) (ev_t rfl) rfl slT_34 (ri_row 1 rfl) (by first | omega | (simp [-List.getD_eq_getElem?_getD] <;> omega)) rfl (fun v9_6 => ?_)
              refine TL.nil ?_
              refine TH.back (fun w hw => Hp.sublist hw (.cons _ (.cons _ (.cons_cons _ (.cons_cons _ .slnil))))) ?_
              refine TH.loud 18 rfl (by kernel_rfl) ?_
              refine TL.callr (ι := Value) (vs := [(.agg #[vm]), v9_6, (.int .i64 (sum + ((m.getD (((begun.getD (((begun.length : Int) - 1).toNat) 0)).toNat) []).getD k13_1 0))), (.int .i64 to)]) (fun i => (.tuple #[i, (.int .i64 (((F_spec_l6Ways_R mr) m ((([] : List Int) ++ begun) ++ ([(k13_1 : Int)])) (sum + ((m.getD (((begun.getD (((begun.length : Int) - 1).toNat) 0)).toNat) []).getD k13_1 0)) to).2))])) (fun i => [rowI 3 i (((F_spec_l6Ways_R mr) m ((([] : List Int) ++ begun) ++ ([(k13_1 : Int)])) (sum + ((m.getD (((begun.getD (((begun.length : Int) - 1).toNat) 0)).toNat) []).getD k13_1 0)) to).1)]) en_67 ⟨(ev_t rfl), (ev_t rfl), (ev_t rfl), (ev_t rfl), trivial⟩ rfl (fun w hw => ih w vm um m ((rii_arg hm) w hw) v9_6 ((([] : List Int) ++ begun) ++ ([(k13_1 : Int)])) ((ri_row 0 rfl) w hw) (sum + ((m.getD (((begun.getD (((begun.length : Int) - 1).toNat) 0)).toNat) []).getD k13_1 0)) to (by first | assumption | omega | grind) (by first | assumption | omega | grind) (by first | assumption | omega | grind) (by first | assumption | omega | grind) (by omega)) (fun r9_18 => ?_)
              refine TL.nil ?_
              refine TH.back (fun w hw => Hp.sublist hw (.cons _ (.cons _ (.cons _ (.cons_cons _ (.cons_cons _ .slnil)))))) ?_
              refine TH.take 19 rfl (by kernel_rfl) (y_move (ev_t rfl)) rfl rfl rfl ?_
              refine TH.take 20 rfl (by kernel_rfl) (y_extract (ev_t rfl) rfl) rfl rfl rfl ?_
              refine TH.take 21 rfl (by kernel_rfl) (y_extract (ev_t rfl) rfl) rfl rfl rfl ?_
              refine TH.take 22 rfl (by kernel_rfl) (y_assign (ev_t rfl)) rfl rfl rfl ?_
              refine TH.take 23 rfl (by kernel_rfl) (y_assign (ev_t rfl)) rfl rfl rfl ?_
              refine TH.done (by kernel_rfl) ?_
              exact fun a' w' hs hw => ⟨r9_18, hs.sub ⟨rfl, rfl, rfl, rfl, rfl, rfl, rfl, rfl, rfl, rfl, trivial⟩, Hp.sublist hw (.cons_cons _ (.cons _ (.cons _ (.cons_cons _ (.cons_cons _ .slnil)))))⟩
          · rintro a' w' ⟨r9_18, hs', hw'⟩
            refine (?_ : TN _ .normal 88 (Hp w [rowI 3 r9_18 (((F_spec_l6Ways_R mr) m ((([] : List Int) ++ begun) ++ ([(k13_1 : Int)])) (sum + ((m.getD (((begun.getD (((begun.length : Int) - 1).toNat) 0)).toNat) []).getD k13_1 0)) to).1), rowI 3 vk11_1 k11_1, .blk g0_0 45 [vm]]) [(1, vbegun), (2, (.int .i64 sum)), (3, (.int .i64 to)), (4, (.pointer (some ⟨g0_0, 0, none⟩))), (10, (.int .i64 (begun.getD (((begun.length : Int) - 1).toNat) 0))), (11, vk11_1), (12, (.int .i64 k12_1)), (13, (.int .i64 (k13_1 : Int))), (14, r9_18), (15, (.int .i64 (((F_spec_l6Ways_R mr) m ((([] : List Int) ++ begun) ++ ([(k13_1 : Int)])) (sum + ((m.getD (((begun.getD (((begun.length : Int) - 1).toNat) 0)).toNat) []).getD k13_1 0)) to).2)))]) a' w' hs' hw'
            clear hs' hw'
            refine TN.seq ?_
            refine TC.seq ?_
            refine TC.region ?_
            refine TL.op (yq (y_move (ev_t rfl))) rfl rfl rfl ?_
            refine TL.op (yq (y_geq (ev_t rfl) ev_c)) rfl rfl rfl ?_
            refine TL.op (yq (y_move (ev_t rfl))) rfl rfl rfl ?_
            refine TL.opw (w_t rfl rfl rfl) (fun hg => yq (y_move (ev_t rfl))) rfl rfl ?_
            refine TL.opw (w_t rfl rfl rfl) (fun hg => yq (y_lss (ev_g rfl hg) ev_c)) rfl rfl ?_
            refine TL.opw (w_t rfl rfl rfl) (fun hg => yq (y_move (ev_g rfl hg))) rfl rfl ?_
            refine TL.opw (w_gf rfl rfl rfl) (fun hg => yq (y_move (ev_t rfl))) rfl rfl ?_
            refine TL.opw (w_gf rfl rfl rfl) (fun hg => yq (y_move (ev_t rfl))) rfl rfl ?_
            refine TL.opw (w_gf rfl rfl rfl) (fun hg => yq (y_lss (ev_g rfl hg) (ev_g rfl hg))) rfl rfl ?_
            refine TL.opw (w_t rfl rfl rfl) (fun hg => yq (y_or (ev_g rfl hg) (fun hq => (ev_g rfl (gand hg hq))))) rfl rfl ?_
            refine TL.op (yq (y_and (ev_t rfl) (fun hq => (ev_g rfl hq)))) rfl rfl rfl ?_
            refine TL.nil ?_
            refine TN.seq ?_
            refine TC.cond (b := ((decide (0 ≤ ((F_spec_l6Ways_R mr) m ((([] : List Int) ++ begun) ++ ([(k13_1 : Int)])) (sum + ((m.getD (((begun.getD (((begun.length : Int) - 1).toNat) 0)).toNat) []).getD k13_1 0)) to).2)) && ((decide (k12_1 < 0)) || (decide (((F_spec_l6Ways_R mr) m ((([] : List Int) ++ begun) ++ ([(k13_1 : Int)])) (sum + ((m.getD (((begun.getD (((begun.length : Int) - 1).toNat) 0)).toNat) []).getD k13_1 0)) to).2 < k12_1))))) (ev_t rfl) (fun h43 => ?_) (fun h43 => ?_)
            · rw [bif_pos h43] at hL1
              have q44 := (and_imp (and_t h43) (fun h => (of_decide_eq_true h)) (fun h => ((or_t h).imp (fun h => (of_decide_eq_true h)) (fun h => (of_decide_eq_true h)))))
              refine TC.seq ?_
              refine TC.region ?_
              refine TL.op (yq (y_move (ev_t rfl))) rfl rfl rfl ?_
              refine TL.op (yq (y_assign (ev_t rfl))) rfl rfl rfl ?_
              refine TL.nil ?_
              refine TN.seq ?_
              refine TC.region ?_
              refine TL.op (yq (y_move (ev_t rfl))) rfl rfl rfl ?_
              refine TL.op (yq (y_assign (ev_t rfl))) rfl rfl rfl ?_
              refine TL.nil ?_
              refine TN.blockN ?_
              refine TN.seq ?_
              refine TC.region ?_
              refine TL.op (yq (y_move (ev_t rfl))) rfl rfl rfl ?_
              refine TL.op (yq (y_add (ev_t rfl) ev_c (by unfold In64; omega))) rfl rfl rfl ?_
              refine TL.op (yq (y_assign (ev_t rfl))) rfl rfl rfl ?_
              refine TL.nil ?_
              exact TN.hand (mf1, ((F_spec_l6Ways_R mr) m ((([] : List Int) ++ begun) ++ ([(k13_1 : Int)])) (sum + ((m.getD (((begun.getD (((begun.length : Int) - 1).toNat) 0)).toNat) []).getD k13_1 0)) to).1, ((F_spec_l6Ways_R mr) m ((([] : List Int) ++ begun) ++ ([(k13_1 : Int)])) (sum + ((m.getD (((begun.getD (((begun.length : Int) - 1).toNat) 0)).toNat) []).getD k13_1 0)) to).2, (k13_1 + 1), r9_18) ⟨(by first | omega | (simp [-List.getD_eq_getElem?_getD] <;> omega)), (by omega), hL1⟩ (Nat.lt_succ_self _) ⟨rfl, rfl, rfl, rfl, rfl, rfl, rfl, rfl, trivial⟩ (fun w hw => Hp.sublist hw (.cons_cons _ (.cons _ (.cons_cons _ .slnil))))
            · rw [bif_neg h43] at hL1
              have q44 := ((and_f h43).imp (fun h => (of_decide_eq_false h)) (fun h => (and_imp (or_f h) (fun h => (of_decide_eq_false h)) (fun h => (of_decide_eq_false h)))))
              refine TC.skip ?_
              refine TN.blockN ?_
              refine TN.seq ?_
              refine TC.region ?_
              refine TL.op (yq (y_move (ev_t rfl))) rfl rfl rfl ?_
              refine TL.op (yq (y_add (ev_t rfl) ev_c (by unfold In64; omega))) rfl rfl rfl ?_
              refine TL.op (yq (y_assign (ev_t rfl))) rfl rfl rfl ?_
              refine TL.nil ?_
              exact TN.hand (mf1, k11_1, k12_1, (k13_1 + 1), vk11_1) ⟨(by first | omega | (simp [-List.getD_eq_getElem?_getD] <;> omega)), (by omega), hL1⟩ (Nat.lt_succ_self _) ⟨rfl, rfl, rfl, rfl, rfl, rfl, rfl, rfl, trivial⟩ (fun w hw => Hp.sublist hw (.cons _ (.cons_cons _ (.cons_cons _ .slnil))))
      · rw [bif_neg h33] at hL1
        have q34 := (of_decide_eq_false h33)
        refine TC.exit ?_
        refine TN.thenE ?_
        refine TN.thenE ?_
        rw [← hL1, elim_next] at hF
        try dsimp only at hF
        refine TN.blockH ?_
        refine TN.seq ?_
        refine TC.seq ?_
        refine TC.region ?_
        refine TL.op (yq (y_move (ev_t rfl))) rfl rfl rfl ?_
        refine TL.op (yq (y_move (ev_t rfl))) rfl rfl rfl ?_
        refine TL.op (yq (y_assign (ev_t rfl))) rfl rfl rfl ?_
        refine TL.op (yq (y_assign (ev_t rfl))) rfl rfl rfl ?_
        refine TL.nil ?_
        refine TN.seq ?_
        refine TC.ret ?_
        subst hF
        exact TN.ret2 rfl (ev_t rfl) (ev_t rfl) (fun w' hw => ⟨vk11_1, rfl, Hp.sublist hw (.cons_cons _ (.cons _ .slnil))⟩)
theorem spec_l6Ways_ok (w : World) (vm : Value) (um : List Value) (m : List (List Int)) (hm : RII w vm um m) (vbegun : Value) (begun : List Int) (hbegun : RI w vbegun begun) (sum : Int) (to : Int) (hp0 : TabP true m) (hp1 : Smp m.length begun) (hp2 : 0 ≤ sum) (hp3 : sum ≤ 99 * begun.length) :
    Calls Try.prog 67 ([(.agg #[vm]), vbegun, (.int .i64 sum), (.int .i64 to)] : List Value).toArray w (fun e w' => ∃ i : Value, e = .returned (.tuple #[i, (.int .i64 ((F_spec_l6Ways m begun sum to).2))]) ∧ Hp w [rowI 3 i ((F_spec_l6Ways m begun sum to).1)] w') := spec_l6Ways_ok_R _ w vm um m hm vbegun begun hbegun sum to hp0 hp1 hp2 hp3 (Nat.lt_succ_self _)

set_option maxRecDepth 4000 in
set_option maxHeartbeats 1000000 in
theorem spec_ShortestWay_ok (w : World) (vm : Value) (um : List Value) (m : List (List Int)) (hm : RII w vm um m) (x : Int) (y : Int)  :
    Calls Try.prog 30 ([(.agg #[vm]), (.int .i64 x), (.int .i64 y)] : List Value).toArray w (fun e w' => ∃ i : Value, e = .returned (.tuple #[i, (.bool ((F_spec_ShortestWay m x y).2))]) ∧ Hp w [rowI 3 i ((F_spec_ShortestWay m x y).1)] w') := by
  obtain ⟨rz, hF⟩ : ∃ rz, (F_spec_ShortestWay m x y) = rz := ⟨_, rfl⟩
  rw [hF]
  unfold F_spec_ShortestWay at hF
  have hlen_m := argT_len hm
  refine calls_tc Try.func30 rfl rfl rfl ?_
  change TC _ _ _ _ (Hp w []) [(0, (.agg #[vm])), (1, (.int .i64 x)), (2, (.int .i64 y))]
  refine TC.seq ?_
  refine TC.region ?_
  refine TL.box (ev_t rfl) rfl (fun g0_0 => ?_)
  refine TL.op (yq (y_assign ev_c)) rfl rfl rfl ?_
  refine TL.op (yq (y_assign ev_c)) rfl rfl rfl ?_
  refine TL.nil ?_
  refine TN.seq ?_
  refine TC.seq ?_
  refine TC.seq ?_
  refine TC.region ?_
  refine TL.op (yq (y_ldagg (cs := [vm]) 0 (ev_t rfl) agg_45 rfl)) rfl rfl rfl ?_
  refine TL.op (y_call (vs := [(.agg #[vm]), (.bool true)]) (v := (.bool (F_spec_l6Table m true))) en_62 ⟨(ev_t rfl), ev_c, trivial⟩ (fun w hw => spec_l6Table_ok w vm um m ((rii_arg hm) w hw) true)) rfl rfl rfl ?_
  refine TL.op (yq (y_not (ev_t rfl))) rfl rfl rfl ?_
  refine TL.op (yq (y_move (ev_t rfl))) rfl rfl rfl ?_
  refine TL.opw (w_f rfl rfl rfl) (fun hg => yq (y_move (ev_t rfl))) rfl rfl ?_
  refine TL.opw (w_f rfl rfl rfl) (fun hg => yq (y_fa (fa_45_0 g0_0) (ev_t rfl))) rfl rfl ?_
  refine TL.opw (w_f rfl rfl rfl) (fun hg => yq (y_ldb 0 (ev_g rfl hg) one_43 rfl rfl)) rfl rfl ?_
  refine TL.opw (w_f rfl rfl rfl) (fun hg => yq (y_len (ev_g rfl hg) Try.underlying43 (fun w hw => ((fun w hw => ((rii_arg hm) w hw).1) w hw).ln))) rfl rfl ?_
  refine TL.opw (w_f rfl rfl rfl) (fun hg => yq (y_sub (ev_g rfl hg) ev_c (by unfold In64; omega))) rfl rfl ?_
  refine TL.opw (w_f rfl rfl rfl) (fun hg => y_call (vs := [(.int .i64 x), (.int .i64 0), (.int .i64 ((m.length : Int) - 1))]) (v := (.bool ((decide (0 ≤ x)) && (decide (x ≤ ((m.length : Int) - 1)))))) en_56 ⟨(ev_g rfl hg), ev_c, (ev_g rfl hg), trivial⟩ (fun w hw => spec_l1In_ok w x 0 ((m.length : Int) - 1))) rfl rfl ?_
  refine TL.opw (w_f rfl rfl rfl) (fun hg => yq (y_not (ev_g rfl hg))) rfl rfl ?_
  refine TL.op (yq (y_or (ev_t rfl) (fun hq => (ev_g rfl hq)))) rfl rfl rfl ?_
  refine TL.op (yq (y_move (ev_t rfl))) rfl rfl rfl ?_
  refine TL.opw (w_f rfl rfl rfl) (fun hg => yq (y_move (ev_t rfl))) rfl rfl ?_
  refine TL.opw (w_f rfl rfl rfl) (fun hg => yq (y_fa (fa_45_0 g0_0) (ev_t rfl))) rfl rfl ?_
  refine TL.opw (w_f rfl rfl rfl) (fun hg => yq (y_ldb 0 (ev_g rfl hg) one_43 rfl rfl)) rfl rfl ?_
  refine TL.opw (w_f rfl rfl rfl) (fun hg => yq (y_len (ev_g rfl hg) Try.underlying43 (fun w hw => ((fun w hw => ((rii_arg hm) w hw).1) w hw).ln))) rfl rfl ?_
  refine TL.opw (w_f rfl rfl rfl) (fun hg => yq (y_sub (ev_g rfl hg) ev_c (by unfold In64; omega))) rfl rfl ?_
  refine TL.opw (w_f rfl rfl rfl) (fun hg => y_call (vs := [(.int .i64 y), (.int .i64 0), (.int .i64 ((m.length : Int) - 1))]) (v := (.bool ((decide (0 ≤ y)) && (decide (y ≤ ((m.length : Int) - 1)))))) en_56 ⟨(ev_g rfl hg), ev_c, (ev_g rfl hg), trivial⟩ (fun w hw => spec_l1In_ok w y 0 ((m.length : Int) - 1))) rfl rfl ?_
  refine TL.opw (w_f rfl rfl rfl) (fun hg => yq (y_not (ev_g rfl hg))) rfl rfl ?_
  refine TL.op (yq (y_or (ev_t rfl) (fun hq => (ev_g rfl hq)))) rfl rfl rfl ?_
  refine TL.nil ?_
  refine TN.seq ?_
  refine TC.cond (b := (((!(F_spec_l6Table m true)) || (!((decide (0 ≤ x)) && (decide (x ≤ ((m.length : Int) - 1)))))) || (!((decide (0 ≤ y)) && (decide (y ≤ ((m.length : Int) - 1))))))) (ev_t rfl) (fun h3 => ?_) (fun h3 => ?_)
  · rw [bif_pos h3] at hF
    have q4 := ((or_t h3).imp (fun h => ((or_t h).imp (fun h => (not_t h)) (fun h => ((and_f (not_t h)).imp (fun h => (of_decide_eq_false h)) (fun h => (of_decide_eq_false h)))))) (fun h => ((and_f (not_t h)).imp (fun h => (of_decide_eq_false h)) (fun h => (of_decide_eq_false h)))))
    refine TC.seq ?_
    refine TC.region ?_
    refine TL.buildI (zs := []) (qs := []) slT_34 rfl trivial rfl (by decide) rfl (fun v2_0 => ?_)
    refine TL.op (yq (y_assign (ev_t rfl))) rfl rfl rfl ?_
    refine TL.op (yq (y_assign ev_c)) rfl rfl rfl ?_
    refine TL.nil ?_
    refine TN.seq ?_
    refine TC.ret ?_
    refine TN.thenR ?_
    subst hF
    exact TN.ret2 rfl (ev_t rfl) (ev_t rfl) (fun w' hw => ⟨v2_0, rfl, Hp.sublist hw (.cons_cons _ (.cons _ .slnil))⟩)
  · rw [bif_neg h3] at hF
    have q4 := (and_imp (or_f h3) (fun h => (and_imp (or_f h) (fun h => (l6Table_t (not_f h))) (fun h => (and_imp (and_t (not_f h)) (fun h => (of_decide_eq_true h)) (fun h => (of_decide_eq_true h)))))) (fun h => (and_imp (and_t (not_f h)) (fun h => (of_decide_eq_true h)) (fun h => (of_decide_eq_true h)))))
    have hTP : TabP true m := (l6Table_iff m true).1 (by have hh := (by assumption : (((!(F_spec_l6Table m true)) || (!((decide (0 ≤ x)) && (decide (x ≤ ((m.length : Int) - 1)))))) || (!((decide (0 ≤ y)) && (decide (y ≤ ((m.length : Int) - 1)))))) = false); simp at hh; exact hh.1.1)
    have hsm : Smp m.length [x] := by have := smp_one (n := m.length) (x := x.toNat) (by omega); rwa [show ((x.toNat : Nat) : Int) = x by omega] at this
    refine TC.skip ?_
    refine TN.seq ?_
    refine TC.seq ?_
    refine TC.region ?_
    refine TL.op (yq (y_ldagg (cs := [vm]) 0 (ev_t rfl) agg_45 rfl)) rfl rfl rfl ?_
    refine TL.op (yq (y_move (ev_t rfl))) rfl rfl rfl ?_
    refine TL.buildI (zs := [.tmp 34]) (qs := [x]) slT_34 rfl ⟨(ev_t rfl), trivial⟩ rfl (by decide) rfl (fun v3_2 => ?_)
    refine TL.op (yq (y_move (ev_t rfl))) rfl rfl rfl ?_
    refine TL.callr (ι := Value) (vs := [(.agg #[vm]), v3_2, (.int .i64 0), (.int .i64 y)]) (fun i => (.tuple #[i, (.int .i64 ((F_spec_l6Ways m ([x]) 0 y).2))])) (fun i => [rowI 3 i ((F_spec_l6Ways m ([x]) 0 y).1)]) en_67 ⟨(ev_t rfl), (ev_t rfl), ev_c, (ev_t rfl), trivial⟩ rfl (fun w hw => spec_l6Ways_ok w vm um m ((rii_arg hm) w hw) v3_2 ([x]) ((ri_row 0 rfl) w hw) 0 y (by first | assumption | omega | grind) (by first | assumption | omega | grind) (by first | assumption | omega | grind) (by first | assumption | omega | grind)) (fun r3_4 => ?_)
    refine TL.op (yq (y_move (ev_t rfl))) rfl rfl rfl ?_
    refine TL.op (yq (y_extract (ev_t rfl) rfl)) rfl rfl rfl ?_
    refine TL.op (yq (y_extract (ev_t rfl) rfl)) rfl rfl rfl ?_
    refine TL.op (yq (y_assign (ev_t rfl))) rfl rfl rfl ?_
    refine TL.op (yq (y_assign (ev_t rfl))) rfl rfl rfl ?_
    refine TL.nil ?_
    refine TN.seq ?_
    refine TC.seq ?_
    refine TC.region ?_
    refine TL.op (yq (y_move (ev_t rfl))) rfl rfl rfl ?_
    refine TL.op (yq (y_move (ev_t rfl))) rfl rfl rfl ?_
    refine TL.op (yq (y_geq (ev_t rfl) ev_c)) rfl rfl rfl ?_
    refine TL.op (yq (y_assign (ev_t rfl))) rfl rfl rfl ?_
    refine TL.op (yq (y_assign (ev_t rfl))) rfl rfl rfl ?_
    refine TL.nil ?_
    refine TN.seq ?_
    refine TC.ret ?_
    subst hF
    exact TN.ret2 rfl (ev_t rfl) (ev_t rfl) (fun w' hw => ⟨r3_4, rfl, Hp.sublist hw (.cons_cons _ (.cons _ (.cons _ .slnil)))⟩)

set_option maxRecDepth 4000 in
set_option maxHeartbeats 1000000 in
theorem spec_l1Cur_next_ok (w0 w : World) (fr : List Ck) (gc : Nat) (vc : Value) (code : List Int) (hcode : RB w0 vc code) (at_ : Int) (seed : Int) (hw : Hp w0 (.blk gc 61 [vc, (.int .i64 at_), (.int .u64 seed)] :: fr) w) (hp0 : 0 ≤ at_) (hp1 : at_ ≤ 4000000000) (hp2 : 0 ≤ seed) (hp3 : seed < 18446744073709551616) :
    Calls Try.prog 79 ([(.pointer (some ⟨gc, 0, none⟩))] : List Value).toArray w (fun e w' => True ∧ ∃ _i : Unit, e = .returned (.int .i64 ((F_spec_l1Cur_next code at_ seed).1)) ∧ Hp w0 ([.blk gc 61 [vc, (.int .i64 ((F_spec_l1Cur_next code at_ seed).2.1)), (.int .u64 ((F_spec_l1Cur_next code at_ seed).2.2))]] ++ fr) w') := by
  obtain ⟨rz, hF⟩ : ∃ rz, (F_spec_l1Cur_next code at_ seed) = rz := ⟨_, rfl⟩
  rw [hF]
  unfold F_spec_l1Cur_next at hF
  have hlen_code := argB_len hcode
  refine calls_tcm Try.func79 rfl rfl rfl hw ?_
  change TC _ _ _ _ (Hp w0 ([.blk gc 61 [vc, (.int .i64 at_), (.int .u64 seed)]] ++ fr)) [(0, (.pointer (some ⟨gc, 0, none⟩)))]
  refine TC.seq ?_
  refine TC.region ?_
  refine TL.op (yq (y_assign ev_c)) rfl rfl rfl ?_
  refine TL.nil ?_
  refine TN.seq ?_
  refine TC.seq ?_
  refine TC.region ?_
  refine TL.op (yq (y_assign ev_c)) rfl rfl rfl ?_
  refine TL.nil ?_
  refine TN.seq ?_
  refine TC.seq ?_
  refine TC.seq ?_
  refine TC.regionQ (by kernel_rfl) (by kernel_rfl) dr_hp ?_
  refine TQ.op (yq (y_move (ev_t rfl))) rfl rfl rfl ?_
  refine TQ.op (yq (y_nilp (ev_t rfl))) rfl rfl rfl ?_
  refine TQ.op (yq (y_fa (fa_61_1 gc) (ev_t rfl))) rfl rfl rfl ?_
  refine TQ.op (yq (y_ldb 0 (ev_t rfl) one_3 rfl rfl)) rfl rfl rfl ?_
  refine TQ.op (yq (y_move (ev_t rfl))) rfl rfl rfl ?_
  refine TQ.op (yq (y_nilp (ev_t rfl))) rfl rfl rfl ?_
  refine TQ.op (yq (y_fa (fa_61_0 gc) (ev_t rfl))) rfl rfl rfl ?_
  refine TQ.op (yq (y_ldb 0 (ev_t rfl) one_22 rfl rfl)) rfl rfl rfl ?_
  refine TQ.op (yq (y_len (ev_t rfl) Try.underlying22 (fun w hw => ((rd_arg hcode.1) w hw).ln))) rfl rfl rfl ?_
  refine TQ.op (yq (y_lss (ev_t rfl) (ev_t rfl))) rfl rfl rfl ?_
  refine TQ.nil ?_
  refine TN.seq ?_
  refine TC.cond (b := decide (at_ < (code.length : Int))) (ev_t rfl) (fun h9 => ?_) (fun h9 => ?_)
  · rw [bif_pos h9] at hF
    have q10 := (of_decide_eq_true h9)
    refine TC.regionQ (by kernel_rfl) (by kernel_rfl) dr_hp ?_
    refine TQ.op (yq (y_move (ev_t rfl))) rfl rfl rfl ?_
    refine TQ.op (yq (y_nilp (ev_t rfl))) rfl rfl rfl ?_
    refine TQ.op (yq (y_fa (fa_61_0 gc) (ev_t rfl))) rfl rfl rfl ?_
    refine TQ.op (yq (y_ldb 0 (ev_t rfl) one_22 rfl rfl)) rfl rfl rfl ?_
    refine TQ.op (yq (y_move (ev_t rfl))) rfl rfl rfl ?_
    refine TQ.op (yq (y_nilp (ev_t rfl))) rfl rfl rfl ?_
    refine TQ.op (yq (y_fa (fa_61_1 gc) (ev_t rfl))) rfl rfl rfl ?_
    refine TQ.op (yq (y_ldb 0 (ev_t rfl) one_3 rfl rfl)) rfl rfl rfl ?_
    have hb11 : (at_).toNat < code.length := (by first | omega | (simp only [List.length_set, List.length_append, List.length_cons, List.length_nil, List.length_replicate]; omega) | (rw [sortI_length]; simp only [List.length_cons, List.length_nil]; omega))
    refine TQ.op (yq (y_idx (k := (at_).toNat) (ev_t rfl) (ev_t rfl) (by first | omega | simp) slT_22 (rd_arg hcode.1) hb11)) rfl rfl rfl ?_
    have hu12 := hcode.2 ((at_).toNat)
    refine TQ.op (yq (y_ld8 (ev_t rfl) one_5 (rd_arg hcode.1) hb11)) rfl rfl rfl ?_
    refine TQ.op (yq (y_conv_i64 (ev_t rfl) Try.underlying5 Try.underlying3 (by first | omega | (simp only [List.length_set, List.length_append, List.length_cons, List.length_nil, List.length_replicate]; omega) | (rw [sortI_length]; simp only [List.length_cons, List.length_nil]; omega)))) rfl rfl rfl ?_
    refine TQ.op (yq (y_assign (ev_t rfl))) rfl rfl rfl ?_
    refine TQ.nil ?_
    refine TN.seq ?_
    refine TC.seq ?_
    refine TC.region ?_
    refine TL.op (yq (y_move (ev_t rfl))) rfl rfl rfl ?_
    refine TL.op (yq (y_nilp (ev_t rfl))) rfl rfl rfl ?_
    refine TL.op (yq (y_fa (fa_61_1 gc) (ev_t rfl))) rfl rfl rfl ?_
    refine TL.op (yq (y_ldb 0 (ev_t rfl) one_3 rfl rfl)) rfl rfl rfl ?_
    refine TL.op (yq (y_add (ev_t rfl) ev_c (by unfold In64; omega))) rfl rfl rfl ?_
    refine TL.op (yq (y_nilp (ev_t rfl))) rfl rfl rfl ?_
    refine TL.op (yq (y_fa (fa_61_1 gc) (ev_t rfl))) rfl rfl rfl ?_
    refine TL.storeB 0 (ev_t rfl) (ev_t rfl) one_3 rfl (by first | decide | simp) (fun w hw => rfl) ?_
    refine TL.nil ?_
    refine TN.seq ?_
    refine TC.seq ?_
    refine TC.region ?_
    refine TL.op (yq (y_move (ev_t rfl))) rfl rfl rfl ?_
    refine TL.op (yq (y_move (ev_t rfl))) rfl rfl rfl ?_
    refine TL.op (yq (y_nilp (ev_t rfl))) rfl rfl rfl ?_
    refine TL.op (yq (y_fa (fa_61_2 gc) (ev_t rfl))) rfl rfl rfl ?_
    refine TL.op (yq (y_ldb 0 (ev_t rfl) one_59 rfl rfl)) rfl rfl rfl ?_
    refine TL.op (yq (y_mulu (ev_t rfl) ev_c)) rfl rfl rfl ?_
    refine TL.op (yq (y_move (ev_t rfl))) rfl rfl rfl ?_
    refine TL.op (yq (y_conv_u64 (ev_t rfl) Try.underlying3 Try.underlying59 (by first | omega | (simp only [List.length_set, List.length_append, List.length_cons, List.length_nil, List.length_replicate]; omega) | (rw [sortI_length]; simp only [List.length_cons, List.length_nil]; omega)))) rfl rfl rfl ?_
    refine TL.op (yq (y_addu (ev_t rfl) (ev_t rfl))) rfl rfl rfl ?_
    refine TL.op (yq (y_addu (ev_t rfl) ev_c)) rfl rfl rfl ?_
    refine TL.op (yq (y_nilp (ev_t rfl))) rfl rfl rfl ?_
    refine TL.op (yq (y_fa (fa_61_2 gc) (ev_t rfl))) rfl rfl rfl ?_
    refine TL.storeB 0 (ev_t rfl) (ev_t rfl) one_59 rfl (by first | decide | simp) (fun w hw => rfl) ?_
    refine TL.nil ?_
    refine TN.seq ?_
    refine TC.seq ?_
    refine TC.seq ?_
    refine TC.regionQ (by kernel_rfl) (by kernel_rfl) dr_hp ?_
    refine TQ.op (yq (y_move (ev_t rfl))) rfl rfl rfl ?_
    refine TQ.op (yq (y_nilp (ev_t rfl))) rfl rfl rfl ?_
    refine TQ.op (yq (y_fa (fa_61_1 gc) (ev_t rfl))) rfl rfl rfl ?_
    refine TQ.op (yq (y_ldb 0 (ev_t rfl) one_3 rfl rfl)) rfl rfl rfl ?_
    refine TQ.op (yq (y_move (ev_t rfl))) rfl rfl rfl ?_
    refine TQ.op (yq (y_nilp (ev_t rfl))) rfl rfl rfl ?_
    refine TQ.op (yq (y_fa (fa_61_0 gc) (ev_t rfl))) rfl rfl rfl ?_
    refine TQ.op (yq (y_ldb 0 (ev_t rfl) one_22 rfl rfl)) rfl rfl rfl ?_
    refine TQ.op (yq (y_len (ev_t rfl) Try.underlying22 (fun w hw => ((rd_arg hcode.1) w hw).ln))) rfl rfl rfl ?_
    refine TQ.op (yq (y_leq (ev_t rfl) (ev_t rfl))) rfl rfl rfl ?_
    refine TQ.nil ?_
    refine TN.seq ?_
    refine TC.cond (b := decide (at_ + 1 ≤ (code.length : Int))) (ev_t rfl) (fun h13 => ?_) (fun h13 => ?_)
    · rw [bif_pos h13] at hF
      have q14 := (of_decide_eq_true h13)
      refine TC.seq ?_
      refine TC.region ?_
      refine TL.op (yq (y_move (ev_t rfl))) rfl rfl rfl ?_
      refine TL.op (yq (y_assign (ev_t rfl))) rfl rfl rfl ?_
      refine TL.nil ?_
      refine TN.seq ?_
      refine TC.ret ?_
      refine TN.thenR ?_
      subst hF
      exact TN.ret1 rfl (ev_t rfl) (fun w' hw => ⟨trivial, (), rfl, hw⟩)
    · rw [bif_neg h13] at hF
      have q14 := (of_decide_eq_false h13)
      refine TC.skip ?_
      refine TN.seq ?_
      refine TC.seq ?_
      refine TC.region ?_
      refine TL.op (yq (y_move (ev_t rfl))) rfl rfl rfl ?_
      refine TL.op (yq (y_nilp (ev_t rfl))) rfl rfl rfl ?_
      refine TL.op (yq (y_fa (fa_61_2 gc) (ev_t rfl))) rfl rfl rfl ?_
      refine TL.op (yq (y_ldb 0 (ev_t rfl) one_59 rfl rfl)) rfl rfl rfl ?_
      refine TL.op (yq (y_shr40 (ev_t rfl) ev_c (by omega))) rfl rfl rfl ?_
      refine TL.op (yq (y_and255 (ev_t rfl) ev_c (by omega) (by omega))) rfl rfl rfl ?_
      refine TL.op (yq (y_conv_i64 (ev_t rfl) Try.underlying59 Try.underlying3 (by first | omega | (simp only [List.length_set, List.length_append, List.length_cons, List.length_nil, List.length_replicate]; omega) | (rw [sortI_length]; simp only [List.length_cons, List.length_nil]; omega)))) rfl rfl rfl ?_
      refine TL.op (yq (y_assign (ev_t rfl))) rfl rfl rfl ?_
      refine TL.nil ?_
      refine TN.seq ?_
      refine TC.ret ?_
      subst hF
      exact TN.ret1 rfl (ev_t rfl) (fun w' hw => ⟨trivial, (), rfl, hw⟩)
  · rw [bif_neg h9] at hF
    have q10 := (of_decide_eq_false h9)
    refine TC.skip ?_
    refine TN.seq ?_
    refine TC.seq ?_
    refine TC.region ?_
    refine TL.op (yq (y_move (ev_t rfl))) rfl rfl rfl ?_
    refine TL.op (yq (y_nilp (ev_t rfl))) rfl rfl rfl ?_
    refine TL.op (yq (y_fa (fa_61_1 gc) (ev_t rfl))) rfl rfl rfl ?_
    refine TL.op (yq (y_ldb 0 (ev_t rfl) one_3 rfl rfl)) rfl rfl rfl ?_
    refine TL.op (yq (y_add (ev_t rfl) ev_c (by unfold In64; omega))) rfl rfl rfl ?_
    refine TL.op (yq (y_nilp (ev_t rfl))) rfl rfl rfl ?_
    refine TL.op (yq (y_fa (fa_61_1 gc) (ev_t rfl))) rfl rfl rfl ?_
    refine TL.storeB 0 (ev_t rfl) (ev_t rfl) one_3 rfl (by first | decide | simp) (fun w hw => rfl) ?_
    refine TL.nil ?_
    refine TN.seq ?_
    refine TC.seq ?_
    refine TC.region ?_
    refine TL.op (yq (y_move (ev_t rfl))) rfl rfl rfl ?_
    refine TL.op (yq (y_move (ev_t rfl))) rfl rfl rfl ?_
    refine TL.op (yq (y_nilp (ev_t rfl))) rfl rfl rfl ?_
    refine TL.op (yq (y_fa (fa_61_2 gc) (ev_t rfl))) rfl rfl rfl ?_
    refine TL.op (yq (y_ldb 0 (ev_t rfl) one_59 rfl rfl)) rfl rfl rfl ?_
    refine TL.op (yq (y_mulu (ev_t rfl) ev_c)) rfl rfl rfl ?_
    refine TL.op (yq (y_move (ev_t rfl))) rfl rfl rfl ?_
    refine TL.op (yq (y_conv_u64 (ev_t rfl) Try.underlying3 Try.underlying59 (by first | omega | (simp only [List.length_set, List.length_append, List.length_cons, List.length_nil, List.length_replicate]; omega) | (rw [sortI_length]; simp only [List.length_cons, List.length_nil]; omega)))) rfl rfl rfl ?_
    refine TL.op (yq (y_addu (ev_t rfl) (ev_t rfl))) rfl rfl rfl ?_
    refine TL.op (yq (y_addu (ev_t rfl) ev_c)) rfl rfl rfl ?_
    refine TL.op (yq (y_nilp (ev_t rfl))) rfl rfl rfl ?_
    refine TL.op (yq (y_fa (fa_61_2 gc) (ev_t rfl))) rfl rfl rfl ?_
    refine TL.storeB 0 (ev_t rfl) (ev_t rfl) one_59 rfl (by first | decide | simp) (fun w hw => rfl) ?_
    refine TL.nil ?_
    refine TN.seq ?_
    refine TC.seq ?_
    refine TC.seq ?_
    refine TC.regionQ (by kernel_rfl) (by kernel_rfl) dr_hp ?_
    refine TQ.op (yq (y_move (ev_t rfl))) rfl rfl rfl ?_
    refine TQ.op (yq (y_nilp (ev_t rfl))) rfl rfl rfl ?_
    refine TQ.op (yq (y_fa (fa_61_1 gc) (ev_t rfl))) rfl rfl rfl ?_
    refine TQ.op (yq (y_ldb 0 (ev_t rfl) one_3 rfl rfl)) rfl rfl rfl ?_
    refine TQ.op (yq (y_move (ev_t rfl))) rfl rfl rfl ?_
    refine TQ.op (yq (y_nilp (ev_t rfl))) rfl rfl rfl ?_
    refine TQ.op (yq (y_fa (fa_61_0 gc) (ev_t rfl))) rfl rfl rfl ?_
    refine TQ.op (yq (y_ldb 0 (ev_t rfl) one_22 rfl rfl)) rfl rfl rfl ?_
    refine TQ.op (yq (y_len (ev_t rfl) Try.underlying22 (fun w hw => ((rd_arg hcode.1) w hw).ln))) rfl rfl rfl ?_
    refine TQ.op (yq (y_leq (ev_t rfl) (ev_t rfl))) rfl rfl rfl ?_
    refine TQ.nil ?_
    refine TN.seq ?_
    refine TC.cond (b := decide (at_ + 1 ≤ (code.length : Int))) (ev_t rfl) (fun h15 => ?_) (fun h15 => ?_)
    · rw [bif_pos h15] at hF
      have q16 := (of_decide_eq_true h15)
      refine TC.seq ?_
      refine TC.region ?_
      refine TL.op (yq (y_move (ev_t rfl))) rfl rfl rfl ?_
      refine TL.op (yq (y_assign (ev_t rfl))) rfl rfl rfl ?_
      refine TL.nil ?_
      refine TN.seq ?_
      refine TC.ret ?_
      refine TN.thenR ?_
      subst hF
      exact TN.ret1 rfl (ev_t rfl) (fun w' hw => ⟨trivial, (), rfl, hw⟩)
    · rw [bif_neg h15] at hF
      have q16 := (of_decide_eq_false h15)
      refine TC.skip ?_
      refine TN.seq ?_
      refine TC.seq ?_
      refine TC.region ?_
      refine TL.op (yq (y_move (ev_t rfl))) rfl rfl rfl ?_
      refine TL.op (yq (y_nilp (ev_t rfl))) rfl rfl rfl ?_
      refine TL.op (yq (y_fa (fa_61_2 gc) (ev_t rfl))) rfl rfl rfl ?_
      refine TL.op (yq (y_ldb 0 (ev_t rfl) one_59 rfl rfl)) rfl rfl rfl ?_
      refine TL.op (yq (y_shr40 (ev_t rfl) ev_c (by omega))) rfl rfl rfl ?_
      refine TL.op (yq (y_and255 (ev_t rfl) ev_c (by omega) (by omega))) rfl rfl rfl ?_
      refine TL.op (yq (y_conv_i64 (ev_t rfl) Try.underlying59 Try.underlying3 (by first | omega | (simp only [List.length_set, List.length_append, List.length_cons, List.length_nil, List.length_replicate]; omega) | (rw [sortI_length]; simp only [List.length_cons, List.length_nil]; omega)))) rfl rfl rfl ?_
      refine TL.op (yq (y_assign (ev_t rfl))) rfl rfl rfl ?_
      refine TL.nil ?_
      refine TN.seq ?_
      refine TC.ret ?_
      subst hF
      exact TN.ret1 rfl (ev_t rfl) (fun w' hw => ⟨trivial, (), rfl, hw⟩)

set_option maxRecDepth 4000 in
set_option maxHeartbeats 1000000 in
theorem spec_l1Cur_pick_ok (w0 w : World) (fr : List Ck) (gc : Nat) (vc : Value) (code : List Int) (hcode : RB w0 vc code) (at_ : Int) (seed : Int) (hw : Hp w0 (.blk gc 61 [vc, (.int .i64 at_), (.int .u64 seed)] :: fr) w) (n : Int) (hp0 : 0 ≤ at_) (hp1 : at_ ≤ 3000000000) (hp2 : 0 ≤ seed) (hp3 : seed < 18446744073709551616) :
    Calls Try.prog 43 ([(.pointer (some ⟨gc, 0, none⟩)), (.int .i64 n)] : List Value).toArray w (fun e w' => True ∧ ∃ _i : Unit, e = .returned (.int .i64 ((F_spec_l1Cur_pick code at_ seed n).1)) ∧ Hp w0 ([.blk gc 61 [vc, (.int .i64 ((F_spec_l1Cur_pick code at_ seed n).2.1)), (.int .u64 ((F_spec_l1Cur_pick code at_ seed n).2.2))]] ++ fr) w') := by
  obtain ⟨rz, hF⟩ : ∃ rz, (F_spec_l1Cur_pick code at_ seed n) = rz := ⟨_, rfl⟩
  rw [hF]
  unfold F_spec_l1Cur_pick at hF
  have hlen_code := argB_len hcode
  refine calls_tcm Try.func43 rfl rfl rfl hw ?_
  change TC _ _ _ _ (Hp w0 ([.blk gc 61 [vc, (.int .i64 at_), (.int .u64 seed)]] ++ fr)) [(0, (.pointer (some ⟨gc, 0, none⟩))), (1, (.int .i64 n))]
  refine TC.seq ?_
  refine TC.region ?_
  refine TL.op (yq (y_assign ev_c)) rfl rfl rfl ?_
  refine TL.nil ?_
  refine TN.seq ?_
  refine TC.seq ?_
  refine TC.seq ?_
  refine TC.region ?_
  refine TL.op (yq (y_move (ev_t rfl))) rfl rfl rfl ?_
  refine TL.op (yq (y_leq (ev_t rfl) ev_c)) rfl rfl rfl ?_
  refine TL.nil ?_
  refine TN.seq ?_
  refine TC.cond (b := decide (n ≤ 1)) (ev_t rfl) (fun h9 => ?_) (fun h9 => ?_)
  · rw [bif_pos h9] at hF
    have q10 := (of_decide_eq_true h9)
    refine TC.seq ?_
    refine TC.region ?_
    refine TL.op (yq (y_assign ev_c)) rfl rfl rfl ?_
    refine TL.nil ?_
    refine TN.seq ?_
    refine TC.ret ?_
    refine TN.thenR ?_
    subst hF
    exact TN.ret1 rfl (ev_t rfl) (fun w' hw => ⟨trivial, (), rfl, hw⟩)
  · rw [bif_neg h9] at hF
    have q10 := (of_decide_eq_false h9)
    refine TC.skip ?_
    refine TN.seq ?_
    refine TC.seq ?_
    refine TC.region ?_
    refine TL.op (yq (y_move (ev_t rfl))) rfl rfl rfl ?_
    refine TL.callmX (ι := Unit) (p := True) 0 (vs := [(.pointer (some ⟨gc, 0, none⟩))]) (fun _ => (.int .i64 ((F_spec_l1Cur_next code at_ seed).1))) (fun _ => .blk gc 61 [vc, (.int .i64 (((F_spec_l1Cur_next code at_ seed).2).1)), (.int .u64 (((F_spec_l1Cur_next code at_ seed).2).2))]) (fun _ => []) en_79 ⟨(ev_t rfl), trivial⟩ rfl rfl (fun w1 _ hw => spec_l1Cur_next_ok w0 w1 _ gc vc code hcode at_ seed hw (by first | assumption | omega | grind) (by first | assumption | omega | grind) (by first | assumption | omega | grind) (by first | assumption | omega | grind)) (fun hpo11 _ => ?_)
    replace hpo11 := next_post hcode.2 code at_ seed
    obtain ⟨q3_1, hq12⟩ : ∃ q, (F_spec_l1Cur_next code at_ seed) = q := ⟨_, rfl⟩
    rw [hq12] at hF hpo11 ⊢
    try dsimp only at hF
    refine TL.op (yq (y_assign (ev_t rfl))) rfl rfl rfl ?_
    refine TL.nil ?_
    refine TN.seq ?_
    refine TC.seq ?_
    refine TC.seq ?_
    refine TC.region ?_
    refine TL.op (yq (y_move (ev_t rfl))) rfl rfl rfl ?_
    refine TL.op (yq (y_gtr (ev_t rfl) ev_c)) rfl rfl rfl ?_
    refine TL.nil ?_
    refine TN.seq ?_
    refine TC.cond (b := decide (200 < n)) (ev_t rfl) (fun h13 => ?_) (fun h13 => ?_)
    · rw [bif_pos h13] at hF
      have q14 := (of_decide_eq_true h13)
      refine TC.region ?_
      refine TL.op (yq (y_move (ev_t rfl))) rfl rfl rfl ?_
      refine TL.op (yq (y_mul (ev_t rfl) ev_c (by unfold In64; omega))) rfl rfl rfl ?_
      refine TL.op (yq (y_move (ev_t rfl))) rfl rfl rfl ?_
      refine TL.callmX (ι := Unit) (p := True) 0 (vs := [(.pointer (some ⟨gc, 0, none⟩))]) (fun _ => (.int .i64 ((F_spec_l1Cur_next code ((q3_1.2).1) ((q3_1.2).2)).1))) (fun _ => .blk gc 61 [vc, (.int .i64 (((F_spec_l1Cur_next code ((q3_1.2).1) ((q3_1.2).2)).2).1)), (.int .u64 (((F_spec_l1Cur_next code ((q3_1.2).1) ((q3_1.2).2)).2).2))]) (fun _ => []) en_79 ⟨(ev_t rfl), trivial⟩ rfl rfl (fun w1 _ hw => spec_l1Cur_next_ok w0 w1 _ gc vc code hcode ((q3_1.2).1) ((q3_1.2).2) hw (by first | assumption | omega | grind) (by first | assumption | omega | grind) (by first | assumption | omega | grind) (by first | assumption | omega | grind)) (fun hpo15 _ => ?_)
      replace hpo15 := next_post hcode.2 code ((q3_1.2).1) ((q3_1.2).2)
      obtain ⟨q5_3, hq16⟩ : ∃ q, (F_spec_l1Cur_next code ((q3_1.2).1) ((q3_1.2).2)) = q := ⟨_, rfl⟩
      rw [hq16] at hF hpo15 ⊢
      try dsimp only at hF
      refine TL.op (yq (y_add (ev_t rfl) (ev_t rfl) (by unfold In64; omega))) rfl rfl rfl ?_
      refine TL.op (yq (y_assign (ev_t rfl))) rfl rfl rfl ?_
      refine TL.nil ?_
      refine TN.seq ?_
      refine TC.seq ?_
      refine TC.region ?_
      refine TL.op (yq (y_move (ev_t rfl))) rfl rfl rfl ?_
      refine TL.op (yq (y_move (ev_t rfl))) rfl rfl rfl ?_
      refine TL.op (yq (y_rem (ev_t rfl) (ev_t rfl) (by first | omega | (simp only [Int.natCast_ediv] at *; omega)) (by first | omega | (simp only [Int.natCast_ediv] at *; omega)))) rfl rfl rfl ?_
      refine TL.op (yq (y_assign (ev_t rfl))) rfl rfl rfl ?_
      refine TL.nil ?_
      refine TN.seq ?_
      refine TC.ret ?_
      subst hF
      exact TN.ret1 rfl (ev_t rfl) (fun w' hw => ⟨trivial, (), rfl, hw⟩)
    · rw [bif_neg h13] at hF
      have q14 := (of_decide_eq_false h13)
      refine TC.skip ?_
      refine TN.seq ?_
      refine TC.seq ?_
      refine TC.region ?_
      refine TL.op (yq (y_move (ev_t rfl))) rfl rfl rfl ?_
      refine TL.op (yq (y_move (ev_t rfl))) rfl rfl rfl ?_
      refine TL.op (yq (y_rem (ev_t rfl) (ev_t rfl) (by first | omega | (simp only [Int.natCast_ediv] at *; omega)) (by first | omega | (simp only [Int.natCast_ediv] at *; omega)))) rfl rfl rfl ?_
      refine TL.op (yq (y_assign (ev_t rfl))) rfl rfl rfl ?_
      refine TL.nil ?_
      refine TN.seq ?_
      refine TC.ret ?_
      subst hF
      exact TN.ret1 rfl (ev_t rfl) (fun w' hw => ⟨trivial, (), rfl, hw⟩)

set_option maxRecDepth 4000 in
set_option maxHeartbeats 1000000 in
theorem spec_l1Cur_one_ok (w0 w : World) (fr : List Ck) (gc : Nat) (vc : Value) (code : List Int) (hcode : RB w0 vc code) (at_ : Int) (seed : Int) (hw : Hp w0 (.blk gc 61 [vc, (.int .i64 at_), (.int .u64 seed)] :: fr) w) (n : Int) (hp0 : 0 ≤ at_) (hp1 : at_ ≤ 2000000000) (hp2 : 0 ≤ seed) (hp3 : seed < 18446744073709551616) :
    Calls Try.prog 44 ([(.pointer (some ⟨gc, 0, none⟩)), (.int .i64 n)] : List Value).toArray w (fun e w' => True ∧ ∃ _i : Unit, e = .returned (.bool ((F_spec_l1Cur_one code at_ seed n).1)) ∧ Hp w0 ([.blk gc 61 [vc, (.int .i64 ((F_spec_l1Cur_one code at_ seed n).2.1)), (.int .u64 ((F_spec_l1Cur_one code at_ seed n).2.2))]] ++ fr) w') := by
  obtain ⟨rz, hF⟩ : ∃ rz, (F_spec_l1Cur_one code at_ seed n) = rz := ⟨_, rfl⟩
  rw [hF]
  unfold F_spec_l1Cur_one at hF
  have hlen_code := argB_len hcode
  refine calls_tcm Try.func44 rfl rfl rfl hw ?_
  change TC _ _ _ _ (Hp w0 ([.blk gc 61 [vc, (.int .i64 at_), (.int .u64 seed)]] ++ fr)) [(0, (.pointer (some ⟨gc, 0, none⟩))), (1, (.int .i64 n))]
  refine TC.seq ?_
  refine TC.region ?_
  refine TL.op (yq (y_assign ev_c)) rfl rfl rfl ?_
  refine TL.nil ?_
  refine TN.seq ?_
  refine TC.seq ?_
  refine TC.region ?_
  refine TL.op (yq (y_move (ev_t rfl))) rfl rfl rfl ?_
  refine TL.op (yq (y_move (ev_t rfl))) rfl rfl rfl ?_
  refine TL.callmX (ι := Unit) (p := True) 0 (vs := [(.pointer (some ⟨gc, 0, none⟩)), (.int .i64 n)]) (fun _ => (.int .i64 ((F_spec_l1Cur_pick code at_ seed n).1))) (fun _ => .blk gc 61 [vc, (.int .i64 (((F_spec_l1Cur_pick code at_ seed n).2).1)), (.int .u64 (((F_spec_l1Cur_pick code at_ seed n).2).2))]) (fun _ => []) en_43 ⟨(ev_t rfl), (ev_t rfl), trivial⟩ rfl rfl (fun w1 _ hw => spec_l1Cur_pick_ok w0 w1 _ gc vc code hcode at_ seed hw n (by first | assumption | omega | grind) (by first | assumption | omega | grind) (by first | assumption | omega | grind) (by first | assumption | omega | grind)) (fun hpo3 _ => ?_)
  replace hpo3 := pick_post hcode.2 code at_ seed n (by omega)
  obtain ⟨q1_2, hq4⟩ : ∃ q, (F_spec_l1Cur_pick code at_ seed n) = q := ⟨_, rfl⟩
  rw [hq4] at hF hpo3 ⊢
  try dsimp only at hF
  refine TL.op (yq (y_eql (ev_t rfl) ev_c)) rfl rfl rfl ?_
  refine TL.op (yq (y_assign (ev_t rfl))) rfl rfl rfl ?_
  refine TL.nil ?_
  refine TN.seq ?_
  refine TC.ret ?_
  subst hF
  exact TN.ret1 rfl (ev_t rfl) (fun w' hw => ⟨trivial, (), rfl, hw⟩)

set_option maxRecDepth 4000 in
set_option maxHeartbeats 1000000 in
theorem spec_l1Cur_among_ok (w0 w : World) (fr : List Ck) (gc : Nat) (vc : Value) (code : List Int) (hcode : RB w0 vc code) (at_ : Int) (seed : Int) (hw : Hp w0 (.blk gc 61 [vc, (.int .i64 at_), (.int .u64 seed)] :: fr) w) (vlist : Value) (list : List Int) (hlist : ∀ (w' : World) (c : Ck), Hp w0 (c :: fr) w' → RI w' vlist list) (hp0 : 0 ≤ at_) (hp1 : at_ ≤ 1900000000) (hp2 : 0 ≤ seed) (hp3 : seed < 18446744073709551616) (hp4 : 1 ≤ list.length) (hp5 : list.length ≤ 1000) :
    Calls Try.prog 93 ([(.pointer (some ⟨gc, 0, none⟩)), vlist] : List Value).toArray w (fun e w' => (at_ ≤ ((F_spec_l1Cur_among code at_ seed list).2).1 ∧ ((F_spec_l1Cur_among code at_ seed list).2).1 ≤ at_ + 2 ∧ 0 ≤ ((F_spec_l1Cur_among code at_ seed list).2).2 ∧ ((F_spec_l1Cur_among code at_ seed list).2).2 < 18446744073709551616) ∧ ∃ _i : Unit, e = .returned (.int .i64 ((F_spec_l1Cur_among code at_ seed list).1)) ∧ Hp w0 ([.blk gc 61 [vc, (.int .i64 ((F_spec_l1Cur_among code at_ seed list).2.1)), (.int .u64 ((F_spec_l1Cur_among code at_ seed list).2.2))]] ++ fr) w') := by
  obtain ⟨rz, hF⟩ : ∃ rz, (F_spec_l1Cur_among code at_ seed list) = rz := ⟨_, rfl⟩
  rw [hF]
  unfold F_spec_l1Cur_among at hF
  have hlen_code := argB_len hcode
  have hlen_list := arg_len (hlist w _ hw)
  refine calls_tcm Try.func93 rfl rfl rfl hw ?_
  change TC _ _ _ _ (Hp w0 ([.blk gc 61 [vc, (.int .i64 at_), (.int .u64 seed)]] ++ fr)) [(0, (.pointer (some ⟨gc, 0, none⟩))), (1, vlist)]
  refine TC.seq ?_
  refine TC.region ?_
  refine TL.op (yq (y_assign ev_c)) rfl rfl rfl ?_
  refine TL.nil ?_
  refine TN.seq ?_
  refine TC.seq ?_
  refine TC.region ?_
  refine TL.op (yq (y_move (ev_t rfl))) rfl rfl rfl ?_
  refine TL.op (yq (y_move (ev_t rfl))) rfl rfl rfl ?_
  refine TL.op (yq (y_move (ev_t rfl))) rfl rfl rfl ?_
  refine TL.op (yq (y_len (ev_t rfl) Try.underlying34 (fun w hw => ((fun w hw => hlist w _ (hw)) w hw).ln))) rfl rfl rfl ?_
  refine TL.callmX (ι := Unit) (p := True) 0 (vs := [(.pointer (some ⟨gc, 0, none⟩)), (.int .i64 (list.length : Int))]) (fun _ => (.int .i64 ((F_spec_l1Cur_pick code at_ seed (list.length : Int)).1))) (fun _ => .blk gc 61 [vc, (.int .i64 (((F_spec_l1Cur_pick code at_ seed (list.length : Int)).2).1)), (.int .u64 (((F_spec_l1Cur_pick code at_ seed (list.length : Int)).2).2))]) (fun _ => []) en_43 ⟨(ev_t rfl), (ev_t rfl), trivial⟩ rfl rfl (fun w1 _ hw => spec_l1Cur_pick_ok w0 w1 _ gc vc code hcode at_ seed hw (list.length : Int) (by first | assumption | omega | grind) (by first | assumption | omega | grind) (by first | assumption | omega | grind) (by first | assumption | omega | grind)) (fun hpo4 _ => ?_)
  replace hpo4 := pick_post hcode.2 code at_ seed (list.length : Int) (by omega)
  obtain ⟨q1_4, hq5⟩ : ∃ q, (F_spec_l1Cur_pick code at_ seed (list.length : Int)) = q := ⟨_, rfl⟩
  rw [hq5] at hF hpo4 ⊢
  try dsimp only at hF
  have hb6 : (q1_4.1).toNat < list.length := (by first | omega | (simp only [List.length_set, List.length_append, List.length_cons, List.length_nil, List.length_replicate]; omega) | (rw [sortI_length]; simp only [List.length_cons, List.length_nil]; omega))
  refine TL.op (yq (y_idx (k := (q1_4.1).toNat) (ev_t rfl) (ev_t rfl) (by first | omega | simp) slT_34 (fun w hw => hlist w _ (hw)) hb6)) rfl rfl rfl ?_
  refine TL.op (yq (y_ldi (ev_t rfl) one_3 (fun w hw => hlist w _ (hw)) hb6)) rfl rfl rfl ?_
  refine TL.op (yq (y_assign (ev_t rfl))) rfl rfl rfl ?_
  refine TL.nil ?_
  refine TN.seq ?_
  refine TC.ret ?_
  subst hF
  exact TN.ret1 rfl (ev_t rfl) (fun w' hw => ⟨(by dsimp only; omega), (), rfl, hw⟩)

set_option maxRecDepth 4000 in
set_option maxHeartbeats 1000000 in
theorem spec_l1Cur_table7_ok (w0 w : World) (fr : List Ck) (gc : Nat) (vc : Value) (code : List Int) (hcode : RB w0 vc code) (at_ : Int) (seed : Int) (hw : Hp w0 (.blk gc 61 [vc, (.int .i64 at_), (.int .u64 seed)] :: fr) w) (hp0 : 0 ≤ at_) (hp1 : at_ ≤ 1800000000) (hp2 : 0 ≤ seed) (hp3 : seed < 18446744073709551616) :
    Calls Try.prog 95 ([(.pointer (some ⟨gc, 0, none⟩))] : List Value).toArray w (fun e w' => (at_ ≤ ((F_spec_l1Cur_table7 code at_ seed).2).1 ∧ ((F_spec_l1Cur_table7 code at_ seed).2).1 ≤ at_ + 2 ∧ 0 ≤ ((F_spec_l1Cur_table7 code at_ seed).2).2 ∧ ((F_spec_l1Cur_table7 code at_ seed).2).2 < 18446744073709551616 ∧ ((F_spec_l1Cur_table7 code at_ seed)).1.length ≤ 7) ∧ ∃ i : Value × List Value, e = .returned i.1 ∧ Hp w0 ([.blk gc 61 [vc, (.int .i64 ((F_spec_l1Cur_table7 code at_ seed).2.1)), (.int .u64 ((F_spec_l1Cur_table7 code at_ seed).2.2))], tabI 34 3 i.1 i.2 ((F_spec_l1Cur_table7 code at_ seed).1)] ++ fr) w') := by
  obtain ⟨rz, hF⟩ : ∃ rz, (F_spec_l1Cur_table7 code at_ seed) = rz := ⟨_, rfl⟩
  rw [hF]
  unfold F_spec_l1Cur_table7 at hF
  have hu7 := (sq_uni (n := 7) 2 (by omega)).len
  have hlen_code := argB_len hcode
  refine calls_tcm Try.func95 rfl rfl rfl hw ?_
  change TC _ _ _ _ (Hp w0 ([.blk gc 61 [vc, (.int .i64 at_), (.int .u64 seed)]] ++ fr)) [(0, (.pointer (some ⟨gc, 0, none⟩)))]
  refine TC.seq ?_
  refine TC.region ?_
  refine TL.op (yq (y_assign ev_c)) rfl rfl rfl ?_
  refine TL.nil ?_
  refine TN.seq ?_
  refine TC.seq ?_
  refine TC.seq ?_
  refine TC.region ?_
  refine TL.op (yq (y_move (ev_t rfl))) rfl rfl rfl ?_
  refine TL.callmX (ι := Unit) (p := True) 0 (vs := [(.pointer (some ⟨gc, 0, none⟩)), (.int .i64 2)]) (fun _ => (.bool ((F_spec_l1Cur_one code at_ seed 2).1))) (fun _ => .blk gc 61 [vc, (.int .i64 (((F_spec_l1Cur_one code at_ seed 2).2).1)), (.int .u64 (((F_spec_l1Cur_one code at_ seed 2).2).2))]) (fun _ => []) en_44 ⟨(ev_t rfl), ev_c, trivial⟩ rfl rfl (fun w1 _ hw => spec_l1Cur_one_ok w0 w1 _ gc vc code hcode at_ seed hw 2 (by first | assumption | omega | grind) (by first | assumption | omega | grind) (by first | assumption | omega | grind) (by first | assumption | omega | grind)) (fun hpo5 _ => ?_)
  replace hpo5 := one_post hcode.2 code at_ seed 2 (by omega)
  obtain ⟨q1_1, hq6⟩ : ∃ q, (F_spec_l1Cur_one code at_ seed 2) = q := ⟨_, rfl⟩
  rw [hq6] at hF hpo5 ⊢
  try dsimp only at hF
  refine TL.nil ?_
  refine TN.seq ?_
  refine TC.cond (b := q1_1.1) (ev_t rfl) (fun h7 => ?_) (fun h7 => ?_)
  · rw [bif_pos h7] at hF
    have q8 := h7
    refine TC.seq ?_
    refine TC.region ?_
    refine TL.buildSlice (zs := []) (vs := []) slT_43 rfl trivial (by simp) rfl (by decide) rfl (fun v2_0 => ?_)
    refine TL.cls (fun w hw => hw.emptyTab 3) ?_
    refine TL.op (yq (y_assign (ev_t rfl))) rfl rfl rfl ?_
    refine TL.nil ?_
    refine TN.seq ?_
    refine TC.ret ?_
    refine TN.thenR ?_
    subst hF
    exact TN.ret1 rfl (ev_t rfl) (fun w' hw => ⟨(by dsimp only; first | omega | (simp only [List.length_nil]; omega)), (v2_0, []), rfl, Hp.picksF (ks := [tabI 34 3 v2_0 ([]) ([]), .blk gc 61 [vc, (.int .i64 ((q1_1.2).1)), (.int .u64 ((q1_1.2).2))]]) (fr := fr) [1, 0] (by decide) rfl hw⟩)
  · rw [bif_neg h7] at hF
    have q8 := h7
    refine TC.skip ?_
    refine TN.seq ?_
    refine TC.seq ?_
    refine TC.region ?_
    refine TL.callr (ι := Value × List Value) (vs := [(.int .i64 7), (.int .i64 2)]) (fun i => (.agg #[i.1])) (fun i => [tabI 34 3 i.1 i.2 (F_spec_l6Uniform 7 2)]) en_94 ⟨ev_c, ev_c, trivial⟩ rfl (fun w hw => spec_l6Uniform_ok w 7 2 (by first | assumption | omega | grind)) (fun r3_0 => ?_)
    refine TL.op (yq (y_field (fd_45_0 _) (ev_t rfl))) rfl rfl rfl ?_
    refine TL.op (yq (y_assign (ev_t rfl))) rfl rfl rfl ?_
    refine TL.nil ?_
    refine TN.seq ?_
    refine TC.ret ?_
    subst hF
    exact TN.ret1 rfl (ev_t rfl) (fun w' hw => ⟨(by dsimp only; first | omega | (simp only [List.length_nil]; omega)), (r3_0.1, r3_0.2), rfl, Hp.picksF (ks := [tabI 34 3 r3_0.1 r3_0.2 (F_spec_l6Uniform 7 2), .blk gc 61 [vc, (.int .i64 ((q1_1.2).1)), (.int .u64 ((q1_1.2).2))]]) (fr := fr) [1, 0] (by decide) rfl hw⟩)

set_option maxRecDepth 4000 in
set_option maxHeartbeats 1000000 in
theorem spec_l1Cur_table6_ok (w0 w : World) (fr : List Ck) (gc : Nat) (vc : Value) (code : List Int) (hcode : RB w0 vc code) (at_ : Int) (seed : Int) (hw : Hp w0 (.blk gc 61 [vc, (.int .i64 at_), (.int .u64 seed)] :: fr) w) (opn : Bool) (hp0 : 0 ≤ at_) (hp1 : at_ ≤ 1500000000) (hp2 : 0 ≤ seed) (hp3 : seed < 18446744073709551616) :
    Calls Try.prog 58 ([(.pointer (some ⟨gc, 0, none⟩)), (.bool opn)] : List Value).toArray w (fun e w' => (at_ ≤ ((F_spec_l1Cur_table6 code at_ seed opn).2).1 ∧ ((F_spec_l1Cur_table6 code at_ seed opn).2).1 ≤ at_ + 300 ∧ 0 ≤ ((F_spec_l1Cur_table6 code at_ seed opn).2).2 ∧ ((F_spec_l1Cur_table6 code at_ seed opn).2).2 < 18446744073709551616 ∧ ((F_spec_l1Cur_table6 code at_ seed opn)).1.length ≤ 7) ∧ ∃ i : Value × List Value, e = .returned (.agg #[i.1]) ∧ Hp w0 ([.blk gc 61 [vc, (.int .i64 ((F_spec_l1Cur_table6 code at_ seed opn).2.1)), (.int .u64 ((F_spec_l1Cur_table6 code at_ seed opn).2.2))], tabI 34 3 i.1 i.2 ((F_spec_l1Cur_table6 code at_ seed opn).1)] ++ fr) w') := by
  obtain ⟨rz, hF⟩ : ∃ rz, (F_spec_l1Cur_table6 code at_ seed opn) = rz := ⟨_, rfl⟩
  rw [hF]
  unfold F_spec_l1Cur_table6 at hF
  have hlen_code := argB_len hcode
  refine calls_tcm Try.func58 rfl rfl rfl hw ?_
  change TC _ _ _ _ (Hp w0 ([.blk gc 61 [vc, (.int .i64 at_), (.int .u64 seed)]] ++ fr)) [(0, (.pointer (some ⟨gc, 0, none⟩))), (1, (.bool opn))]
  refine TC.seq ?_
  refine TC.region ?_
  refine TL.alloc (u := (.agg #[(.slice none 0 0)])) (by kernel_rfl) rfl (fun g0_0 => ?_)
  refine TL.nil ?_
  refine TN.seq ?_
  refine TC.seq ?_
  refine TC.region ?_
  refine TL.op (yq (y_move (ev_t rfl))) rfl rfl rfl ?_
  refine TL.buildI (zs := [.const (.int .i64 1), .const (.int .i64 2), .const (.int .i64 3), .const (.int .i64 3), .const (.int .i64 4), .const (.int .i64 4), .const (.int .i64 5), .const (.int .i64 6)]) (qs := [1, 2, 3, 3, 4, 4, 5, 6]) slT_34 rfl ⟨ev_c, ev_c, ev_c, ev_c, ev_c, ev_c, ev_c, ev_c, trivial⟩ rfl (by decide) rfl (fun v1_1 => ?_)
  refine TL.callmX (ι := Unit) (p := (at_ ≤ ((F_spec_l1Cur_among code at_ seed ([1, 2, 3, 3, 4, 4, 5, 6])).2).1 ∧ ((F_spec_l1Cur_among code at_ seed ([1, 2, 3, 3, 4, 4, 5, 6])).2).1 ≤ at_ + 2 ∧ 0 ≤ ((F_spec_l1Cur_among code at_ seed ([1, 2, 3, 3, 4, 4, 5, 6])).2).2 ∧ ((F_spec_l1Cur_among code at_ seed ([1, 2, 3, 3, 4, 4, 5, 6])).2).2 < 18446744073709551616)) 2 (vs := [(.pointer (some ⟨gc, 0, none⟩)), v1_1]) (fun _ => (.int .i64 ((F_spec_l1Cur_among code at_ seed ([1, 2, 3, 3, 4, 4, 5, 6])).1))) (fun _ => .blk gc 61 [vc, (.int .i64 (((F_spec_l1Cur_among code at_ seed ([1, 2, 3, 3, 4, 4, 5, 6])).2).1)), (.int .u64 (((F_spec_l1Cur_among code at_ seed ([1, 2, 3, 3, 4, 4, 5, 6])).2).2))]) (fun _ => []) en_93 ⟨(ev_t rfl), (ev_t rfl), trivial⟩ rfl rfl (fun w1 _ hw => spec_l1Cur_among_ok w0 w1 _ gc vc code hcode at_ seed hw v1_1 ([1, 2, 3, 3, 4, 4, 5, 6]) (fun w2 _ hw2 => (ri_row 1 rfl) w2 hw2) (by first | assumption | omega | decide | grind) (by first | assumption | omega | decide | grind) (by first | assumption | omega | decide | grind) (by first | assumption | omega | decide | grind) (by first | assumption | omega | decide | grind) (by first | assumption | omega | decide | grind)) (fun hpo179 _ => ?_)
  have hr181 := among_rng hcode.2 code at_ seed ([1, 2, 3, 3, 4, 4, 5, 6]) (1) (6) (by decide) (by decide) (by omega)
  obtain ⟨q1_2, hq180⟩ : ∃ q, (F_spec_l1Cur_among code at_ seed ([1, 2, 3, 3, 4, 4, 5, 6])) = q := ⟨_, rfl⟩
  rw [hq180] at hF hpo179 hr181 ⊢
  try dsimp only at hF
  refine TL.op (yq (y_assign (ev_t rfl))) rfl rfl rfl ?_
  refine TL.nil ?_
  refine TN.seq ?_
  refine TC.seq ?_
  refine TC.region ?_
  refine TL.op (yq (y_move (ev_t rfl))) rfl rfl rfl ?_
  refine TL.callr (ι := Value × List Value) (vs := [(.int .i64 q1_2.1), (.int .i64 1)]) (fun i => (.agg #[i.1])) (fun i => [tabI 34 3 i.1 i.2 (F_spec_l6Uniform q1_2.1 1)]) en_94 ⟨(ev_t rfl), ev_c, trivial⟩ rfl (fun w hw => spec_l6Uniform_ok w q1_2.1 1 (by first | assumption | omega | grind)) (fun r2_1 => ?_)
  refine TL.alloc (u := (.agg #[(.slice none 0 0)])) (by kernel_rfl) rfl (fun g2_2 => ?_)
  refine TL.storeAgg (cs := [(.slice none 0 0)]) (us := [r2_1.1]) 0 (ev_t rfl) (ev_t rfl) agg_45 rfl rfl (fun w hw => (ocs_cons (ln_one ((fun w hw => ((rii_tab 1 rfl) w hw).1) w hw).ln) ocs_nil)) ?_
  refine TL.nil ?_
  refine TN.seq ?_
  refine TC.seq ?_
  refine TC.seq ?_
  refine TC.region ?_
  refine TL.op (yq (y_assign ev_c)) rfl rfl rfl ?_
  refine TL.nil ?_
  refine TN.seq ?_
  refine TC.block ?_
  obtain ⟨c182, hc183⟩ : ∃ c, F_spec_l1Cur_table6_L1 code opn q1_2 ((((q1_2.1).toNat) - 0) + 1) (0, ((q1_2.2).1), ((q1_2.2).2), (F_spec_l6Uniform q1_2.1 1)) = c := ⟨_, rfl⟩
  rw [hc183] at hF
  refine TC.loop (ι := Nat × Nat × Int × Int × List (List Int)) (fun (fu1, k7_1, zP_1_1, zP_2_1, m0_1) => [(0, (.pointer (some ⟨gc, 0, none⟩))), (1, (.bool opn)), (4, (.pointer (some ⟨g0_0, 0, none⟩))), (5, (.int .i64 q1_2.1)), (6, (.pointer (some ⟨g2_2, 0, none⟩))), (7, (.int .i64 (k7_1 : Int)))]) (fun (fu1, k7_1, zP_1_1, zP_2_1, m0_1) => Hp w0 ([.blk g2_2 45 [r2_1.1], tabI 34 3 r2_1.1 r2_1.2 m0_1, .blk g0_0 45 [(.slice none 0 0)], .blk gc 61 [vc, (.int .i64 zP_1_1), (.int .u64 zP_2_1)]] ++ fr)) (fun (fu1, k7_1, zP_1_1, zP_2_1, m0_1) => (k7_1 ≤ ((q1_2.1).toNat)) ∧ (at_ ≤ zP_1_1) ∧ (zP_1_1 ≤ at_ + 2 + 24 * k7_1) ∧ (Sq (q1_2.1).toNat m0_1) ∧ (0 ≤ zP_2_1) ∧ (zP_2_1 < 18446744073709551616) ∧ ((q1_2.1).toNat) - k7_1 < fu1 ∧ F_spec_l1Cur_table6_L1 code opn q1_2 fu1 (k7_1, zP_1_1, zP_2_1, m0_1) = c182) (fun (fu1, k7_1, zP_1_1, zP_2_1, m0_1) => fu1) ((((q1_2.1).toNat) - 0) + 1, 0, (q1_2.2).1, (q1_2.2).2, (F_spec_l6Uniform q1_2.1 1)) ⟨(by first | omega | (simp [-List.getD_eq_getElem?_getD] <;> omega)), (by first | omega | (simp [-List.getD_eq_getElem?_getD] <;> omega)), (by first | omega | (simp [-List.getD_eq_getElem?_getD] <;> omega)), (sq_uni _ (by omega)), (by first | omega | (simp [-List.getD_eq_getElem?_getD] <;> omega)), (by first | omega | (simp [-List.getD_eq_getElem?_getD] <;> omega)), (by omega), hc183⟩ ⟨rfl, rfl, rfl, rfl, rfl, rfl, trivial⟩ (fun w hw => Hp.sublist hw (.cons_cons _ (.cons_cons _ (.cons _ (.cons_cons _ (.cons_cons _ (List.Sublist.refl _))))))) ?_
  rintro ⟨fu1, k7_1, zP_1_1, zP_2_1, m0_1⟩ hJ1
  obtain ⟨hi1_0, hi1_1, hi1_2, hi1_3, hi1_4, hi1_5, hmu1, hL1⟩ : (k7_1 ≤ ((q1_2.1).toNat)) ∧ (at_ ≤ zP_1_1) ∧ (zP_1_1 ≤ at_ + 2 + 24 * k7_1) ∧ (Sq (q1_2.1).toNat m0_1) ∧ (0 ≤ zP_2_1) ∧ (zP_2_1 < 18446744073709551616) ∧ ((q1_2.1).toNat) - k7_1 < fu1 ∧ F_spec_l1Cur_table6_L1 code opn q1_2 fu1 (k7_1, zP_1_1, zP_2_1, m0_1) = c182 := hJ1
  change TC _ _ _ _ (Hp w0 ([.blk g2_2 45 [r2_1.1], tabI 34 3 r2_1.1 r2_1.2 m0_1, .blk g0_0 45 [(.slice none 0 0)], .blk gc 61 [vc, (.int .i64 zP_1_1), (.int .u64 zP_2_1)]] ++ fr)) [(0, (.pointer (some ⟨gc, 0, none⟩))), (1, (.bool opn)), (4, (.pointer (some ⟨g0_0, 0, none⟩))), (5, (.int .i64 q1_2.1)), (6, (.pointer (some ⟨g2_2, 0, none⟩))), (7, (.int .i64 (k7_1 : Int)))]
  obtain ⟨mf1, rfl⟩ : ∃ m, fu1 = m + 1 := ⟨fu1 - 1, by omega⟩
  rw [F_spec_l1Cur_table6_L1_s] at hL1
  refine TC.seq ?_
  refine TC.seq ?_
  refine TC.region ?_
  refine TL.op (yq (y_move (ev_t rfl))) rfl rfl rfl ?_
  refine TL.op (yq (y_move (ev_t rfl))) rfl rfl rfl ?_
  refine TL.op (yq (y_lss (ev_t rfl) (ev_t rfl))) rfl rfl rfl ?_
  refine TL.nil ?_
  refine TN.seq ?_
  refine TC.cond (b := decide ((k7_1 : Int) < q1_2.1)) (ev_t rfl) (fun h184 => ?_) (fun h184 => ?_)
  · rw [bif_pos h184] at hL1
    have q185 := (of_decide_eq_true h184)
    refine TC.skip ?_
    refine TN.seq ?_
    refine TC.seq ?_
    refine TC.block ?_
    refine TC.seq ?_
    refine TC.region ?_
    refine TL.op (yq (y_assign ev_c)) rfl rfl rfl ?_
    refine TL.nil ?_
    refine TN.seq ?_
    refine TC.block ?_
    obtain ⟨c186, hc187⟩ : ∃ c, F_spec_l1Cur_table6_L2 code opn k7_1 ((k7_1 - 0) + 1) (0, zP_1_1, zP_2_1, m0_1) = c := ⟨_, rfl⟩
    rw [hc187] at hL1
    refine TC.loop (ι := Nat × Nat × Int × Int × List (List Int)) (fun (fu2, k8_2, zP_1_2, zP_2_2, m0_2) => [(0, (.pointer (some ⟨gc, 0, none⟩))), (1, (.bool opn)), (4, (.pointer (some ⟨g0_0, 0, none⟩))), (5, (.int .i64 q1_2.1)), (6, (.pointer (some ⟨g2_2, 0, none⟩))), (7, (.int .i64 (k7_1 : Int))), (8, (.int .i64 (k8_2 : Int)))]) (fun (fu2, k8_2, zP_1_2, zP_2_2, m0_2) => Hp w0 ([.blk g2_2 45 [r2_1.1], tabI 34 3 r2_1.1 r2_1.2 m0_2, .blk g0_0 45 [(.slice none 0 0)], .blk gc 61 [vc, (.int .i64 zP_1_2), (.int .u64 zP_2_2)]] ++ fr)) (fun (fu2, k8_2, zP_1_2, zP_2_2, m0_2) => (k8_2 ≤ k7_1) ∧ (at_ ≤ zP_1_2) ∧ (zP_1_2 ≤ at_ + 2 + 24 * k7_1 + 4 * k8_2) ∧ (Sq (q1_2.1).toNat m0_2) ∧ (0 ≤ zP_2_2) ∧ (zP_2_2 < 18446744073709551616) ∧ k7_1 - k8_2 < fu2 ∧ F_spec_l1Cur_table6_L2 code opn k7_1 fu2 (k8_2, zP_1_2, zP_2_2, m0_2) = c186) (fun (fu2, k8_2, zP_1_2, zP_2_2, m0_2) => fu2) ((k7_1 - 0) + 1, 0, zP_1_1, zP_2_1, m0_1) ⟨(by first | omega | (simp [-List.getD_eq_getElem?_getD] <;> omega)), (by first | omega | (simp [-List.getD_eq_getElem?_getD] <;> omega)), (by first | omega | (simp [-List.getD_eq_getElem?_getD] <;> omega)), hi1_3, (by first | omega | (simp [-List.getD_eq_getElem?_getD] <;> omega)), (by first | omega | (simp [-List.getD_eq_getElem?_getD] <;> omega)), (by omega), hc187⟩ ⟨rfl, rfl, rfl, rfl, rfl, rfl, rfl, trivial⟩ (fun w hw => hw) ?_
    rintro ⟨fu2, k8_2, zP_1_2, zP_2_2, m0_2⟩ hJ2
    obtain ⟨hi2_0, hi2_1, hi2_2, hi2_3, hi2_4, hi2_5, hmu2, hL2⟩ : (k8_2 ≤ k7_1) ∧ (at_ ≤ zP_1_2) ∧ (zP_1_2 ≤ at_ + 2 + 24 * k7_1 + 4 * k8_2) ∧ (Sq (q1_2.1).toNat m0_2) ∧ (0 ≤ zP_2_2) ∧ (zP_2_2 < 18446744073709551616) ∧ k7_1 - k8_2 < fu2 ∧ F_spec_l1Cur_table6_L2 code opn k7_1 fu2 (k8_2, zP_1_2, zP_2_2, m0_2) = c186 := hJ2
    change TC _ _ _ _ (Hp w0 ([.blk g2_2 45 [r2_1.1], tabI 34 3 r2_1.1 r2_1.2 m0_2, .blk g0_0 45 [(.slice none 0 0)], .blk gc 61 [vc, (.int .i64 zP_1_2), (.int .u64 zP_2_2)]] ++ fr)) [(0, (.pointer (some ⟨gc, 0, none⟩))), (1, (.bool opn)), (4, (.pointer (some ⟨g0_0, 0, none⟩))), (5, (.int .i64 q1_2.1)), (6, (.pointer (some ⟨g2_2, 0, none⟩))), (7, (.int .i64 (k7_1 : Int))), (8, (.int .i64 (k8_2 : Int)))]
    obtain ⟨mf2, rfl⟩ : ∃ m, fu2 = m + 1 := ⟨fu2 - 1, by omega⟩
    rw [F_spec_l1Cur_table6_L2_s] at hL2
    refine TC.seq ?_
    refine TC.seq ?_
    refine TC.region ?_
    refine TL.op (yq (y_move (ev_t rfl))) rfl rfl rfl ?_
    refine TL.op (yq (y_move (ev_t rfl))) rfl rfl rfl ?_
    refine TL.op (yq (y_lss (ev_t rfl) (ev_t rfl))) rfl rfl rfl ?_
    refine TL.nil ?_
    refine TN.seq ?_
    refine TC.cond (b := decide ((k8_2 : Int) < (k7_1 : Int))) (ev_t rfl) (fun h188 => ?_) (fun h188 => ?_)
    · rw [bif_pos h188] at hL2
      have q189 := (of_decide_eq_true h188)
      have hs1 := hi2_3.len
      have hs2 := hi2_3.rows k7_1 (by omega)
      refine TC.skip ?_
      refine TN.seq ?_
      refine TC.seq ?_
      refine TC.block ?_
      refine TC.seq ?_
      refine TC.region ?_
      refine TL.op (yq (y_move (ev_t rfl))) rfl rfl rfl ?_
      refine TL.buildI (zs := [.const (.int .i64 1), .const (.int .i64 2), .const (.int .i64 3), .const (.int .i64 4), .const (.int .i64 5), .const (.int .i64 7), .const (.int .i64 9), .const (.int .i64 12)]) (qs := [1, 2, 3, 4, 5, 7, 9, 12]) slT_34 rfl ⟨ev_c, ev_c, ev_c, ev_c, ev_c, ev_c, ev_c, ev_c, trivial⟩ rfl (by decide) rfl (fun v9_1 => ?_)
      refine TL.callmX (ι := Unit) (p := (zP_1_2 ≤ ((F_spec_l1Cur_among code zP_1_2 zP_2_2 ([1, 2, 3, 4, 5, 7, 9, 12])).2).1 ∧ ((F_spec_l1Cur_among code zP_1_2 zP_2_2 ([1, 2, 3, 4, 5, 7, 9, 12])).2).1 ≤ zP_1_2 + 2 ∧ 0 ≤ ((F_spec_l1Cur_among code zP_1_2 zP_2_2 ([1, 2, 3, 4, 5, 7, 9, 12])).2).2 ∧ ((F_spec_l1Cur_among code zP_1_2 zP_2_2 ([1, 2, 3, 4, 5, 7, 9, 12])).2).2 < 18446744073709551616)) 4 (vs := [(.pointer (some ⟨gc, 0, none⟩)), v9_1]) (fun _ => (.int .i64 ((F_spec_l1Cur_among code zP_1_2 zP_2_2 ([1, 2, 3, 4, 5, 7, 9, 12])).1))) (fun _ => .blk gc 61 [vc, (.int .i64 (((F_spec_l1Cur_among code zP_1_2 zP_2_2 ([1, 2, 3, 4, 5, 7, 9, 12])).2).1)), (.int .u64 (((F_spec_l1Cur_among code zP_1_2 zP_2_2 ([1, 2, 3, 4, 5, 7, 9, 12])).2).2))]) (fun _ => []) en_93 ⟨(ev_t rfl), (ev_t rfl), trivial⟩ rfl rfl (fun w1 _ hw => spec_l1Cur_among_ok w0 w1 _ gc vc code hcode zP_1_2 zP_2_2 hw v9_1 ([1, 2, 3, 4, 5, 7, 9, 12]) (fun w2 _ hw2 => (ri_row 1 rfl) w2 hw2) (by first | assumption | omega | decide | grind) (by first | assumption | omega | decide | grind) (by first | assumption | omega | decide | grind) (by first | assumption | omega | decide | grind) (by first | assumption | omega | decide | grind) (by first | assumption | omega | decide | grind)) (fun hpo190 _ => ?_)
      have hr192 := among_rng hcode.2 code zP_1_2 zP_2_2 ([1, 2, 3, 4, 5, 7, 9, 12]) (1) (12) (by decide) (by decide) (by omega)
      obtain ⟨q9_2, hq191⟩ : ∃ q, (F_spec_l1Cur_among code zP_1_2 zP_2_2 ([1, 2, 3, 4, 5, 7, 9, 12])) = q := ⟨_, rfl⟩
      rw [hq191] at hL2 hpo190 hr192 ⊢
      try dsimp only at hL2
      refine TL.op (yq (y_assign (ev_t rfl))) rfl rfl rfl ?_
      refine TL.nil ?_
      refine TN.seq ?_
      refine TC.seq ?_
      refine TC.seq ?_
      refine TC.region ?_
      refine TL.op (yq (y_move (ev_t rfl))) rfl rfl rfl ?_
      refine TL.op (yq (y_move (ev_t rfl))) rfl rfl rfl ?_
      refine TL.split 31 (b := opn) rfl (fun h193 => ?_) (fun h193 => ?_)
      · rw [bif_pos h193] at hL2
        have q194 := h193
        refine TL.opw (w_t rfl rfl rfl) (fun _ => yq (y_move (ev_t rfl))) rfl rfl ?_
        refine TL.ung (w_t rfl rfl rfl) ?_
        refine TL.callmX (ι := Unit) (p := True) 4 (vs := [(.pointer (some ⟨gc, 0, none⟩)), (.int .i64 3)]) (fun _ => (.bool ((F_spec_l1Cur_one code ((q9_2.2).1) ((q9_2.2).2) 3).1))) (fun _ => .blk gc 61 [vc, (.int .i64 (((F_spec_l1Cur_one code ((q9_2.2).1) ((q9_2.2).2) 3).2).1)), (.int .u64 (((F_spec_l1Cur_one code ((q9_2.2).1) ((q9_2.2).2) 3).2).2))]) (fun _ => []) en_44 ⟨(ev_t rfl), ev_c, trivial⟩ rfl rfl (fun w1 _ hw => spec_l1Cur_one_ok w0 w1 _ gc vc code hcode ((q9_2.2).1) ((q9_2.2).2) hw 3 (by first | assumption | omega | grind) (by first | assumption | omega | grind) (by first | assumption | omega | grind) (by first | assumption | omega | grind)) (fun hpo195 _ => ?_)
        replace hpo195 := one_post hcode.2 code ((q9_2.2).1) ((q9_2.2).2) 3 (by omega)
        obtain ⟨q10_3, hq196⟩ : ∃ q, (F_spec_l1Cur_one code ((q9_2.2).1) ((q9_2.2).2) 3) = q := ⟨_, rfl⟩
        rw [hq196] at hL2 hpo195 ⊢
        try dsimp only at hL2
        refine TL.op (yq (y_pickT (ev_t rfl) (ev_t rfl))) rfl rfl rfl ?_
        refine TL.nil ?_
        refine TN.seq ?_
        refine TC.cond (b := q10_3.1) (ev_t rfl) (fun h197 => ?_) (fun h197 => ?_)
        · rw [bif_pos h197] at hL2
          have q198 := h197
          have hs3 := (hi2_3.set (x := k7_1) (y := k8_2) (v := -1) (by omega) (by omega))
          have hs4 := hs3.len
          have hs5 := hs3.rows k8_2 (by omega)
          refine TC.region ?_
          refine TL.op (yq (y_assign ev_c)) rfl rfl rfl ?_
          refine TL.nil ?_
          refine TN.seq ?_
          refine TC.seq ?_
          refine TC.region ?_
          refine TL.op (yq (y_fa (fa_45_0 g2_2) (ev_t rfl))) rfl rfl rfl ?_
          refine TL.op (yq (y_ldb 1 (ev_t rfl) one_43 rfl rfl)) rfl rfl rfl ?_
          refine TL.op (yq (y_move (ev_t rfl))) rfl rfl rfl ?_
          have hb199 : k7_1 < m0_2.length := (by first | omega | (simp only [List.length_set, List.length_append, List.length_cons, List.length_nil, List.length_replicate]; omega) | (rw [sortI_length]; simp only [List.length_cons, List.length_nil]; omega))
          refine TL.op (yq (y_idx (k := k7_1) (ev_t rfl) (ev_t rfl) (by first | omega | simp) slT_43 (fun w hw => ((rii_tab 2 rfl) w hw).1) hb199)) rfl rfl rfl ?_
          refine TL.op (yq (y_ldT 2 (ev_t rfl) one_34 rfl hb199)) rfl rfl rfl ?_
          refine TL.op (yq (y_move (ev_t rfl))) rfl rfl rfl ?_
          refine TL.op (yq (y_move (ev_t rfl))) rfl rfl rfl ?_
          have hb200 : k8_2 < (m0_2.getD k7_1 []).length := (by first | omega | (simp only [List.length_set, List.length_append, List.length_cons, List.length_nil, List.length_replicate]; omega) | (rw [sortI_length]; simp only [List.length_cons, List.length_nil]; omega))
          refine TL.op (yq (y_idx (k := k8_2) (ev_t rfl) (ev_t rfl) (by first | omega | simp) slT_34 (ri_tab 2 k7_1 rfl hb199) hb200)) rfl rfl rfl ?_
          refine TL.storeT 2 (ev_t rfl) (ev_t rfl) one_3 rfl hb199 hb200 ?_
          refine TL.nil ?_
          refine TN.seq ?_
          refine TC.region ?_
          refine TL.op (yq (y_fa (fa_45_0 g2_2) (ev_t rfl))) rfl rfl rfl ?_
          refine TL.op (yq (y_ldb 1 (ev_t rfl) one_43 rfl rfl)) rfl rfl rfl ?_
          refine TL.op (yq (y_move (ev_t rfl))) rfl rfl rfl ?_
          have hb201 : k8_2 < (m0_2.set k7_1 ((m0_2.getD k7_1 []).set k8_2 (-1))).length := (by first | omega | (simp only [List.length_set, List.length_append, List.length_cons, List.length_nil, List.length_replicate]; omega) | (rw [sortI_length]; simp only [List.length_cons, List.length_nil]; omega))
          refine TL.op (yq (y_idx (k := k8_2) (ev_t rfl) (ev_t rfl) (by first | omega | simp) slT_43 (fun w hw => ((rii_tab 2 rfl) w hw).1) hb201)) rfl rfl rfl ?_
          refine TL.op (yq (y_ldT 2 (ev_t rfl) one_34 rfl hb201)) rfl rfl rfl ?_
          refine TL.op (yq (y_move (ev_t rfl))) rfl rfl rfl ?_
          refine TL.op (yq (y_move (ev_t rfl))) rfl rfl rfl ?_
          have hb202 : k7_1 < ((m0_2.set k7_1 ((m0_2.getD k7_1 []).set k8_2 (-1))).getD k8_2 []).length := (by first | omega | (simp only [List.length_set, List.length_append, List.length_cons, List.length_nil, List.length_replicate]; omega) | (rw [sortI_length]; simp only [List.length_cons, List.length_nil]; omega))
          refine TL.op (yq (y_idx (k := k7_1) (ev_t rfl) (ev_t rfl) (by first | omega | simp) slT_34 (ri_tab 2 k8_2 rfl hb201) hb202)) rfl rfl rfl ?_
          refine TL.storeT 2 (ev_t rfl) (ev_t rfl) one_3 rfl hb201 hb202 ?_
          refine TL.nil ?_
          refine TN.blockN ?_
          refine TN.seq ?_
          refine TC.region ?_
          refine TL.op (yq (y_move (ev_t rfl))) rfl rfl rfl ?_
          refine TL.op (yq (y_add (ev_t rfl) ev_c (by unfold In64; omega))) rfl rfl rfl ?_
          refine TL.op (yq (y_assign (ev_t rfl))) rfl rfl rfl ?_
          refine TL.nil ?_
          exact TN.hand (mf2, (k8_2 + 1), (q10_3.2).1, (q10_3.2).2, ((m0_2.set k7_1 ((m0_2.getD k7_1 []).set k8_2 (-1))).set k8_2 (((m0_2.set k7_1 ((m0_2.getD k7_1 []).set k8_2 (-1))).getD k8_2 []).set k7_1 (-1)))) ⟨(by first | omega | (simp [-List.getD_eq_getElem?_getD] <;> omega)), (by first | omega | (simp [-List.getD_eq_getElem?_getD] <;> omega)), (by first | omega | (simp [-List.getD_eq_getElem?_getD] <;> omega)), ((hi2_3.set (by omega) (by omega)).set (by omega) (by omega)), (by first | omega | (simp [-List.getD_eq_getElem?_getD] <;> omega)), (by first | omega | (simp [-List.getD_eq_getElem?_getD] <;> omega)), (by omega), hL2⟩ (Nat.lt_succ_self _) ⟨rfl, rfl, rfl, rfl, rfl, rfl, rfl, trivial⟩ (fun w hw => Hp.sublist hw (.cons _ (.cons_cons _ (.cons_cons _ (.cons_cons _ (.cons_cons _ (List.Sublist.refl _)))))))
        · rw [bif_neg h197] at hL2
          have q198 := h197
          have hs3 := (hi2_3.set (x := k7_1) (y := k8_2) (v := q9_2.1) (by omega) (by omega))
          have hs4 := hs3.len
          have hs5 := hs3.rows k8_2 (by omega)
          refine TC.skip ?_
          refine TN.seq ?_
          refine TC.seq ?_
          refine TC.region ?_
          refine TL.op (yq (y_fa (fa_45_0 g2_2) (ev_t rfl))) rfl rfl rfl ?_
          refine TL.op (yq (y_ldb 1 (ev_t rfl) one_43 rfl rfl)) rfl rfl rfl ?_
          refine TL.op (yq (y_move (ev_t rfl))) rfl rfl rfl ?_
          have hb203 : k7_1 < m0_2.length := (by first | omega | (simp only [List.length_set, List.length_append, List.length_cons, List.length_nil, List.length_replicate]; omega) | (rw [sortI_length]; simp only [List.length_cons, List.length_nil]; omega))
          refine TL.op (yq (y_idx (k := k7_1) (ev_t rfl) (ev_t rfl) (by first | omega | simp) slT_43 (fun w hw => ((rii_tab 2 rfl) w hw).1) hb203)) rfl rfl rfl ?_
          refine TL.op (yq (y_ldT 2 (ev_t rfl) one_34 rfl hb203)) rfl rfl rfl ?_
          refine TL.op (yq (y_move (ev_t rfl))) rfl rfl rfl ?_
          refine TL.op (yq (y_move (ev_t rfl))) rfl rfl rfl ?_
          have hb204 : k8_2 < (m0_2.getD k7_1 []).length := (by first | omega | (simp only [List.length_set, List.length_append, List.length_cons, List.length_nil, List.length_replicate]; omega) | (rw [sortI_length]; simp only [List.length_cons, List.length_nil]; omega))
          refine TL.op (yq (y_idx (k := k8_2) (ev_t rfl) (ev_t rfl) (by first | omega | simp) slT_34 (ri_tab 2 k7_1 rfl hb203) hb204)) rfl rfl rfl ?_
          refine TL.storeT 2 (ev_t rfl) (ev_t rfl) one_3 rfl hb203 hb204 ?_
          refine TL.nil ?_
          refine TN.seq ?_
          refine TC.region ?_
          refine TL.op (yq (y_fa (fa_45_0 g2_2) (ev_t rfl))) rfl rfl rfl ?_
          refine TL.op (yq (y_ldb 1 (ev_t rfl) one_43 rfl rfl)) rfl rfl rfl ?_
          refine TL.op (yq (y_move (ev_t rfl))) rfl rfl rfl ?_
          have hb205 : k8_2 < (m0_2.set k7_1 ((m0_2.getD k7_1 []).set k8_2 q9_2.1)).length := (by first | omega | (simp only [List.length_set, List.length_append, List.length_cons, List.length_nil, List.length_replicate]; omega) | (rw [sortI_length]; simp only [List.length_cons, List.length_nil]; omega))
          refine TL.op (yq (y_idx (k := k8_2) (ev_t rfl) (ev_t rfl) (by first | omega | simp) slT_43 (fun w hw => ((rii_tab 2 rfl) w hw).1) hb205)) rfl rfl rfl ?_
          refine TL.op (yq (y_ldT 2 (ev_t rfl) one_34 rfl hb205)) rfl rfl rfl ?_
          refine TL.op (yq (y_move (ev_t rfl))) rfl rfl rfl ?_
          refine TL.op (yq (y_move (ev_t rfl))) rfl rfl rfl ?_
          have hb206 : k7_1 < ((m0_2.set k7_1 ((m0_2.getD k7_1 []).set k8_2 q9_2.1)).getD k8_2 []).length := (by first | omega | (simp only [List.length_set, List.length_append, List.length_cons, List.length_nil, List.length_replicate]; omega) | (rw [sortI_length]; simp only [List.length_cons, List.length_nil]; omega))
          refine TL.op (yq (y_idx (k := k7_1) (ev_t rfl) (ev_t rfl) (by first | omega | simp) slT_34 (ri_tab 2 k8_2 rfl hb205) hb206)) rfl rfl rfl ?_
          refine TL.storeT 2 (ev_t rfl) (ev_t rfl) one_3 rfl hb205 hb206 ?_
          refine TL.nil ?_
          refine TN.blockN ?_
          refine TN.seq ?_
          refine TC.region ?_
          refine TL.op (yq (y_move (ev_t rfl))) rfl rfl rfl ?_
          refine TL.op (yq (y_add (ev_t rfl) ev_c (by unfold In64; omega))) rfl rfl rfl ?_
          refine TL.op (yq (y_assign (ev_t rfl))) rfl rfl rfl ?_
          refine TL.nil ?_
          exact TN.hand (mf2, (k8_2 + 1), (q10_3.2).1, (q10_3.2).2, ((m0_2.set k7_1 ((m0_2.getD k7_1 []).set k8_2 q9_2.1)).set k8_2 (((m0_2.set k7_1 ((m0_2.getD k7_1 []).set k8_2 q9_2.1)).getD k8_2 []).set k7_1 q9_2.1))) ⟨(by first | omega | (simp [-List.getD_eq_getElem?_getD] <;> omega)), (by first | omega | (simp [-List.getD_eq_getElem?_getD] <;> omega)), (by first | omega | (simp [-List.getD_eq_getElem?_getD] <;> omega)), ((hi2_3.set (by omega) (by omega)).set (by omega) (by omega)), (by first | omega | (simp [-List.getD_eq_getElem?_getD] <;> omega)), (by first | omega | (simp [-List.getD_eq_getElem?_getD] <;> omega)), (by omega), hL2⟩ (Nat.lt_succ_self _) ⟨rfl, rfl, rfl, rfl, rfl, rfl, rfl, trivial⟩ (fun w hw => Hp.sublist hw (.cons _ (.cons_cons _ (.cons_cons _ (.cons_cons _ (.cons_cons _ (List.Sublist.refl _)))))))
      · rw [bif_neg h193] at hL2
        have q194 := h193
        refine TL.opw (v := undef) (w_t rfl rfl rfl) (fun hg => by cases hg) rfl rfl ?_
        refine TL.opw (v := undef) (w_t rfl rfl rfl) (fun hg => by cases hg) rfl rfl ?_
        refine TL.op (yq (y_pickF (ev_t rfl) ev_c)) rfl rfl rfl ?_
        refine TL.nil ?_
        refine TN.seq ?_
        refine TC.cond (b := false) (ev_t rfl) (fun h207 => ?_) (fun h207 => ?_)
        · simp at h207
        · have hs3 := (hi2_3.set (x := k7_1) (y := k8_2) (v := q9_2.1) (by omega) (by omega))
          have hs4 := hs3.len
          have hs5 := hs3.rows k8_2 (by omega)
          refine TC.skip ?_
          refine TN.seq ?_
          refine TC.seq ?_
          refine TC.region ?_
          refine TL.op (yq (y_fa (fa_45_0 g2_2) (ev_t rfl))) rfl rfl rfl ?_
          refine TL.op (yq (y_ldb 1 (ev_t rfl) one_43 rfl rfl)) rfl rfl rfl ?_
          refine TL.op (yq (y_move (ev_t rfl))) rfl rfl rfl ?_
          have hb209 : k7_1 < m0_2.length := (by first | omega | (simp only [List.length_set, List.length_append, List.length_cons, List.length_nil, List.length_replicate]; omega) | (rw [sortI_length]; simp only [List.length_cons, List.length_nil]; omega))
          refine TL.op (yq (y_idx (k := k7_1) (ev_t rfl) (ev_t rfl) (by first | omega | simp) slT_43 (fun w hw => ((rii_tab 2 rfl) w hw).1) hb209)) rfl rfl rfl ?_
          refine TL.op (yq (y_ldT 2 (ev_t rfl) one_34 rfl hb209)) rfl rfl rfl ?_
          refine TL.op (yq (y_move (ev_t rfl))) rfl rfl rfl ?_
          refine TL.op (yq (y_move (ev_t rfl))) rfl rfl rfl ?_
          have hb210 : k8_2 < (m0_2.getD k7_1 []).length := (by first | omega | (simp only [List.length_set, List.length_append, List.length_cons, List.length_nil, List.length_replicate]; omega) | (rw [sortI_length]; simp only [List.length_cons, List.length_nil]; omega))
          refine TL.op (yq (y_idx (k := k8_2) (ev_t rfl) (ev_t rfl) (by first | omega | simp) slT_34 (ri_tab 2 k7_1 rfl hb209) hb210)) rfl rfl rfl ?_
          refine TL.storeT 2 (ev_t rfl) (ev_t rfl) one_3 rfl hb209 hb210 ?_
          refine TL.nil ?_
          refine TN.seq ?_
          refine TC.region ?_
          refine TL.op (yq (y_fa (fa_45_0 g2_2) (ev_t rfl))) rfl rfl rfl ?_
          refine TL.op (yq (y_ldb 1 (ev_t rfl) one_43 rfl rfl)) rfl rfl rfl ?_
          refine TL.op (yq (y_move (ev_t rfl))) rfl rfl rfl ?_
          have hb211 : k8_2 < (m0_2.set k7_1 ((m0_2.getD k7_1 []).set k8_2 q9_2.1)).length := (by first | omega | (simp only [List.length_set, List.length_append, List.length_cons, List.length_nil, List.length_replicate]; omega) | (rw [sortI_length]; simp only [List.length_cons, List.length_nil]; omega))
          refine TL.op (yq (y_idx (k := k8_2) (ev_t rfl) (ev_t rfl) (by first | omega | simp) slT_43 (fun w hw => ((rii_tab 2 rfl) w hw).1) hb211)) rfl rfl rfl ?_
          refine TL.op (yq (y_ldT 2 (ev_t rfl) one_34 rfl hb211)) rfl rfl rfl ?_
          refine TL.op (yq (y_move (ev_t rfl))) rfl rfl rfl ?_
          refine TL.op (yq (y_move (ev_t rfl))) rfl rfl rfl ?_
          have hb212 : k7_1 < ((m0_2.set k7_1 ((m0_2.getD k7_1 []).set k8_2 q9_2.1)).getD k8_2 []).length := (by first | omega | (simp only [List.length_set, List.length_append, List.length_cons, List.length_nil, List.length_replicate]; omega) | (rw [sortI_length]; simp only [List.length_cons, List.length_nil]; omega))
          refine TL.op (yq (y_idx (k := k7_1) (ev_t rfl) (ev_t rfl) (by first | omega | simp) slT_34 (ri_tab 2 k8_2 rfl hb211) hb212)) rfl rfl rfl ?_
          refine TL.storeT 2 (ev_t rfl) (ev_t rfl) one_3 rfl hb211 hb212 ?_
          refine TL.nil ?_
          refine TN.blockN ?_
          refine TN.seq ?_
          refine TC.region ?_
          refine TL.op (yq (y_move (ev_t rfl))) rfl rfl rfl ?_
          refine TL.op (yq (y_add (ev_t rfl) ev_c (by unfold In64; omega))) rfl rfl rfl ?_
          refine TL.op (yq (y_assign (ev_t rfl))) rfl rfl rfl ?_
          refine TL.nil ?_
          exact TN.hand (mf2, (k8_2 + 1), (q9_2.2).1, (q9_2.2).2, ((m0_2.set k7_1 ((m0_2.getD k7_1 []).set k8_2 q9_2.1)).set k8_2 (((m0_2.set k7_1 ((m0_2.getD k7_1 []).set k8_2 q9_2.1)).getD k8_2 []).set k7_1 q9_2.1))) ⟨(by first | omega | (simp [-List.getD_eq_getElem?_getD] <;> omega)), (by first | omega | (simp [-List.getD_eq_getElem?_getD] <;> omega)), (by first | omega | (simp [-List.getD_eq_getElem?_getD] <;> omega)), ((hi2_3.set (by omega) (by omega)).set (by omega) (by omega)), (by first | omega | (simp [-List.getD_eq_getElem?_getD] <;> omega)), (by first | omega | (simp [-List.getD_eq_getElem?_getD] <;> omega)), (by omega), hL2⟩ (Nat.lt_succ_self _) ⟨rfl, rfl, rfl, rfl, rfl, rfl, rfl, trivial⟩ (fun w hw => Hp.sublist hw (.cons _ (.cons_cons _ (.cons_cons _ (.cons_cons _ (.cons_cons _ (List.Sublist.refl _)))))))
    · rw [bif_neg h188] at hL2
      have q189 := (of_decide_eq_false h188)
      refine TC.exit ?_
      refine TN.thenE ?_
      refine TN.thenE ?_
      rw [← hL2, elim_next] at hL1
      try dsimp only at hL1
      refine TN.blockH ?_
      refine TN.blockN ?_
      refine TN.seq ?_
      refine TC.region ?_
      refine TL.op (yq (y_move (ev_t rfl))) rfl rfl rfl ?_
      refine TL.op (yq (y_add (ev_t rfl) ev_c (by unfold In64; omega))) rfl rfl rfl ?_
      refine TL.op (yq (y_assign (ev_t rfl))) rfl rfl rfl ?_
      refine TL.nil ?_
      exact TN.hand (mf1, (k7_1 + 1), zP_1_2, zP_2_2, m0_2) ⟨(by first | omega | (simp [-List.getD_eq_getElem?_getD] <;> omega)), (by first | omega | (simp [-List.getD_eq_getElem?_getD] <;> omega)), (by first | omega | (simp [-List.getD_eq_getElem?_getD] <;> omega)), hi2_3, (by first | omega | (simp [-List.getD_eq_getElem?_getD] <;> omega)), (by first | omega | (simp [-List.getD_eq_getElem?_getD] <;> omega)), (by omega), hL1⟩ (Nat.lt_succ_self _) ⟨rfl, rfl, rfl, rfl, rfl, rfl, trivial⟩ (fun w hw => hw)
  · rw [bif_neg h184] at hL1
    have q185 := (of_decide_eq_false h184)
    refine TC.exit ?_
    refine TN.thenE ?_
    refine TN.thenE ?_
    rw [← hL1, elim_next] at hF
    try dsimp only at hF
    refine TN.blockH ?_
    refine TN.seq ?_
    refine TC.seq ?_
    refine TC.region ?_
    refine TL.op (yq (y_move (ev_t rfl))) rfl rfl rfl ?_
    refine TL.op (yq (y_move (ev_t rfl))) rfl rfl rfl ?_
    refine TL.callmX (ι := Unit) (p := True) 3 (vs := [(.pointer (some ⟨gc, 0, none⟩)), (.int .i64 q1_2.1)]) (fun _ => (.int .i64 ((F_spec_l1Cur_pick code zP_1_1 zP_2_1 q1_2.1).1))) (fun _ => .blk gc 61 [vc, (.int .i64 (((F_spec_l1Cur_pick code zP_1_1 zP_2_1 q1_2.1).2).1)), (.int .u64 (((F_spec_l1Cur_pick code zP_1_1 zP_2_1 q1_2.1).2).2))]) (fun _ => []) en_43 ⟨(ev_t rfl), (ev_t rfl), trivial⟩ rfl rfl (fun w1 _ hw => spec_l1Cur_pick_ok w0 w1 _ gc vc code hcode zP_1_1 zP_2_1 hw q1_2.1 (by first | assumption | omega | grind) (by first | assumption | omega | grind) (by first | assumption | omega | grind) (by first | assumption | omega | grind)) (fun hpo213 _ => ?_)
    replace hpo213 := pick_post hcode.2 code zP_1_1 zP_2_1 q1_2.1 (by omega)
    obtain ⟨q14_2, hq214⟩ : ∃ q, (F_spec_l1Cur_pick code zP_1_1 zP_2_1 q1_2.1) = q := ⟨_, rfl⟩
    rw [hq214] at hF hpo213 ⊢
    try dsimp only at hF
    refine TL.op (yq (y_move (ev_t rfl))) rfl rfl rfl ?_
    refine TL.op (yq (y_move (ev_t rfl))) rfl rfl rfl ?_
    refine TL.callmX (ι := Unit) (p := True) 3 (vs := [(.pointer (some ⟨gc, 0, none⟩)), (.int .i64 q1_2.1)]) (fun _ => (.int .i64 ((F_spec_l1Cur_pick code ((q14_2.2).1) ((q14_2.2).2) q1_2.1).1))) (fun _ => .blk gc 61 [vc, (.int .i64 (((F_spec_l1Cur_pick code ((q14_2.2).1) ((q14_2.2).2) q1_2.1).2).1)), (.int .u64 (((F_spec_l1Cur_pick code ((q14_2.2).1) ((q14_2.2).2) q1_2.1).2).2))]) (fun _ => []) en_43 ⟨(ev_t rfl), (ev_t rfl), trivial⟩ rfl rfl (fun w1 _ hw => spec_l1Cur_pick_ok w0 w1 _ gc vc code hcode ((q14_2.2).1) ((q14_2.2).2) hw q1_2.1 (by first | assumption | omega | grind) (by first | assumption | omega | grind) (by first | assumption | omega | grind) (by first | assumption | omega | grind)) (fun hpo215 _ => ?_)
    replace hpo215 := pick_post hcode.2 code ((q14_2.2).1) ((q14_2.2).2) q1_2.1 (by omega)
    obtain ⟨q14_5, hq216⟩ : ∃ q, (F_spec_l1Cur_pick code ((q14_2.2).1) ((q14_2.2).2) q1_2.1) = q := ⟨_, rfl⟩
    rw [hq216] at hF hpo215 ⊢
    try dsimp only at hF
    refine TL.op (yq (y_assign (ev_t rfl))) rfl rfl rfl ?_
    refine TL.op (yq (y_assign (ev_t rfl))) rfl rfl rfl ?_
    refine TL.nil ?_
    refine TN.seq ?_
    refine TC.seq ?_
    refine TC.seq ?_
    refine TC.region ?_
    refine TL.op (yq (y_move (ev_t rfl))) rfl rfl rfl ?_
    refine TL.callmX (ι := Unit) (p := True) 3 (vs := [(.pointer (some ⟨gc, 0, none⟩)), (.int .i64 32)]) (fun _ => (.int .i64 ((F_spec_l1Cur_pick code ((q14_5.2).1) ((q14_5.2).2) 32).1))) (fun _ => .blk gc 61 [vc, (.int .i64 (((F_spec_l1Cur_pick code ((q14_5.2).1) ((q14_5.2).2) 32).2).1)), (.int .u64 (((F_spec_l1Cur_pick code ((q14_5.2).1) ((q14_5.2).2) 32).2).2))]) (fun _ => []) en_43 ⟨(ev_t rfl), ev_c, trivial⟩ rfl rfl (fun w1 _ hw => spec_l1Cur_pick_ok w0 w1 _ gc vc code hcode ((q14_5.2).1) ((q14_5.2).2) hw 32 (by first | assumption | omega | grind) (by first | assumption | omega | grind) (by first | assumption | omega | grind) (by first | assumption | omega | grind)) (fun hpo217 _ => ?_)
    replace hpo217 := pick_post hcode.2 code ((q14_5.2).1) ((q14_5.2).2) 32 (by omega)
    obtain ⟨q15_1, hq218⟩ : ∃ q, (F_spec_l1Cur_pick code ((q14_5.2).1) ((q14_5.2).2) 32) = q := ⟨_, rfl⟩
    rw [hq218] at hF hpo217 ⊢
    try dsimp only at hF
    refine TL.nil ?_
    refine TN.seq ?_
    refine TC.block ?_
    refine TC.seq ?_
    refine TC.region ?_
    refine TL.op (yq (y_eql (ev_t rfl) ev_c)) rfl rfl rfl ?_
    refine TL.op (yq (y_assign (ev_t rfl))) rfl rfl rfl ?_
    refine TL.nil ?_
    refine TN.seq ?_
    refine TC.cond (b := decide (q15_1.1 = 0)) (ev_t rfl) (fun h219 => ?_) (fun h219 => ?_)
    · rw [bif_pos h219] at hF
      have q220 := (of_decide_eq_true h219)
      have ht1 := hi1_3.len
      have ht2 := hi1_3.rows (q14_2.1).toNat (by omega)
      have hsb230 : ∀ wr, (fun wq => ∃ x0w : List (List Int), x0w.length = m0_1.length ∧ Hp w0 ([.blk g2_2 45 [r2_1.1], tabI 34 3 r2_1.1 r2_1.2 x0w, .blk g0_0 45 [(.slice none 0 0)]] ++ fr) wq) wr → Hp w0 ([.blk g2_2 45 [r2_1.1], .blk g0_0 45 [(.slice none 0 0)]] ++ fr) wr := fun wr ⟨_, _, hw⟩ => Hp.sublist hw (.cons_cons _ (.cons _ (.cons_cons _ (List.Sublist.refl _))))
      have hwk231 : ∀ wr, (fun wq => ∃ x0w : List (List Int), x0w.length = m0_1.length ∧ Hp w0 ([.blk g2_2 45 [r2_1.1], tabI 34 3 r2_1.1 r2_1.2 x0w, .blk g0_0 45 [(.slice none 0 0)]] ++ fr) wq) wr → Rd wr r2_1.1 1 m0_1.length r2_1.2 := fun wr ⟨_, hl0, hw⟩ => hl0 ▸ (rii_tab 1 rfl wr hw).1
      refine TC.regionH 11 (fun wq => ∃ x0w : List (List Int), x0w.length = m0_1.length ∧ Hp w0 ([.blk g2_2 45 [r2_1.1], tabI 34 3 r2_1.1 r2_1.2 x0w, .blk g0_0 45 [(.slice none 0 0)]] ++ fr) wq) rfl (by kernel_rfl) dr_hp (fun w hw => ⟨_, rfl, Hp.sublist hw (.cons_cons _ (.cons_cons _ (.cons_cons _ (.cons _ (List.Sublist.refl _)))))⟩) ?_
      refine TH.take 0 rfl (by kernel_rfl) (Ys.cls hsb230 (y_fa (fa_45_0 g2_2) (ev_t rfl))) rfl rfl rfl ?_
      refine TH.take 1 rfl (by kernel_rfl) (Ys.cls hsb230 (y_ldb 0 (ev_t rfl) one_43 rfl rfl)) rfl rfl rfl ?_
      refine TH.take 2 rfl (by kernel_rfl) (Ys.cls hsb230 (y_move (ev_t rfl))) rfl rfl rfl ?_
      have hb232 : (q14_2.1).toNat < m0_1.length := (by first | omega | (simp only [List.length_set, List.length_append, List.length_cons, List.length_nil, List.length_replicate]; omega) | (rw [sortI_length]; simp only [List.length_cons, List.length_nil]; omega))
      refine TH.take 3 rfl (by kernel_rfl) (y_idx (k := (q14_2.1).toNat) (ev_t rfl) (ev_t rfl) (by first | omega | simp) slT_43 hwk231 hb232) rfl rfl rfl ?_
      refine TH.take 4 rfl (by kernel_rfl) (y_ldn (ev_t rfl) one_34 hwk231 hb232) rfl rfl rfl ?_
      refine TH.take 5 rfl (by kernel_rfl) (Ys.cls hsb230 (y_move (ev_t rfl))) rfl rfl rfl ?_
      refine TH.take 6 rfl (by kernel_rfl) (Ys.cls hsb230 (y_move (ev_t rfl))) rfl rfl rfl ?_
      refine TH.loud 7 rfl (by kernel_rfl) ?_
      refine TL.buildI (zs := [.const (.int .i64 (-1)), .const (.int .i64 0), .const (.int .i64 99), .const (.int .i64 100), .const (.int .i64 4611686018427387904)]) (qs := [-1, 0, 99, 100, 4611686018427387904]) slT_34 rfl ⟨ev_c, ev_c, ev_c, ev_c, ev_c, trivial⟩ rfl (by decide) rfl (fun v17_7 => ?_)
      refine TL.nil ?_
      refine TH.back (fun w hw => ⟨_, rfl, Hp.sublist hw (.cons _ (.cons_cons _ (.cons_cons _ (.cons_cons _ (.cons _ (List.Sublist.refl _))))))⟩) ?_
      refine TH.loud 8 rfl (by kernel_rfl) ?_
      refine TL.callmX (ι := Unit) (p := ((q15_1.2).1 ≤ ((F_spec_l1Cur_among code ((q15_1.2).1) ((q15_1.2).2) ([-1, 0, 99, 100, 4611686018427387904])).2).1 ∧ ((F_spec_l1Cur_among code ((q15_1.2).1) ((q15_1.2).2) ([-1, 0, 99, 100, 4611686018427387904])).2).1 ≤ ((q15_1.2).1) + 2 ∧ 0 ≤ ((F_spec_l1Cur_among code ((q15_1.2).1) ((q15_1.2).2) ([-1, 0, 99, 100, 4611686018427387904])).2).2 ∧ ((F_spec_l1Cur_among code ((q15_1.2).1) ((q15_1.2).2) ([-1, 0, 99, 100, 4611686018427387904])).2).2 < 18446744073709551616)) 4 (vs := [(.pointer (some ⟨gc, 0, none⟩)), v17_7]) (fun _ => (.int .i64 ((F_spec_l1Cur_among code ((q15_1.2).1) ((q15_1.2).2) ([-1, 0, 99, 100, 4611686018427387904])).1))) (fun _ => .blk gc 61 [vc, (.int .i64 (((F_spec_l1Cur_among code ((q15_1.2).1) ((q15_1.2).2) ([-1, 0, 99, 100, 4611686018427387904])).2).1)), (.int .u64 (((F_spec_l1Cur_among code ((q15_1.2).1) ((q15_1.2).2) ([-1, 0, 99, 100, 4611686018427387904])).2).2))]) (fun _ => []) en_93 ⟨(ev_t rfl), (ev_t rfl), trivial⟩ rfl rfl (fun w1 _ hw => spec_l1Cur_among_ok w0 w1 _ gc vc code hcode ((q15_1.2).1) ((q15_1.2).2) hw v17_7 ([-1, 0, 99, 100, 4611686018427387904]) (fun w2 _ hw2 => (ri_row 1 rfl) w2 hw2) (by first | assumption | omega | decide | grind) (by first | assumption | omega | decide | grind) (by first | assumption | omega | decide | grind) (by first | assumption | omega | decide | grind) (by first | assumption | omega | decide | grind) (by first | assumption | omega | decide | grind)) (fun hpo233 _ => ?_)
      have hr235 := among_rng hcode.2 code ((q15_1.2).1) ((q15_1.2).2) ([-1, 0, 99, 100, 4611686018427387904]) (-1) (4611686018427387904) (by decide) (by decide) (by omega)
      obtain ⟨q17_8, hq234⟩ : ∃ q, (F_spec_l1Cur_among code ((q15_1.2).1) ((q15_1.2).2) ([-1, 0, 99, 100, 4611686018427387904])) = q := ⟨_, rfl⟩
      rw [hq234] at hF hpo233 hr235 ⊢
      try dsimp only at hF
      refine TL.nil ?_
      refine TH.back (fun w hw => ⟨_, rfl, Hp.sublist hw (.cons _ (.cons_cons _ (.cons_cons _ (.cons_cons _ (.cons _ (List.Sublist.refl _))))))⟩) ?_
      refine TH.loud 9 rfl (by kernel_rfl) ?_
      have hb236 : (q14_5.1).toNat < (m0_1.getD ((q14_2.1).toNat) []).length := (by first | omega | (simp only [List.length_set, List.length_append, List.length_cons, List.length_nil, List.length_replicate]; omega) | (rw [sortI_length]; simp only [List.length_cons, List.length_nil]; omega))
      refine TL.op (yq (y_idx (k := (q14_5.1).toNat) (ev_t rfl) (ev_t rfl) (by first | omega | simp) slT_34 (ri_tab 2 ((q14_2.1).toNat) rfl hb232) hb236)) rfl rfl rfl ?_
      refine TL.nil ?_
      refine TH.back (fun w hw => ⟨_, rfl, Hp.sublist hw (.cons _ (.cons_cons _ (.cons_cons _ (.cons_cons _ (.cons _ (List.Sublist.refl _))))))⟩) ?_
      refine TH.loud 10 rfl (by kernel_rfl) ?_
      refine TL.storeT 2 (ev_t rfl) (ev_t rfl) one_3 rfl hb232 hb236 ?_
      refine TL.nil ?_
      refine TH.back (fun w hw => ⟨_, (by simp only [List.length_set]), Hp.sublist hw (.cons _ (.cons_cons _ (.cons_cons _ (.cons_cons _ (.cons _ (List.Sublist.refl _))))))⟩) ?_
      refine TH.done (by kernel_rfl) ?_
      refine TN.blockN ?_
      refine TN.seq ?_
      refine TC.seq ?_
      refine TC.region ?_
      refine TL.op (yq (y_ldagg (cs := [r2_1.1]) 1 (ev_t rfl) agg_45 rfl)) rfl rfl rfl ?_
      refine TL.storeAgg (cs := [(.slice none 0 0)]) (us := [r2_1.1]) 3 (ev_t rfl) (ev_t rfl) agg_45 rfl rfl (fun w hw => (ocs_cons (ln_one ((fun w hw => ((rii_tab 2 rfl) w hw).1) w hw).ln) ocs_nil)) ?_
      refine TL.nil ?_
      refine TN.seq ?_
      refine TC.ret ?_
      subst hF
      exact TN.retC (cs := [r2_1.1]) 3 (by simp) rfl (ev_t rfl) agg_45 rfl (fun w' hw => ⟨(by dsimp only; first | omega | (simp only [List.length_set]; omega)), (r2_1.1, r2_1.2), rfl, Hp.picksF (ks := [rowI 3 v17_7 ([-1, 0, 99, 100, 4611686018427387904]), .blk g2_2 45 [r2_1.1], tabI 34 3 r2_1.1 r2_1.2 (m0_1.set ((q14_2.1).toNat) ((m0_1.getD ((q14_2.1).toNat) []).set ((q14_5.1).toNat) q17_8.1)), .blk g0_0 45 [r2_1.1], .blk gc 61 [vc, (.int .i64 ((q17_8.2).1)), (.int .u64 ((q17_8.2).2))]]) (fr := fr) [4, 2] (by decide) rfl hw⟩)
    · rw [bif_neg h219] at hF
      have q220 := (of_decide_eq_false h219)
      have ht1 := hi1_3.len
      refine TC.seq ?_
      refine TC.region ?_
      refine TL.op (yq (y_eql (ev_t rfl) ev_c)) rfl rfl rfl ?_
      refine TL.op (yq (y_assign (ev_t rfl))) rfl rfl rfl ?_
      refine TL.nil ?_
      refine TN.seq ?_
      refine TC.cond (b := decide (q15_1.1 = 1)) (ev_t rfl) (fun h237 => ?_) (fun h237 => ?_)
      · rw [bif_pos h237] at hF
        have q238 := (of_decide_eq_true h237)
        have ht1 := hi1_3.len
        have ht2 := hi1_3.rows (q14_2.1).toNat (by omega)
        refine TC.mid (fun a' w' => ∃ v19_9 : Value, Slots 106 [(4, (.pointer (some ⟨g0_0, 0, none⟩))), (6, (.pointer (some ⟨g2_2, 0, none⟩)))] a' ∧ Hp w0 ([.blk g2_2 45 [r2_1.1], tabI 34 3 r2_1.1 (r2_1.2.set ((q14_2.1).toNat) v19_9) (m0_1.set ((q14_2.1).toNat) ((m0_1.getD ((q14_2.1).toNat) []) ++ ([1]))), .blk g0_0 45 [(.slice none 0 0)], .blk gc 61 [vc, (.int .i64 ((q15_1.2).1)), (.int .u64 ((q15_1.2).2))]] ++ fr) w') ?_ ?_
        · refine TC.regionH 12 (Hp w0 ([.blk g2_2 45 [r2_1.1], .blk g0_0 45 [(.slice none 0 0)], .blk gc 61 [vc, (.int .i64 ((q15_1.2).1)), (.int .u64 ((q15_1.2).2))]] ++ fr)) rfl (by kernel_rfl) dr_hp (fun w hw => Hp.sublist hw (.cons_cons _ (.cons _ (.cons_cons _ (.cons_cons _ (List.Sublist.refl _)))))) ?_
          refine TH.take 0 rfl (by kernel_rfl) (y_fa (fa_45_0 g2_2) (ev_t rfl)) rfl rfl rfl ?_
          refine TH.take 1 rfl (by kernel_rfl) (y_ldb 0 (ev_t rfl) one_43 rfl rfl) rfl rfl rfl ?_
          refine TH.take 2 rfl (by kernel_rfl) (y_move (ev_t rfl)) rfl rfl rfl ?_
          refine TH.take 3 rfl (by kernel_rfl) (y_fa (fa_45_0 g2_2) (ev_t rfl)) rfl rfl rfl ?_
          refine TH.take 4 rfl (by kernel_rfl) (y_ldb 0 (ev_t rfl) one_43 rfl rfl) rfl rfl rfl ?_
          refine TH.take 5 rfl (by kernel_rfl) (y_move (ev_t rfl)) rfl rfl rfl ?_
          refine TH.loud2 6 8 rfl rfl (by kernel_rfl) ?_ ?_
          · have hb240 : (q14_2.1).toNat < m0_1.length := (by first | omega | (simp only [List.length_set, List.length_append, List.length_cons, List.length_nil, List.length_replicate]; omega) | (rw [sortI_length]; simp only [List.length_cons, List.length_nil]; omega))
            refine TL.op (yq (y_idx (k := (q14_2.1).toNat) (ev_t rfl) (ev_t rfl) (by first | omega | simp) slT_43 (fun w hw => ((rii_tab 1 rfl) w hw).1) hb240)) rfl rfl rfl ?_
            refine TL.nil ?_
            refine TH.back (fun w hw => Hp.sublist hw (.cons_cons _ (.cons _ (.cons_cons _ (.cons_cons _ (List.Sublist.refl _)))))) ?_
            refine TH.loud2 7 8 rfl rfl (by kernel_rfl) ?_ ?_
            · refine TL.op (yq (y_ldT 1 (ev_t rfl) one_34 rfl hb240)) rfl rfl rfl ?_
              refine TL.nil ?_
              refine TH.back (fun w hw => Hp.sublist hw (.cons_cons _ (.cons _ (.cons_cons _ (.cons_cons _ (List.Sublist.refl _)))))) ?_
              refine TH.loud 8 rfl (by kernel_rfl) ?_
              refine TL.buildI (zs := [.const (.int .i64 1)]) (qs := [1]) slT_34 rfl ⟨ev_c, trivial⟩ rfl (by decide) rfl (fun v19_8 => ?_)
              refine TL.nil ?_
              refine TH.back (fun w hw => Hp.sublist hw (.cons _ (.cons_cons _ (.cons _ (.cons_cons _ (.cons_cons _ (List.Sublist.refl _))))))) ?_
              refine TH.loud 9 rfl (by kernel_rfl) ?_
              refine TL.cls (fun w hw => Hp.focus 2 ((q14_2.1).toNat) hw rfl hb240) ?_
              refine TL.appendI 0 (ev_t rfl) (ev_t rfl) rfl slT_34 (ri_row 1 rfl) (by first | omega | (simp [-List.getD_eq_getElem?_getD] <;> omega)) rfl (fun v19_9 => ?_)
              refine TL.nil ?_
              refine TH.back (fun w hw => Hp.sublist hw (.cons _ (.cons _ (.cons_cons _ (.cons _ (.cons_cons _ (.cons_cons _ (List.Sublist.refl _)))))))) ?_
              refine TH.loud 10 rfl (by kernel_rfl) ?_
              have hb241 : (q14_2.1).toNat < m0_1.length := (by first | omega | (simp only [List.length_set, List.length_append, List.length_cons, List.length_nil, List.length_replicate]; omega) | (rw [sortI_length]; simp only [List.length_cons, List.length_nil]; omega))
              refine TL.op (yq (y_idx (k := (q14_2.1).toNat) (ev_t rfl) (ev_t rfl) (by first | omega | simp) slT_43 (rd_tabh 3 rfl) hb241)) rfl rfl rfl ?_
              refine TL.nil ?_
              refine TH.back (fun w hw => Hp.sublist hw (.cons _ (.cons _ (.cons_cons _ (.cons _ (.cons_cons _ (.cons_cons _ (List.Sublist.refl _)))))))) ?_
              refine TH.loud 11 rfl (by kernel_rfl) ?_
              refine TL.storeH 3 0 rfl (ev_t rfl) (ev_t rfl) one_34 rfl rfl hb241 ?_
              refine TL.nil ?_
              refine TH.back (fun w hw => Hp.sublist hw (.cons _ (.cons _ (.cons_cons _ (.cons _ (.cons_cons _ (.cons_cons _ (List.Sublist.refl _)))))))) ?_
              refine TH.done (by kernel_rfl) ?_
              exact fun a' w' hs hw => ⟨v19_9, hs.sub ⟨rfl, rfl, trivial⟩, Hp.sublist hw (.cons _ (.cons _ (.cons_cons _ (.cons_cons _ (.cons_cons _ (.cons_cons _ (List.Sublist.refl _)))))))⟩
            · refine TL.buildI (zs := [.const (.int .i64 1)]) (qs := [1]) slT_34 rfl ⟨ev_c, trivial⟩ rfl (by decide) rfl (fun v19_8 => ?_)
              refine TL.nil ?_
              refine TH.back (fun w hw => Hp.sublist hw (.cons _ (.cons_cons _ (.cons _ (.cons_cons _ (.cons_cons _ (List.Sublist.refl _))))))) ?_
              refine TH.loud 7 rfl (by kernel_rfl) ?_
              refine TL.op (yq (y_ldT 2 (ev_t rfl) one_34 rfl hb240)) rfl rfl rfl ?_
              refine TL.nil ?_
              refine TH.back (fun w hw => Hp.sublist hw (.cons _ (.cons_cons _ (.cons _ (.cons_cons _ (.cons_cons _ (List.Sublist.refl _))))))) ?_
              refine TH.loud 9 rfl (by kernel_rfl) ?_
              refine TL.cls (fun w hw => Hp.focus 2 ((q14_2.1).toNat) hw rfl hb240) ?_
              refine TL.appendI 0 (ev_t rfl) (ev_t rfl) rfl slT_34 (ri_row 1 rfl) (by first | omega | (simp [-List.getD_eq_getElem?_getD] <;> omega)) rfl (fun v19_9 => ?_)
              refine TL.nil ?_
              refine TH.back (fun w hw => Hp.sublist hw (.cons _ (.cons _ (.cons_cons _ (.cons _ (.cons_cons _ (.cons_cons _ (List.Sublist.refl _)))))))) ?_
              refine TH.loud 10 rfl (by kernel_rfl) ?_
              have hb242 : (q14_2.1).toNat < m0_1.length := (by first | omega | (simp only [List.length_set, List.length_append, List.length_cons, List.length_nil, List.length_replicate]; omega) | (rw [sortI_length]; simp only [List.length_cons, List.length_nil]; omega))
              refine TL.op (yq (y_idx (k := (q14_2.1).toNat) (ev_t rfl) (ev_t rfl) (by first | omega | simp) slT_43 (rd_tabh 3 rfl) hb242)) rfl rfl rfl ?_
              refine TL.nil ?_
              refine TH.back (fun w hw => Hp.sublist hw (.cons _ (.cons _ (.cons_cons _ (.cons _ (.cons_cons _ (.cons_cons _ (List.Sublist.refl _)))))))) ?_
              refine TH.loud 11 rfl (by kernel_rfl) ?_
              refine TL.storeH 3 0 rfl (ev_t rfl) (ev_t rfl) one_34 rfl rfl hb242 ?_
              refine TL.nil ?_
              refine TH.back (fun w hw => Hp.sublist hw (.cons _ (.cons _ (.cons_cons _ (.cons _ (.cons_cons _ (.cons_cons _ (List.Sublist.refl _)))))))) ?_
              refine TH.done (by kernel_rfl) ?_
              exact fun a' w' hs hw => ⟨v19_9, hs.sub ⟨rfl, rfl, trivial⟩, Hp.sublist hw (.cons _ (.cons _ (.cons_cons _ (.cons_cons _ (.cons_cons _ (.cons_cons _ (List.Sublist.refl _)))))))⟩
          · refine TL.buildI (zs := [.const (.int .i64 1)]) (qs := [1]) slT_34 rfl ⟨ev_c, trivial⟩ rfl (by decide) rfl (fun v19_8 => ?_)
            refine TL.nil ?_
            refine TH.back (fun w hw => Hp.sublist hw (.cons _ (.cons_cons _ (.cons _ (.cons_cons _ (.cons_cons _ (List.Sublist.refl _))))))) ?_
            refine TH.loud 6 rfl (by kernel_rfl) ?_
            have hb243 : (q14_2.1).toNat < m0_1.length := (by first | omega | (simp only [List.length_set, List.length_append, List.length_cons, List.length_nil, List.length_replicate]; omega) | (rw [sortI_length]; simp only [List.length_cons, List.length_nil]; omega))
            refine TL.op (yq (y_idx (k := (q14_2.1).toNat) (ev_t rfl) (ev_t rfl) (by first | omega | simp) slT_43 (fun w hw => ((rii_tab 2 rfl) w hw).1) hb243)) rfl rfl rfl ?_
            refine TL.nil ?_
            refine TH.back (fun w hw => Hp.sublist hw (.cons _ (.cons_cons _ (.cons _ (.cons_cons _ (.cons_cons _ (List.Sublist.refl _))))))) ?_
            refine TH.loud 7 rfl (by kernel_rfl) ?_
            refine TL.op (yq (y_ldT 2 (ev_t rfl) one_34 rfl hb243)) rfl rfl rfl ?_
            refine TL.nil ?_
            refine TH.back (fun w hw => Hp.sublist hw (.cons _ (.cons_cons _ (.cons _ (.cons_cons _ (.cons_cons _ (List.Sublist.refl _))))))) ?_
            refine TH.loud 9 rfl (by kernel_rfl) ?_
            refine TL.cls (fun w hw => Hp.focus 2 ((q14_2.1).toNat) hw rfl hb243) ?_
            refine TL.appendI 0 (ev_t rfl) (ev_t rfl) rfl slT_34 (ri_row 1 rfl) (by first | omega | (simp [-List.getD_eq_getElem?_getD] <;> omega)) rfl (fun v19_9 => ?_)
            refine TL.nil ?_
            refine TH.back (fun w hw => Hp.sublist hw (.cons _ (.cons _ (.cons_cons _ (.cons _ (.cons_cons _ (.cons_cons _ (List.Sublist.refl _)))))))) ?_
            refine TH.loud 10 rfl (by kernel_rfl) ?_
            have hb244 : (q14_2.1).toNat < m0_1.length := (by first | omega | (simp only [List.length_set, List.length_append, List.length_cons, List.length_nil, List.length_replicate]; omega) | (rw [sortI_length]; simp only [List.length_cons, List.length_nil]; omega))
            refine TL.op (yq (y_idx (k := (q14_2.1).toNat) (ev_t rfl) (ev_t rfl) (by first | omega | simp) slT_43 (rd_tabh 3 rfl) hb244)) rfl rfl rfl ?_
            refine TL.nil ?_
            refine TH.back (fun w hw => Hp.sublist hw (.cons _ (.cons _ (.cons_cons _ (.cons _ (.cons_cons _ (.cons_cons _ (List.Sublist.refl _)))))))) ?_
            refine TH.loud 11 rfl (by kernel_rfl) ?_
            refine TL.storeH 3 0 rfl (ev_t rfl) (ev_t rfl) one_34 rfl rfl hb244 ?_
            refine TL.nil ?_
            refine TH.back (fun w hw => Hp.sublist hw (.cons _ (.cons _ (.cons_cons _ (.cons _ (.cons_cons _ (.cons_cons _ (List.Sublist.refl _)))))))) ?_
            refine TH.done (by kernel_rfl) ?_
            exact fun a' w' hs hw => ⟨v19_9, hs.sub ⟨rfl, rfl, trivial⟩, Hp.sublist hw (.cons _ (.cons _ (.cons_cons _ (.cons_cons _ (.cons_cons _ (.cons_cons _ (List.Sublist.refl _)))))))⟩
        · rintro a' w' ⟨v19_9, hs', hw'⟩
          refine (?_ : TN _ .normal 106 (Hp w0 ([.blk g2_2 45 [r2_1.1], tabI 34 3 r2_1.1 (r2_1.2.set ((q14_2.1).toNat) v19_9) (m0_1.set ((q14_2.1).toNat) ((m0_1.getD ((q14_2.1).toNat) []) ++ ([1]))), .blk g0_0 45 [(.slice none 0 0)], .blk gc 61 [vc, (.int .i64 ((q15_1.2).1)), (.int .u64 ((q15_1.2).2))]] ++ fr)) [(4, (.pointer (some ⟨g0_0, 0, none⟩))), (6, (.pointer (some ⟨g2_2, 0, none⟩)))]) a' w' hs' hw'
          clear hs' hw'
          refine TN.blockN ?_
          refine TN.seq ?_
          refine TC.seq ?_
          refine TC.region ?_
          refine TL.op (yq (y_ldagg (cs := [r2_1.1]) 0 (ev_t rfl) agg_45 rfl)) rfl rfl rfl ?_
          refine TL.storeAgg (cs := [(.slice none 0 0)]) (us := [r2_1.1]) 2 (ev_t rfl) (ev_t rfl) agg_45 rfl rfl (fun w hw => (ocs_cons (ln_one ((fun w hw => ((rii_tab 1 rfl) w hw).1) w hw).ln) ocs_nil)) ?_
          refine TL.nil ?_
          refine TN.seq ?_
          refine TC.ret ?_
          subst hF
          exact TN.retC (cs := [r2_1.1]) 2 (by simp) rfl (ev_t rfl) agg_45 rfl (fun w' hw => ⟨(by dsimp only; first | omega | (simp only [List.length_set]; omega)), (r2_1.1, (r2_1.2.set ((q14_2.1).toNat) v19_9)), rfl, Hp.picksF (ks := [.blk g2_2 45 [r2_1.1], tabI 34 3 r2_1.1 (r2_1.2.set ((q14_2.1).toNat) v19_9) (m0_1.set ((q14_2.1).toNat) ((m0_1.getD ((q14_2.1).toNat) []) ++ ([1]))), .blk g0_0 45 [r2_1.1], .blk gc 61 [vc, (.int .i64 ((q15_1.2).1)), (.int .u64 ((q15_1.2).2))]]) (fr := fr) [3, 1] (by decide) rfl hw⟩)
      · rw [bif_neg h237] at hF
        have q238 := (of_decide_eq_false h237)
        refine TC.seq ?_
        refine TC.region ?_
        refine TL.op (yq (y_eql (ev_t rfl) ev_c)) rfl rfl rfl ?_
        refine TL.op (yq (y_assign (ev_t rfl))) rfl rfl rfl ?_
        refine TL.nil ?_
        refine TN.seq ?_
        refine TC.cond (b := decide (q15_1.1 = 2)) (ev_t rfl) (fun h245 => ?_) (fun h245 => ?_)
        · rw [bif_pos h245] at hF
          have q246 := (of_decide_eq_true h245)
          refine TC.region ?_
          refine TL.op (yq (y_move (ev_t rfl))) rfl rfl rfl ?_
          refine TL.callmX (ι := Value × List Value) (p := ((q15_1.2).1 ≤ ((F_spec_l1Cur_table7 code ((q15_1.2).1) ((q15_1.2).2)).2).1 ∧ ((F_spec_l1Cur_table7 code ((q15_1.2).1) ((q15_1.2).2)).2).1 ≤ ((q15_1.2).1) + 2 ∧ 0 ≤ ((F_spec_l1Cur_table7 code ((q15_1.2).1) ((q15_1.2).2)).2).2 ∧ ((F_spec_l1Cur_table7 code ((q15_1.2).1) ((q15_1.2).2)).2).2 < 18446744073709551616 ∧ ((F_spec_l1Cur_table7 code ((q15_1.2).1) ((q15_1.2).2))).1.length ≤ 7)) 3 (vs := [(.pointer (some ⟨gc, 0, none⟩))]) (fun i => i.1) (fun _ => .blk gc 61 [vc, (.int .i64 (((F_spec_l1Cur_table7 code ((q15_1.2).1) ((q15_1.2).2)).2).1)), (.int .u64 (((F_spec_l1Cur_table7 code ((q15_1.2).1) ((q15_1.2).2)).2).2))]) (fun i => [tabI 34 3 i.1 i.2 ((F_spec_l1Cur_table7 code ((q15_1.2).1) ((q15_1.2).2)).1)]) en_95 ⟨(ev_t rfl), trivial⟩ rfl rfl (fun w1 _ hw => spec_l1Cur_table7_ok w0 w1 _ gc vc code hcode ((q15_1.2).1) ((q15_1.2).2) hw (by first | assumption | omega | grind) (by first | assumption | omega | grind) (by first | assumption | omega | grind) (by first | assumption | omega | grind)) (fun hpo247 r21_1 => ?_)
          obtain ⟨q21_1, hq248⟩ : ∃ q, (F_spec_l1Cur_table7 code ((q15_1.2).1) ((q15_1.2).2)) = q := ⟨_, rfl⟩
          rw [hq248] at hF hpo247 ⊢
          try dsimp only at hF
          refine TL.op (yq (y_fa (fa_45_0 g2_2) (ev_t rfl))) rfl rfl rfl ?_
          refine TL.storeB 1 (ev_t rfl) (ev_t rfl) one_43 rfl (by first | decide | simp) (fun w hw => (ln_one ((fun w hw => ((rii_tab 0 rfl) w hw).1) w hw).ln)) ?_
          refine TL.nil ?_
          refine TN.blockN ?_
          refine TN.seq ?_
          refine TC.seq ?_
          refine TC.region ?_
          refine TL.op (yq (y_ldagg (cs := [r21_1.1]) 1 (ev_t rfl) agg_45 rfl)) rfl rfl rfl ?_
          refine TL.storeAgg (cs := [(.slice none 0 0)]) (us := [r21_1.1]) 3 (ev_t rfl) (ev_t rfl) agg_45 rfl rfl (fun w hw => (ocs_cons (ln_one ((fun w hw => ((rii_tab 0 rfl) w hw).1) w hw).ln) ocs_nil)) ?_
          refine TL.nil ?_
          refine TN.seq ?_
          refine TC.ret ?_
          subst hF
          exact TN.retC (cs := [r21_1.1]) 3 (by simp) rfl (ev_t rfl) agg_45 rfl (fun w' hw => ⟨(by dsimp only; first | omega | (simp only [List.length_set]; omega)), (r21_1.1, r21_1.2), rfl, Hp.picksF (ks := [tabI 34 3 r21_1.1 r21_1.2 q21_1.1, .blk g2_2 45 [r21_1.1], tabI 34 3 r2_1.1 r2_1.2 m0_1, .blk g0_0 45 [r21_1.1], .blk gc 61 [vc, (.int .i64 ((q21_1.2).1)), (.int .u64 ((q21_1.2).2))]]) (fr := fr) [4, 0] (by decide) rfl hw⟩)
        · rw [bif_neg h245] at hF
          have q246 := (of_decide_eq_false h245)
          refine TC.seq ?_
          refine TC.region ?_
          refine TL.op (yq (y_eql (ev_t rfl) ev_c)) rfl rfl rfl ?_
          refine TL.op (yq (y_assign (ev_t rfl))) rfl rfl rfl ?_
          refine TL.nil ?_
          refine TN.seq ?_
          refine TC.cond (b := decide (q15_1.1 = 3)) (ev_t rfl) (fun h249 => ?_) (fun h249 => ?_)
          · rw [bif_pos h249] at hF
            have q250 := (of_decide_eq_true h249)
            have ht1 := hi1_3.len
            have ht2 := hi1_3.rows (q14_2.1).toNat (by omega)
            have ht3 := (hi1_3.set (x := (q14_2.1).toNat) (y := (q14_5.1).toNat) (v := 99) (by omega) (by omega))
            have ht4 := ht3.len
            have ht5 := ht3.rows (q14_5.1).toNat (by omega)
            refine TC.seq ?_
            refine TC.region ?_
            refine TL.op (yq (y_fa (fa_45_0 g2_2) (ev_t rfl))) rfl rfl rfl ?_
            refine TL.op (yq (y_ldb 0 (ev_t rfl) one_43 rfl rfl)) rfl rfl rfl ?_
            refine TL.op (yq (y_move (ev_t rfl))) rfl rfl rfl ?_
            have hb251 : (q14_2.1).toNat < m0_1.length := (by first | omega | (simp only [List.length_set, List.length_append, List.length_cons, List.length_nil, List.length_replicate]; omega) | (rw [sortI_length]; simp only [List.length_cons, List.length_nil]; omega))
            refine TL.op (yq (y_idx (k := (q14_2.1).toNat) (ev_t rfl) (ev_t rfl) (by first | omega | simp) slT_43 (fun w hw => ((rii_tab 1 rfl) w hw).1) hb251)) rfl rfl rfl ?_
            refine TL.op (yq (y_ldT 1 (ev_t rfl) one_34 rfl hb251)) rfl rfl rfl ?_
            refine TL.op (yq (y_move (ev_t rfl))) rfl rfl rfl ?_
            have hb252 : (q14_5.1).toNat < (m0_1.getD ((q14_2.1).toNat) []).length := (by first | omega | (simp only [List.length_set, List.length_append, List.length_cons, List.length_nil, List.length_replicate]; omega) | (rw [sortI_length]; simp only [List.length_cons, List.length_nil]; omega))
            refine TL.op (yq (y_idx (k := (q14_5.1).toNat) (ev_t rfl) (ev_t rfl) (by first | omega | simp) slT_34 (ri_tab 1 ((q14_2.1).toNat) rfl hb251) hb252)) rfl rfl rfl ?_
            refine TL.storeT 1 (ev_t rfl) ev_c one_3 rfl hb251 hb252 ?_
            refine TL.nil ?_
            refine TN.seq ?_
            refine TC.region ?_
            refine TL.op (yq (y_fa (fa_45_0 g2_2) (ev_t rfl))) rfl rfl rfl ?_
            refine TL.op (yq (y_ldb 0 (ev_t rfl) one_43 rfl rfl)) rfl rfl rfl ?_
            refine TL.op (yq (y_move (ev_t rfl))) rfl rfl rfl ?_
            have hb253 : (q14_5.1).toNat < (m0_1.set ((q14_2.1).toNat) ((m0_1.getD ((q14_2.1).toNat) []).set ((q14_5.1).toNat) 99)).length := (by first | omega | (simp only [List.length_set, List.length_append, List.length_cons, List.length_nil, List.length_replicate]; omega) | (rw [sortI_length]; simp only [List.length_cons, List.length_nil]; omega))
            refine TL.op (yq (y_idx (k := (q14_5.1).toNat) (ev_t rfl) (ev_t rfl) (by first | omega | simp) slT_43 (fun w hw => ((rii_tab 1 rfl) w hw).1) hb253)) rfl rfl rfl ?_
            refine TL.op (yq (y_ldT 1 (ev_t rfl) one_34 rfl hb253)) rfl rfl rfl ?_
            refine TL.op (yq (y_move (ev_t rfl))) rfl rfl rfl ?_
            have hb254 : (q14_2.1).toNat < ((m0_1.set ((q14_2.1).toNat) ((m0_1.getD ((q14_2.1).toNat) []).set ((q14_5.1).toNat) 99)).getD ((q14_5.1).toNat) []).length := (by first | omega | (simp only [List.length_set, List.length_append, List.length_cons, List.length_nil, List.length_replicate]; omega) | (rw [sortI_length]; simp only [List.length_cons, List.length_nil]; omega))
            refine TL.op (yq (y_idx (k := (q14_2.1).toNat) (ev_t rfl) (ev_t rfl) (by first | omega | simp) slT_34 (ri_tab 1 ((q14_5.1).toNat) rfl hb253) hb254)) rfl rfl rfl ?_
            refine TL.storeT 1 (ev_t rfl) ev_c one_3 rfl hb253 hb254 ?_
            refine TL.nil ?_
            refine TN.blockN ?_
            refine TN.seq ?_
            refine TC.seq ?_
            refine TC.region ?_
            refine TL.op (yq (y_ldagg (cs := [r2_1.1]) 0 (ev_t rfl) agg_45 rfl)) rfl rfl rfl ?_
            refine TL.storeAgg (cs := [(.slice none 0 0)]) (us := [r2_1.1]) 2 (ev_t rfl) (ev_t rfl) agg_45 rfl rfl (fun w hw => (ocs_cons (ln_one ((fun w hw => ((rii_tab 1 rfl) w hw).1) w hw).ln) ocs_nil)) ?_
            refine TL.nil ?_
            refine TN.seq ?_
            refine TC.ret ?_
            subst hF
            exact TN.retC (cs := [r2_1.1]) 2 (by simp) rfl (ev_t rfl) agg_45 rfl (fun w' hw => ⟨(by dsimp only; first | omega | (simp only [List.length_set]; omega)), (r2_1.1, r2_1.2), rfl, Hp.picksF (ks := [.blk g2_2 45 [r2_1.1], tabI 34 3 r2_1.1 r2_1.2 ((m0_1.set ((q14_2.1).toNat) ((m0_1.getD ((q14_2.1).toNat) []).set ((q14_5.1).toNat) 99)).set ((q14_5.1).toNat) (((m0_1.set ((q14_2.1).toNat) ((m0_1.getD ((q14_2.1).toNat) []).set ((q14_5.1).toNat) 99)).getD ((q14_5.1).toNat) []).set ((q14_2.1).toNat) 99)), .blk g0_0 45 [r2_1.1], .blk gc 61 [vc, (.int .i64 ((q15_1.2).1)), (.int .u64 ((q15_1.2).2))]]) (fr := fr) [3, 1] (by decide) rfl hw⟩)
          · rw [bif_neg h249] at hF
            have q250 := (of_decide_eq_false h249)
            refine TC.skip ?_
            refine TN.blockN ?_
            refine TN.seq ?_
            refine TC.seq ?_
            refine TC.region ?_
            refine TL.op (yq (y_ldagg (cs := [r2_1.1]) 0 (ev_t rfl) agg_45 rfl)) rfl rfl rfl ?_
            refine TL.storeAgg (cs := [(.slice none 0 0)]) (us := [r2_1.1]) 2 (ev_t rfl) (ev_t rfl) agg_45 rfl rfl (fun w hw => (ocs_cons (ln_one ((fun w hw => ((rii_tab 1 rfl) w hw).1) w hw).ln) ocs_nil)) ?_
            refine TL.nil ?_
            refine TN.seq ?_
            refine TC.ret ?_
            subst hF
            exact TN.retC (cs := [r2_1.1]) 2 (by simp) rfl (ev_t rfl) agg_45 rfl (fun w' hw => ⟨(by dsimp only; first | omega | (simp only [List.length_set]; omega)), (r2_1.1, r2_1.2), rfl, Hp.picksF (ks := [.blk g2_2 45 [r2_1.1], tabI 34 3 r2_1.1 r2_1.2 m0_1, .blk g0_0 45 [r2_1.1], .blk gc 61 [vc, (.int .i64 ((q15_1.2).1)), (.int .u64 ((q15_1.2).2))]]) (fr := fr) [3, 1] (by decide) rfl hw⟩)

end Go.Proofs.Ytfhhfhiooehlcaa
