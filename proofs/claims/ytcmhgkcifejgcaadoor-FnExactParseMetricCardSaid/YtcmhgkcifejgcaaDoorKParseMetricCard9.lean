/-
  Part of a proof: rules of the walk, plain functions and their laws, walks. No condition.
-/
import Derived.Test.YtcmhgkcifejgcaaDoorKParseMetricCard8
import Derived.Lib.SmallJoins
import Derived.Lib.SplitLaws
namespace Go.Proofs.YtcmhgkcifejgcaaDoor
set_option linter.unusedVariables false
set_option linter.unusedSimpArgs false
open Go Go.RowKit
set_option linter.unusedVariables false
set_option linter.unusedSimpArgs false
/-- What the walks ask of the package's variables. -/
structure Vars (w : World) : Prop where
  ml : ∃ m, w.cell? ⟨0, 0, none⟩ = some (.int .i64 m)
  es : ∃ ev, w.cell? ⟨3, 0, none⟩ = some ev ∧ (ev = .nilIface ∨ ∃ te pe, ev = .iface te pe)
  er : ∃ ev, w.cell? ⟨4, 0, none⟩ = some ev ∧ (ev = .nilIface ∨ ∃ te pe, ev = .iface te pe)
  tab : Lib.TabIs Tryd.prog w "internal/strconv.uint64pow10" .u64 Lib.pow10Tab
theorem cell_stays {w w' : World} {ad : Addr} {u : Value} (h : w.cell? ad = some u) (hb : Below w.heap.size w w') : w'.cell? ad = some u := by
  rw [← h]
  exact World.cell?_of_block (hb.block _ (World.block_lt_of_cell? _ _ h))
theorem Vars.below {w w' : World} (h : Vars w) (hb : Below w.heap.size w w') : Vars w' := by
  obtain ⟨m, hm⟩ := h.ml
  obtain ⟨e1, h1, h1'⟩ := h.es
  obtain ⟨e2, h2, h2'⟩ := h.er
  exact ⟨⟨m, cell_stays hm hb⟩, ⟨e1, cell_stays h1 hb, h1'⟩, ⟨e2, cell_stays h2 hb, h2'⟩, Go.Joins.tab_stays (g := 5) (by kernel_rfl) h.tab hb (Nat.le_refl _)⟩
/-- A number in decimal. -/
def itoaA (n : Int) : ByteArray := ⟨(Lib.itoa n).toArray⟩
theorem below_growN (w : World) (k : Nat) (os : Array Obj) : Below w.heap.size w (Sort.grow (w.drewN k) os) := by
  have h1 : Below w.heap.size w (w.drewN k) := Go.Joins.below_draws _ _ _
  refine ⟨h1.os, h1.tape, h1.output, ?_, fun j hj => ?_⟩
  · show w.heap.size ≤ (w.heap ++ os).size
    rw [Array.size_append]; omega
  · show (w.heap ++ os)[j]? = w.heap[j]?
    rw [Array.getElem?_append_left hj]
theorem strconv_ItoaA_ok (w : World) (hv : Vars w) (i : Int) (hp0 : -9223372036854775808 ≤ i) (hp1 : i ≤ 9223372036854775807) :
    Calls Tryd.prog 55 ([(.int .i64 i)] : List Value).toArray w (Ret (.string (itoaA i)) (Hp w [])) := by
  refine (Any.strconv_Itoa laysM171 i hp0 hp1 w hv.tab).mono ?_
  rintro e w' ⟨rfl, k, os, rfl⟩
  exact ⟨rfl, below_growN w k os, by simp, .nil⟩
set_option maxRecDepth 20000 in
theorem impl_decA_ok (w : World) (hvars : Vars w) (n : Int) (hp0 : -9223372036854775808 ≤ n) (hp1 : n ≤ 9223372036854775807) :
    Calls Tryd.prog 46 ([(.int .i64 n)] : List Value).toArray w (Ret (.string (itoaA n)) (Hp w [])) := by
  refine calls_tc Tryd.func46 rfl rfl rfl ?_
  change TC _ _ _ _ (Hp w []) [(0, (.int .i64 n))]
  refine TC.seq ?_
  refine TC.region ?_
  refine TL.op (yq (y_assign ev_c)) rfl rfl rfl ?_
  refine TL.nil ?_
  refine TN.seq ?_
  refine TC.seq ?_
  refine TC.region ?_
  refine TL.op (yq (y_move (ev_t rfl))) rfl rfl rfl ?_
  refine TL.op (y_call (vs := [(.int .i64 n)]) (v := (.string (itoaA n))) en_55 ⟨(ev_t rfl), trivial⟩ (fun w hw => strconv_ItoaA_ok w (hvars.below hw.1) n (by exact hp0) (by exact hp1))) rfl rfl rfl ?_
  refine TL.op (yq (y_assign (ev_t rfl))) rfl rfl rfl ?_
  refine TL.nil ?_
  refine TN.seq ?_
  refine TC.ret ?_
  exact TN.ret1 rfl (ev_t rfl) (fun w' hw => ⟨rfl, hw⟩)
section
variable {P : Program} {N : Nat} {C : World → Prop} {l : Sl} {x y : Operand} {dd : Option Tmp} {ty : TypeId} {ps : String} {af : Array Edge} {g : Option (Nat × Bool)} {t t' te : TypeId} {pe : Value} {ms : Array (String × TypeId)}
theorem y_inn0 (ht : P.underlying t = some (.interface ms)) (hx : Ev l x .nilIface) : Ys P C N l ⟨dd, .binOp .neq t x (.const .nilIface) t', ty, ps, af, g⟩ (.bool false) := yl_of fun a w hs _ => by
  have hy : a.eval (.const .nilIface) = .nilIface := rfl
  simp only [execOp, hx N a hs, hy]; simp [go_sem, ht, eqGuard]
theorem y_inn1 (ht : P.underlying t = some (.interface ms)) (hx : Ev l x (.iface te pe)) (hy : Ev l y .nilIface) : Ys P C N l ⟨dd, .binOp .neq t x y t', ty, ps, af, g⟩ (.bool true) := yl_of fun a w hs _ => by
  simp only [execOp, hx N a hs, hy N a hs]; simp [go_sem, ht, eqGuard]
theorem y_sub8 {m n : Int} (hx : Ev l x (.int .u8 m)) (hy : Ev l y (.int .u8 n)) (h : 0 ≤ m - n ∧ m - n ≤ 255) : Ys P C N l ⟨dd, .binOp .sub t x y t', ty, ps, af, g⟩ (.int .u8 (m - n)) := yl_of fun a w hs _ => by
  have hw : IntKind.wrap .u8 (m - n) = m - n := by simp [IntKind.wrap, IntKind.bits, IntKind.signed, go_sem]; omega
  simp only [execOp, hx N a hs, hy N a hs]; simp [go_sem, Op.intArith, hw]
end
/-- What a word in decimal reads as. -/
def readDecF (s : ByteArray) : Int × Bool := match Lib.atoiAll s.data.toList with
  | .ok v => cond (!((itoaA v).toList == s.toList)) (0, false) (v, true)
  | _ => (0, false)
theorem atoi_rng {l : List UInt8} {v : Int} (h : Lib.atoiAll l = .ok v) : -9223372036854775808 ≤ v ∧ v ≤ 9223372036854775807 := by
  unfold Lib.atoiAll at h
  split at h
  · cases h
  · simp only at h
    split at h
    · cases h
    · cases h
    · split at h
      · cases h
      · split at h
        · cases h
        · injection h with h
          subst h
          split <;> omega
set_option maxRecDepth 20000 in
theorem readDec_err (w : World) (s : ByteArray) (x : Int) (te : TypeId) (hc : ∀ w', Hp w [] w' → Calls Tryd.prog 53 ([(.string s)] : List Value).toArray w' (fun e w2 => ∃ i : Nat, e = .returned (.tuple #[.int .i64 x, .iface te (.pointer (some ⟨i, 0, none⟩))]) ∧ Hp w' [] w2)) :
    Calls Tryd.prog 40 ([(.string s)] : List Value).toArray w (Ret (.tuple #[.int .i64 0, .bool false]) (Hp w [])) := by
  refine calls_tc Tryd.func40 rfl rfl rfl ?_
  change TC _ _ _ _ (Hp w []) [(0, (.string s))]
  refine TC.seq ?_
  refine TC.region ?_
  refine TL.op (yq (y_assign ev_c)) rfl rfl rfl ?_
  refine TL.op (yq (y_assign ev_c)) rfl rfl rfl ?_
  refine TL.nil ?_
  refine TN.seq ?_
  refine TC.seq ?_
  refine TC.region ?_
  refine TL.op (yq (y_move (ev_t rfl))) rfl rfl rfl ?_
  refine TL.callr (ι := Nat) (fun i => .tuple #[.int .i64 x, .iface te (.pointer (some ⟨i, 0, none⟩))]) (fun _ => []) en_53 (vs := [.string s]) ⟨(ev_t rfl), trivial⟩ rfl (fun w hw => hc w hw) (fun i => ?_)
  refine TL.op (yq (y_move (ev_t rfl))) rfl rfl rfl ?_
  refine TL.op (yq (y_extract (us := [.int .i64 x, .iface te (.pointer (some ⟨i, 0, none⟩))]) (ev_t rfl) rfl)) rfl rfl rfl ?_
  refine TL.op (yq (y_extract (us := [.int .i64 x, .iface te (.pointer (some ⟨i, 0, none⟩))]) (ev_t rfl) rfl)) rfl rfl rfl ?_
  refine TL.op (yq (y_assign (ev_t rfl))) rfl rfl rfl ?_
  refine TL.op (yq (y_assign (ev_t rfl))) rfl rfl rfl ?_
  refine TL.nil ?_
  refine TN.seq ?_
  refine TC.seq ?_
  refine TC.seq ?_
  refine TC.region ?_
  refine TL.op (yq (y_move (ev_t rfl))) rfl rfl rfl ?_
  refine TL.op (yq (y_inn1 Tryd.underlying69 (ev_t rfl) ev_c)) rfl rfl rfl ?_
  refine TL.op (yq (y_move (ev_t rfl))) rfl rfl rfl ?_
  refine TL.opw (v := undef) (w_f rfl rfl rfl) (fun hg => by cases hg) rfl rfl ?_
  refine TL.opw (v := undef) (w_f rfl rfl rfl) (fun hg => by cases hg) rfl rfl ?_
  refine TL.opw (v := undef) (w_f rfl rfl rfl) (fun hg => by cases hg) rfl rfl ?_
  refine TL.opw (v := undef) (w_f rfl rfl rfl) (fun hg => by cases hg) rfl rfl ?_
  refine TL.op (yq (y_pickT (ev_t rfl) ev_c)) rfl rfl rfl ?_
  refine TL.nil ?_
  refine TN.seq ?_
  refine TC.condT (b := true) (ev_t rfl) rfl ?_
  refine TC.seq ?_
  refine TC.region ?_
  refine TL.op (yq (y_assign ev_c)) rfl rfl rfl ?_
  refine TL.op (yq (y_assign ev_c)) rfl rfl rfl ?_
  refine TL.nil ?_
  refine TN.seq ?_
  refine TC.ret ?_
  refine TN.thenR ?_
  exact TN.ret2 rfl (ev_t rfl) (ev_t rfl) (fun w' hw => ⟨rfl, Hp.sublist hw (List.nil_sublist _)⟩)
set_option maxRecDepth 20000 in
theorem readDec_ok (w : World) (hvars : Vars w) (s : ByteArray) (v : Int) (hv : Lib.atoiAll s.data.toList = .ok v) (hc : ∀ w', Hp w [] w' → Calls Tryd.prog 53 ([(.string s)] : List Value).toArray w' (Ret (.tuple #[.int .i64 v, .nilIface]) (Hp w' []))) :
    Calls Tryd.prog 40 ([(.string s)] : List Value).toArray w (Ret (.tuple #[.int .i64 (cond (!((itoaA v).toList == s.toList)) ((0 : Int), false) (v, true)).1, .bool (cond (!((itoaA v).toList == s.toList)) ((0 : Int), false) (v, true)).2]) (Hp w [])) := by
  have hr := atoi_rng hv
  refine calls_tc Tryd.func40 rfl rfl rfl ?_
  change TC _ _ _ _ (Hp w []) [(0, (.string s))]
  refine TC.seq ?_
  refine TC.region ?_
  refine TL.op (yq (y_assign ev_c)) rfl rfl rfl ?_
  refine TL.op (yq (y_assign ev_c)) rfl rfl rfl ?_
  refine TL.nil ?_
  refine TN.seq ?_
  refine TC.seq ?_
  refine TC.region ?_
  refine TL.op (yq (y_move (ev_t rfl))) rfl rfl rfl ?_
  refine TL.op (y_call (vs := [.string s]) (v := .tuple #[.int .i64 v, .nilIface]) en_53 ⟨(ev_t rfl), trivial⟩ (fun w hw => hc w hw)) rfl rfl rfl ?_
  refine TL.op (yq (y_move (ev_t rfl))) rfl rfl rfl ?_
  refine TL.op (yq (y_extract (us := [.int .i64 v, .nilIface]) (ev_t rfl) rfl)) rfl rfl rfl ?_
  refine TL.op (yq (y_extract (us := [.int .i64 v, .nilIface]) (ev_t rfl) rfl)) rfl rfl rfl ?_
  refine TL.op (yq (y_assign (ev_t rfl))) rfl rfl rfl ?_
  refine TL.op (yq (y_assign (ev_t rfl))) rfl rfl rfl ?_
  refine TL.nil ?_
  refine TN.seq ?_
  refine TC.seq ?_
  refine TC.seq ?_
  refine TC.region ?_
  refine TL.op (yq (y_move (ev_t rfl))) rfl rfl rfl ?_
  refine TL.op (yq (y_inn0 Tryd.underlying69 (ev_t rfl))) rfl rfl rfl ?_
  refine TL.op (yq (y_move (ev_t rfl))) rfl rfl rfl ?_
  refine TL.opw (w_f rfl rfl rfl) (fun hg => yq (y_move (ev_t rfl))) rfl rfl ?_
  refine TL.opw (w_f rfl rfl rfl) (fun hg => y_call (vs := [(.int .i64 v)]) (v := (.string (itoaA v))) en_46 ⟨(ev_g rfl hg), trivial⟩ (fun w hw => impl_decA_ok w (hvars.below hw.1) v hr.1 hr.2)) rfl rfl ?_
  refine TL.opw (w_f rfl rfl rfl) (fun hg => yq (y_move (ev_t rfl))) rfl rfl ?_
  refine TL.opw (w_f rfl rfl rfl) (fun hg => yq (y_sneq (ev_g rfl hg) (ev_g rfl hg))) rfl rfl ?_
  refine TL.op (yq (y_pickF (ev_t rfl) (ev_g rfl rfl))) rfl rfl rfl ?_
  refine TL.nil ?_
  refine TN.seq ?_
  refine TC.cond (b := !((itoaA v).toList == s.toList)) (ev_t rfl) (fun h3 => ?_) (fun h3 => ?_)
  · rw [h3]
    refine TC.seq ?_
    refine TC.region ?_
    refine TL.op (yq (y_assign ev_c)) rfl rfl rfl ?_
    refine TL.op (yq (y_assign ev_c)) rfl rfl rfl ?_
    refine TL.nil ?_
    refine TN.seq ?_
    refine TC.ret ?_
    refine TN.thenR ?_
    exact TN.ret2 rfl (ev_t rfl) (ev_t rfl) (fun w' hw => ⟨rfl, hw⟩)
  · rw [h3]
    refine TC.skip ?_
    refine TN.seq ?_
    refine TC.seq ?_
    refine TC.region ?_
    refine TL.op (yq (y_move (ev_t rfl))) rfl rfl rfl ?_
    refine TL.op (yq (y_assign (ev_t rfl))) rfl rfl rfl ?_
    refine TL.op (yq (y_assign ev_c)) rfl rfl rfl ?_
    refine TL.nil ?_
    refine TN.seq ?_
    refine TC.ret ?_
    exact TN.ret2 rfl (ev_t rfl) (ev_t rfl) (fun w' hw => ⟨rfl, hw⟩)
theorem impl_readDec_ok (w : World) (hvars : Vars w) (s : ByteArray) (hp0 : s.size ≤ 1048576) :
    Calls Tryd.prog 40 ([(.string s)] : List Value).toArray w (Ret (.tuple #[.int .i64 (readDecF s).1, .bool (readDecF s).2]) (Hp w [])) := by
  unfold readDecF
  cases hA : Lib.atoiAll s.data.toList with
  | ok v =>
    refine readDec_ok w hvars s v hA (fun w' hw' => (Any.strconv_Atoi_ok laysC172 s (by omega) v hA w').mono ?_)
    rintro e w2 ⟨rfl, rfl | ⟨t, rfl⟩⟩
    · exact ⟨rfl, Hp.start _⟩
    · exact ⟨rfl, Go.Joins.below_bytesWorld _ _ _ _ (Nat.le_refl _), by simp, .nil⟩
  | «syntax» =>
    refine readDec_err w s 0 (laysC172_ren.t 168) (fun w' hw' => ?_)
    obtain ⟨ev, h1, h2⟩ := (hvars.below hw'.1).es
    refine (Any.strconv_Atoi_syntax laysC172 s (by omega) hA ev w' h1 h2).mono ?_
    rintro e w2 ⟨i, rfl, _, _, hb⟩
    exact ⟨i, rfl, hb, by simp, .nil⟩
  | range =>
    refine readDec_err w s (Lib.atoiSat s.data.toList) (laysC172_ren.t 168) (fun w' hw' => ?_)
    obtain ⟨ev, h1, h2⟩ := (hvars.below hw'.1).er
    refine (Any.strconv_Atoi_range laysC172 s (by omega) hA ev w' h1 h2).mono ?_
    rintro e w2 ⟨i, rfl, _, _, hb⟩
    exact ⟨i, rfl, hb, by simp, .nil⟩
/-- A text split. -/
def splitS (s sep : ByteArray) : List ByteArray := Lib.splitB sep 0 (Lib.countB s sep) s
theorem strings_Split_ok (w : World) (hvars : Vars w) (s sep : ByteArray) (hp0 : s.size ≤ 1048576) (hp1 : 1 ≤ sep.size) :
    Calls Tryd.prog 23 ([(.string s), (.string sep)] : List Value).toArray w (fun e w' => ∃ i : Value, e = .returned i ∧ Hp w [rowS 9 i (splitS s sep)] w') := by
  obtain ⟨m, hm⟩ := hvars.ml
  refine (Any.strings_Split lays146b (by kernel_rfl) s sep m w (by omega) hm hp1).mono ?_
  rintro e w' ⟨rfl, rfl⟩
  have hle := Lib.countB_le sep hp1 s.size s (Nat.le_refl _)
  have hlen : (splitS s sep).length = Lib.countB s sep + 1 := Lib.splitB_all sep hp1 0 _ s rfl
  refine ⟨_, rfl, (Hp.start w).new ⟨rfl, rfl, rfl, by simp, fun k hk => Below.heap_alloc w _ k hk⟩ ?_⟩
  rw [← hlen]
  have := ck_row_new (w := w) (e := 9) (n := (splitS s sep).length) (sz := 1) (cs := ((splitS s sep).map Value.string).toArray) (by simp) (by unfold maxLen; omega)
  simp only [List.size_toArray] at this
  exact this
end Go.Proofs.YtcmhgkcifejgcaaDoor
namespace Go.Proofs.YtcmhgkcifejgcaaDoor
set_option linter.unusedVariables false
set_option linter.unusedSimpArgs false
open Go Go.RowKit
set_option linter.unusedVariables false

def F_impl_splitAt_L1 (s : ByteArray) (sep : Int) : Nat → List ByteArray × Nat × Nat → Ctl (List ByteArray × Nat × Nat) (List ByteArray)
  | 0, s => .next s
  | mf1 + 1, (out1, from1, k11_1) => (bif decide ((k11_1 : Int) < (s.size : Int)) then (bif decide ((sAt s k11_1) = sep) then F_impl_splitAt_L1 s sep mf1 ((out1 ++ ([(s.extract from1 k11_1)])), (k11_1 + 1), (k11_1 + 1)) else F_impl_splitAt_L1 s sep mf1 (out1, from1, (k11_1 + 1))) else (.next (out1, from1, k11_1)))
theorem F_impl_splitAt_L1_s (s : ByteArray) (sep : Int) (out1 : List ByteArray) (from1 : Nat) (k11_1 : Nat) (mf1 : Nat) : F_impl_splitAt_L1 s sep (mf1 + 1) (out1, from1, k11_1) = (bif decide ((k11_1 : Int) < (s.size : Int)) then (bif decide ((sAt s k11_1) = sep) then F_impl_splitAt_L1 s sep mf1 ((out1 ++ ([(s.extract from1 k11_1)])), (k11_1 + 1), (k11_1 + 1)) else F_impl_splitAt_L1 s sep mf1 (out1, from1, (k11_1 + 1))) else (.next (out1, from1, k11_1))) := rfl
def F_impl_splitAt (s : ByteArray) (sep : Int) : List ByteArray := ((F_impl_splitAt_L1 s sep ((s.size - 0) + 1) (([] : List ByteArray), 0, 0)).elim (fun (out1, from1, _) => (out1 ++ ([(s.extract from1 s.size)]))) (fun r => r))

def F_impl_readList_L1 (s : ByteArray) : Nat → List Int × Nat → Ctl (List Int × Nat) (List Int × Bool)
  | 0, s => .next s
  | mf1 + 1, (out1, k13_1) => (bif decide ((k13_1 : Int) < ((F_impl_splitAt s 32).length : Int)) then (bif !((readDecF ((F_impl_splitAt s 32).getD k13_1 ByteArray.empty)).2) then (.ret ([], false)) else F_impl_readList_L1 s mf1 ((out1 ++ ([(readDecF ((F_impl_splitAt s 32).getD k13_1 ByteArray.empty)).1])), (k13_1 + 1))) else (.next (out1, k13_1)))
theorem F_impl_readList_L1_s (s : ByteArray) (out1 : List Int) (k13_1 : Nat) (mf1 : Nat) : F_impl_readList_L1 s (mf1 + 1) (out1, k13_1) = (bif decide ((k13_1 : Int) < ((F_impl_splitAt s 32).length : Int)) then (bif !((readDecF ((F_impl_splitAt s 32).getD k13_1 ByteArray.empty)).2) then (.ret ([], false)) else F_impl_readList_L1 s mf1 ((out1 ++ ([(readDecF ((F_impl_splitAt s 32).getD k13_1 ByteArray.empty)).1])), (k13_1 + 1))) else (.next (out1, k13_1))) := rfl
def F_impl_readList (s : ByteArray) : List Int × Bool := ((F_impl_readList_L1 s ((((F_impl_splitAt s 32).length) - 0) + 1) (([] : List Int), 0)).elim (fun (out1, _) => (out1, true)) (fun r => r))

def F_impl_ParseMetric_L1 (s : ByteArray) : Nat → Nat × List (List Int) → Ctl (Nat × List (List Int)) (List (List Int) × Bool)
  | 0, s => .next s
  | mf1 + 1, (k13_1, zg1_1_0_1) => (bif decide ((k13_1 : Int) < ((splitS s (ByteArray.mk #[59, 32])).length : Int)) then (bif !((F_impl_readList ((splitS s (ByteArray.mk #[59, 32])).getD k13_1 ByteArray.empty)).2) then (.ret ([], false)) else F_impl_ParseMetric_L1 s mf1 ((k13_1 + 1), (zg1_1_0_1 ++ [(F_impl_readList ((splitS s (ByteArray.mk #[59, 32])).getD k13_1 ByteArray.empty)).1]))) else (.next (k13_1, zg1_1_0_1)))
theorem F_impl_ParseMetric_L1_s (s : ByteArray) (k13_1 : Nat) (zg1_1_0_1 : List (List Int)) (mf1 : Nat) : F_impl_ParseMetric_L1 s (mf1 + 1) (k13_1, zg1_1_0_1) = (bif decide ((k13_1 : Int) < ((splitS s (ByteArray.mk #[59, 32])).length : Int)) then (bif !((F_impl_readList ((splitS s (ByteArray.mk #[59, 32])).getD k13_1 ByteArray.empty)).2) then (.ret ([], false)) else F_impl_ParseMetric_L1 s mf1 ((k13_1 + 1), (zg1_1_0_1 ++ [(F_impl_readList ((splitS s (ByteArray.mk #[59, 32])).getD k13_1 ByteArray.empty)).1]))) else (.next (k13_1, zg1_1_0_1))) := rfl
def F_impl_ParseMetric (s : ByteArray) : List (List Int) × Bool := ((F_impl_ParseMetric_L1 s ((((splitS s (ByteArray.mk #[59, 32])).length) - 0) + 1) (0, ([]))).elim (fun (_, zg1_1_0_1) => (bif ((!(F_impl_IsMetric zg1_1_0_1)) || (!(((F_impl_metricText zg1_1_0_1)).toList == (s).toList))) then ([], false) else (zg1_1_0_1, true))) (fun r => r))

def F_spec_l1Split_L1 (s : ByteArray) (b : Int) : Nat → List ByteArray × Nat × Nat → Ctl (List ByteArray × Nat × Nat) (List ByteArray)
  | 0, s => .next s
  | mf1 + 1, (out1, from1, i1) => (bif decide ((i1 : Int) < (s.size : Int)) then (bif decide ((sAt s i1) = b) then F_spec_l1Split_L1 s b mf1 ((out1 ++ ([(s.extract from1 i1)])), (i1 + 1), (i1 + 1)) else F_spec_l1Split_L1 s b mf1 (out1, from1, (i1 + 1))) else (.next (out1, from1, i1)))
theorem F_spec_l1Split_L1_s (s : ByteArray) (b : Int) (out1 : List ByteArray) (from1 : Nat) (i1 : Nat) (mf1 : Nat) : F_spec_l1Split_L1 s b (mf1 + 1) (out1, from1, i1) = (bif decide ((i1 : Int) < (s.size : Int)) then (bif decide ((sAt s i1) = b) then F_spec_l1Split_L1 s b mf1 ((out1 ++ ([(s.extract from1 i1)])), (i1 + 1), (i1 + 1)) else F_spec_l1Split_L1 s b mf1 (out1, from1, (i1 + 1))) else (.next (out1, from1, i1))) := rfl
def F_spec_l1Split (s : ByteArray) (b : Int) : List ByteArray := ((F_spec_l1Split_L1 s b ((s.size - 0) + 1) (([] : List ByteArray), 0, 0)).elim (fun (out1, from1, _) => (out1 ++ ([(s.extract from1 s.size)]))) (fun r => r))

def F_spec_l1Read_L1 (tj2 : ByteArray) : Nat → Int × Nat → Ctl (Int × Nat) (Int × Bool)
  | 0, s => .next s
  | mf1 + 1, (n1, i1) => (bif decide ((i1 : Int) < (tj2.size : Int)) then (bif ((decide ((sAt tj2 i1) < 48)) || (decide (57 < (sAt tj2 i1)))) then (.ret (0, false)) else F_spec_l1Read_L1 tj2 mf1 (((10 * n1) + ((sAt tj2 i1) - 48)), (i1 + 1))) else (.next (n1, i1)))
theorem F_spec_l1Read_L1_s (tj2 : ByteArray) (n1 : Int) (i1 : Nat) (mf1 : Nat) : F_spec_l1Read_L1 tj2 (mf1 + 1) (n1, i1) = (bif decide ((i1 : Int) < (tj2.size : Int)) then (bif ((decide ((sAt tj2 i1) < 48)) || (decide (57 < (sAt tj2 i1)))) then (.ret (0, false)) else F_spec_l1Read_L1 tj2 mf1 (((10 * n1) + ((sAt tj2 i1) - 48)), (i1 + 1))) else (.next (n1, i1))) := rfl
def F_spec_l1Read (s : ByteArray) : Int × Bool := ((((bif ((decide (1 < (s.size : Int))) && (decide ((sAt s 0) = 45))) then (Ctl.next (s.extract 1 s.size)) else (Ctl.next s)) : Ctl (ByteArray) (Int × Bool))).elim (fun tj2 => (bif !((decide (1 ≤ (tj2.size : Int))) && (decide ((tj2.size : Int) ≤ 6))) then (0, false) else ((F_spec_l1Read_L1 tj2 ((tj2.size - 0) + 1) (0, 0)).elim (fun (n1, _) => (bif decide ((tj2.size : Int) < (s.size : Int)) then (bif !(((F_spec_l1Num (-n1))).toList == (s).toList) then (0, false) else (-n1, true)) else (bif !(((F_spec_l1Num n1)).toList == (s).toList) then (0, false) else (n1, true)))) (fun r => r)))) (fun r => r))

def F_spec_ParseMetric_L2 (k7_j7 : ByteArray) : Nat → List Int × Nat → Ctl (List Int × Nat) (List (List Int) × Bool)
  | 0, s => .next s
  | mf2 + 1, (k8_2, k10_2) => (bif ((decide ((k10_2 : Int) < ((F_spec_l1Split k7_j7 32).length : Int))) && (decide ((k10_2 : Int) ≤ 6))) then (bif !((F_spec_l1Read ((F_spec_l1Split k7_j7 32).getD k10_2 ByteArray.empty)).2) then (.ret ([], false)) else F_spec_ParseMetric_L2 k7_j7 mf2 ((k8_2 ++ ([(F_spec_l1Read ((F_spec_l1Split k7_j7 32).getD k10_2 ByteArray.empty)).1])), (k10_2 + 1))) else (.next (k8_2, k10_2)))
theorem F_spec_ParseMetric_L2_s (k7_j7 : ByteArray) (k8_2 : List Int) (k10_2 : Nat) (mf2 : Nat) : F_spec_ParseMetric_L2 k7_j7 (mf2 + 1) (k8_2, k10_2) = (bif ((decide ((k10_2 : Int) < ((F_spec_l1Split k7_j7 32).length : Int))) && (decide ((k10_2 : Int) ≤ 6))) then (bif !((F_spec_l1Read ((F_spec_l1Split k7_j7 32).getD k10_2 ByteArray.empty)).2) then (.ret ([], false)) else F_spec_ParseMetric_L2 k7_j7 mf2 ((k8_2 ++ ([(F_spec_l1Read ((F_spec_l1Split k7_j7 32).getD k10_2 ByteArray.empty)).1])), (k10_2 + 1))) else (.next (k8_2, k10_2))) := rfl
def F_spec_ParseMetric_L1 (s : ByteArray) : Nat → Nat × List (List Int) → Ctl (Nat × List (List Int)) (List (List Int) × Bool)
  | 0, s => .next s
  | mf1 + 1, (k6_1, zg1_2_0_1) => (bif ((decide ((k6_1 : Int) < ((F_spec_l1Split s 59).length : Int))) && (decide ((k6_1 : Int) ≤ 6))) then ((((bif (((decide (0 < (k6_1 : Int))) && (decide (0 < (((F_spec_l1Split s 59).getD k6_1 ByteArray.empty).size : Int)))) && (decide ((sAt ((F_spec_l1Split s 59).getD k6_1 ByteArray.empty) 0) = 32))) then (Ctl.next (((F_spec_l1Split s 59).getD k6_1 ByteArray.empty).extract 1 (((F_spec_l1Split s 59).getD k6_1 ByteArray.empty).size))) else (Ctl.next ((F_spec_l1Split s 59).getD k6_1 ByteArray.empty))) : Ctl (ByteArray) (List (List Int) × Bool))).elim (fun k7_j7 => ((F_spec_ParseMetric_L2 k7_j7 ((7 - 0) + 1) (([] : List Int), 0)).elim (fun (k8_2, _) => F_spec_ParseMetric_L1 s mf1 ((k6_1 + 1), (zg1_2_0_1 ++ [k8_2]))) (fun r => .ret r))) (fun r => .ret r)) else (.next (k6_1, zg1_2_0_1)))
theorem F_spec_ParseMetric_L1_s (s : ByteArray) (k6_1 : Nat) (zg1_2_0_1 : List (List Int)) (mf1 : Nat) : F_spec_ParseMetric_L1 s (mf1 + 1) (k6_1, zg1_2_0_1) = (bif ((decide ((k6_1 : Int) < ((F_spec_l1Split s 59).length : Int))) && (decide ((k6_1 : Int) ≤ 6))) then ((((bif (((decide (0 < (k6_1 : Int))) && (decide (0 < (((F_spec_l1Split s 59).getD k6_1 ByteArray.empty).size : Int)))) && (decide ((sAt ((F_spec_l1Split s 59).getD k6_1 ByteArray.empty) 0) = 32))) then (Ctl.next (((F_spec_l1Split s 59).getD k6_1 ByteArray.empty).extract 1 (((F_spec_l1Split s 59).getD k6_1 ByteArray.empty).size))) else (Ctl.next ((F_spec_l1Split s 59).getD k6_1 ByteArray.empty))) : Ctl (ByteArray) (List (List Int) × Bool))).elim (fun k7_j7 => ((F_spec_ParseMetric_L2 k7_j7 ((7 - 0) + 1) (([] : List Int), 0)).elim (fun (k8_2, _) => F_spec_ParseMetric_L1 s mf1 ((k6_1 + 1), (zg1_2_0_1 ++ [k8_2]))) (fun r => .ret r))) (fun r => .ret r)) else (.next (k6_1, zg1_2_0_1))) := rfl
def F_spec_ParseMetric (s : ByteArray) : List (List Int) × Bool := ((F_spec_ParseMetric_L1 s ((7 - 0) + 1) (0, ([]))).elim (fun (_, zg1_2_0_1) => (bif ((!(F_spec_l6Good zg1_2_0_1)) || (!(((F_spec_l6Text zg1_2_0_1)).toList == (s).toList))) then ([], false) else (zg1_2_0_1, true))) (fun r => r))

def F_laws_FnExactParseMetric (aS : ByteArray) : Bool := (bif decide (1048576 < (aS.size : Int)) then true else (bif ((!(F_laws_eqMetric ((F_impl_ParseMetric aS).1) ((F_spec_ParseMetric aS).1))) || (((F_impl_ParseMetric aS).2) != ((F_spec_ParseMetric aS).2))) then false else (bif decide ((F_laws_heldMetric ((F_laws_markMetric ((F_impl_ParseMetric aS).1) 1).2) 1) < 0) then false else (bif !decide ((F_laws_heldMetric ((F_laws_markMetric ((F_impl_ParseMetric aS).1) 1).2) 1) = (F_laws_markMetric ((F_impl_ParseMetric aS).1) 1).1) then false else true))))


end Go.Proofs.YtcmhgkcifejgcaaDoor
namespace Go.Proofs.YtcmhgkcifejgcaaDoor
set_option linter.unusedVariables false
set_option linter.unusedSimpArgs false
open Go Go.RowKit
set_option linter.unusedVariables false
set_option linter.unusedSimpArgs false
theorem ext_sz (s : ByteArray) (a b : Nat) : (s.extract a b).size ≤ s.size := by rw [ByteArray.size_extract]; omega
theorem mem_sz {l : List ByteArray} {m : Nat} (h : ∀ x ∈ l, x.size ≤ m) (i : Nat) : (l.getD i ByteArray.empty).size ≤ m := by
  by_cases e : i < l.length
  · exact h _ (getD_mem _ _ _ e)
  · rw [getD_ge _ _ _ (by omega)]; exact Nat.zero_le _
theorem split_same (s : ByteArray) (b : Int) : F_impl_splitAt s b = F_spec_l1Split s b := by
  have h : ∀ (fuel : Nat) (st : List ByteArray × Nat × Nat), F_impl_splitAt_L1 s b fuel st = F_spec_l1Split_L1 s b fuel st := by
    intro fuel
    induction fuel with
    | zero => intro st; rfl
    | succ f ih =>
      rintro ⟨out, src, k⟩
      rw [F_impl_splitAt_L1_s, F_spec_l1Split_L1_s, ih, ih]
  unfold F_impl_splitAt F_spec_l1Split
  rw [h]
theorem sl_L1 (s : ByteArray) (b : Int) : ∀ (fuel k src : Nat) (d : List ByteArray), (∀ x ∈ d, x.size ≤ s.size) → s.size - k < fuel → ∃ d' src' k', F_spec_l1Split_L1 s b fuel (d, src, k) = .next (d', src', k') ∧ (∀ x ∈ d', x.size ≤ s.size) ∧ d'.length ≤ d.length + (s.size - k) := by
  intro fuel
  induction fuel with
  | zero => intro k src d h h2; omega
  | succ f ih =>
    intro k src d h h2
    rw [F_spec_l1Split_L1_s]
    by_cases hl : k < s.size
    · rw [bif_pos (decide_eq_true (by omega))]
      cases decide (sAt s k = b)
      · obtain ⟨d', src', k', h3, h4, h5⟩ := ih (k + 1) src d h (by omega)
        exact ⟨d', src', k', h3, h4, by omega⟩
      · obtain ⟨d', src', k', h3, h4, h5⟩ := ih (k + 1) (k + 1) (d ++ [s.extract src k]) (fun x hx => by
          rcases List.mem_append.1 hx with e | e
          · exact h x e
          · rw [List.mem_singleton.1 e]; exact ext_sz _ _ _) (by omega)
        refine ⟨d', src', k', h3, h4, ?_⟩
        rw [List.length_append, List.length_singleton] at h5
        omega
    · rw [bif_neg (decide_eq_false (by omega))]
      exact ⟨d, src, k, rfl, h, by omega⟩
theorem split_all (s : ByteArray) (b : Int) : (∀ x ∈ F_spec_l1Split s b, x.size ≤ s.size) ∧ (F_spec_l1Split s b).length ≤ s.size + 1 := by
  unfold F_spec_l1Split
  obtain ⟨d, src, k, h1, h2, h3⟩ := sl_L1 s b (s.size - 0 + 1) 0 0 [] (fun x hx => by cases hx) (by omega)
  rw [h1, elim_next]
  dsimp only
  refine ⟨fun x hx => ?_, ?_⟩
  · rcases List.mem_append.1 hx with e | e
    · exact h2 x e
    · rw [List.mem_singleton.1 e]; exact ext_sz _ _ _
  · rw [List.length_append, List.length_singleton]
    simp only [List.length_nil] at h3
    omega
theorem split_sz (s : ByteArray) (b : Int) (i : Nat) : ((F_spec_l1Split s b).getD i ByteArray.empty).size ≤ s.size := mem_sz (split_all s b).1 i
theorem splitAt_sz (s : ByteArray) (b : Int) (i : Nat) : ((F_impl_splitAt s b).getD i ByteArray.empty).size ≤ s.size := by rw [split_same]; exact split_sz s b i
theorem splitAt_len (s : ByteArray) (b : Int) : (F_impl_splitAt s b).length ≤ s.size + 1 := by rw [split_same]; exact (split_all s b).2
theorem splitS_len (s sep : ByteArray) (h : 1 ≤ sep.size) : (splitS s sep).length ≤ s.size + 1 := by
  have hle := Lib.countB_le sep h s.size s (Nat.le_refl _)
  have hlen : (splitS s sep).length = Lib.countB s sep + 1 := Lib.splitB_all sep h 0 _ s rfl
  omega
theorem splitB_sz (sep : ByteArray) (m : Nat) : ∀ (k : Nat) (s : ByteArray), s.size ≤ m → ∀ x ∈ Lib.splitB sep 0 k s, x.size ≤ m := by
  intro k
  induction k with
  | zero => intro s hs x hx; rw [Lib.splitB_zero, List.mem_singleton] at hx; subst hx; exact hs
  | succ k ih =>
    intro s hs x hx
    unfold Lib.splitB at hx
    split at hx
    · rw [List.mem_singleton] at hx; subst hx; exact hs
    · rcases List.mem_cons.1 hx with e | e
      · subst e; exact Nat.le_trans (ext_sz _ _ _) hs
      · exact ih _ (Nat.le_trans (ext_sz _ _ _) hs) x e
theorem splitS_sz (s sep : ByteArray) (i : Nat) : ((splitS s sep).getD i ByteArray.empty).size ≤ s.size := mem_sz (splitB_sz sep s.size _ s (Nat.le_refl _)) i
def p10 : Nat → Int
  | 0 => 1
  | k + 1 => 10 * p10 k
theorem p10_s (i : Nat) : p10 (i + 1) = 10 * p10 i := rfl
theorem p10_le (i : Nat) (h : i ≤ 6) : p10 i ≤ 1000000 := by
  match i, h with
  | 0, _ => decide
  | 1, _ => decide
  | 2, _ => decide
  | 3, _ => decide
  | 4, _ => decide
  | 5, _ => decide
  | 6, _ => decide
/-! what is returned -/
theorem pi_L1 (s : ByteArray) : ∀ (fuel k : Nat) (d : List (List Int)), (F_impl_ParseMetric_L1 s fuel (k, d) = .ret ([], false)) ∨ ∃ k' d', F_impl_ParseMetric_L1 s fuel (k, d) = .next (k', d') := by
  intro fuel
  induction fuel with
  | zero => intro k d; exact .inr ⟨k, d, rfl⟩
  | succ f ih =>
    intro k d
    rw [F_impl_ParseMetric_L1_s]
    cases decide ((k : Int) < ((splitS s (ByteArray.mk #[59, 32])).length : Int))
    · exact .inr ⟨k, d, rfl⟩
    · cases !((F_impl_readList ((splitS s (ByteArray.mk #[59, 32])).getD k ByteArray.empty)).2)
      · exact ih _ _
      · exact .inl rfl
theorem tl_inj {a b : ByteArray} (h : (!(a.toList == b.toList)) = false) : a = b := by
  have h2 : a.toList = b.toList := by simpa using h
  have h3 : a.data.toList = b.data.toList := by
    rw [← Lib.toList_data, ← Lib.toList_data]; exact h2
  exact ba_ext h3
/-- The program reads nothing, or a good table whose text it was. -/
theorem parseI (s : ByteArray) : F_impl_ParseMetric s = ([], false) ∨ ∃ m, F_impl_ParseMetric s = (m, true) ∧ F_spec_l6Good m = true ∧ s = F_impl_metricText m := by
  unfold F_impl_ParseMetric
  rcases pi_L1 s ((splitS s (ByteArray.mk #[59, 32])).length - 0 + 1) 0 [] with h | ⟨k', d, h⟩
  · rw [h, elim_ret]; exact .inl rfl
  · rw [h, elim_next]
    dsimp only
    cases hc : ((!(F_impl_IsMetric d)) || (!(((F_impl_metricText d)).toList == (s).toList)))
    · obtain ⟨h1, h2⟩ := or_f hc
      exact .inr ⟨d, rfl, by rw [← isMetric_eq]; exact not_f h1, (tl_inj h2).symm⟩
    · exact .inl rfl
theorem ps_L2 (p : ByteArray) : ∀ (fuel k : Nat) (d : List Int), (F_spec_ParseMetric_L2 p fuel (d, k) = .ret ([], false)) ∨ ∃ k' d', F_spec_ParseMetric_L2 p fuel (d, k) = .next (d', k') := by
  intro fuel
  induction fuel with
  | zero => intro k d; exact .inr ⟨k, d, rfl⟩
  | succ f ih =>
    intro k d
    rw [F_spec_ParseMetric_L2_s]
    cases ((decide ((k : Int) < ((F_spec_l1Split p 32).length : Int))) && (decide ((k : Int) ≤ 6)))
    · exact .inr ⟨k, d, rfl⟩
    · cases !((F_spec_l1Read ((F_spec_l1Split p 32).getD k ByteArray.empty)).2)
      · exact ih _ _
      · exact .inl rfl
theorem ps_L1 (s : ByteArray) : ∀ (fuel k : Nat) (d : List (List Int)), (F_spec_ParseMetric_L1 s fuel (k, d) = .ret ([], false)) ∨ ∃ k' d', F_spec_ParseMetric_L1 s fuel (k, d) = .next (k', d') := by
  intro fuel
  induction fuel with
  | zero => intro k d; exact .inr ⟨k, d, rfl⟩
  | succ f ih =>
    intro k d
    rw [F_spec_ParseMetric_L1_s]
    cases ((decide ((k : Int) < ((F_spec_l1Split s 59).length : Int))) && (decide ((k : Int) ≤ 6)))
    · exact .inr ⟨k, d, rfl⟩
    · rw [cond_true]
      cases (((decide (0 < (k : Int))) && (decide (0 < (((F_spec_l1Split s 59).getD k ByteArray.empty).size : Int)))) && (decide ((sAt ((F_spec_l1Split s 59).getD k ByteArray.empty) 0) = 32)))
      · rw [cond_false, elim_next]
        rcases ps_L2 ((F_spec_l1Split s 59).getD k ByteArray.empty) (7 - 0 + 1) 0 [] with h | ⟨k', d', h⟩
        · rw [h, elim_ret]; exact .inl rfl
        · rw [h, elim_next]; exact ih _ _
      · rw [cond_true, elim_next]
        rcases ps_L2 (((F_spec_l1Split s 59).getD k ByteArray.empty).extract 1 (((F_spec_l1Split s 59).getD k ByteArray.empty).size)) (7 - 0 + 1) 0 [] with h | ⟨k', d', h⟩
        · rw [h, elim_ret]; exact .inl rfl
        · rw [h, elim_next]; exact ih _ _
theorem parseS (s : ByteArray) : F_spec_ParseMetric s = ([], false) ∨ ∃ m, F_spec_ParseMetric s = (m, true) ∧ F_spec_l6Good m = true ∧ s = F_impl_metricText m := by
  unfold F_spec_ParseMetric
  rcases ps_L1 s (7 - 0 + 1) 0 [] with h | ⟨k', d, h⟩
  · rw [h, elim_ret]; exact .inl rfl
  · rw [h, elim_next]
    dsimp only
    cases hc : ((!(F_spec_l6Good d)) || (!(((F_spec_l6Text d)).toList == (s).toList)))
    · obtain ⟨h1, h2⟩ := or_f hc
      have hg := not_f h1
      exact .inr ⟨d, rfl, hg, by rw [← text_eq ((l6Good_iff d).1 hg).1]; exact (tl_inj h2).symm⟩
    · exact .inl rfl
theorem total_6 {m : List (List Int)} (h : TabP false m) : total m ≤ 36 := by
  have h1 := total_leMul 6 m (fun i hi => by rw [h.rows i hi]; exact h.n6)
  have := h.n6
  have h2 : m.length * 6 ≤ 6 * 6 := Nat.mul_le_mul h.n6 (Nat.le_refl _)
  omega
theorem parse_total (s : ByteArray) : total (F_impl_ParseMetric s).1 ≤ 36 := by
  rcases parseI s with h | ⟨m, h, hg, _⟩
  · rw [h]; simp [total]
  · rw [h]; exact total_6 ((l6Good_iff m).1 hg).1
end Go.Proofs.YtcmhgkcifejgcaaDoor
namespace Go.Proofs.YtcmhgkcifejgcaaDoor
set_option linter.unusedVariables false
set_option linter.unusedSimpArgs false
open Go Go.RowKit
set_option linter.unusedVariables false

set_option maxRecDepth 4000 in
set_option maxHeartbeats 1000000 in
theorem impl_splitAt_ok (w : World) (s : ByteArray) (sep : Int) (hp0 : s.size ≤ 1048576) :
    Calls Tryd.prog 39 ([(.string s), (.int .u8 sep)] : List Value).toArray w (fun e w' => ∃ i : Value, e = .returned i ∧ Hp w [rowS 9 i (F_impl_splitAt s sep)] w') := by
  obtain ⟨rz, hF⟩ : ∃ rz, (F_impl_splitAt s sep) = rz := ⟨_, rfl⟩
  rw [hF]
  unfold F_impl_splitAt at hF
  refine calls_tc Tryd.func39 rfl rfl rfl ?_
  change TC _ _ _ _ (Hp w []) [(0, (.string s)), (1, (.int .u8 sep))]
  refine TC.seq ?_
  refine TC.region ?_
  refine TL.op (yq (y_assign ev_c)) rfl rfl rfl ?_
  refine TL.nil ?_
  refine TN.seq ?_
  refine TC.seq ?_
  refine TC.region ?_
  refine TL.buildS (zs := []) (qs := []) slT_41 rfl trivial rfl (by decide) rfl (fun v1_0 => ?_)
  refine TL.op (yq (y_assign (ev_t rfl))) rfl rfl rfl ?_
  refine TL.nil ?_
  refine TN.seq ?_
  refine TC.seq ?_
  refine TC.region ?_
  refine TL.op (yq (y_assign ev_c)) rfl rfl rfl ?_
  refine TL.nil ?_
  refine TN.seq ?_
  refine TC.seq ?_
  refine TC.seq ?_
  refine TC.region ?_
  refine TL.op (yq (y_move (ev_t rfl))) rfl rfl rfl ?_
  refine TL.op (yq (y_slen (ev_t rfl) Tryd.underlying9)) rfl rfl rfl ?_
  refine TL.op (yq (y_move ev_c)) rfl rfl rfl ?_
  refine TL.nil ?_
  refine TN.seq ?_
  refine TC.block ?_
  obtain ⟨c13, hc14⟩ : ∃ c, F_impl_splitAt_L1 s sep ((s.size - 0) + 1) (([] : List ByteArray), 0, 0) = c := ⟨_, rfl⟩
  rw [hc14] at hF
  refine TC.loop (ι := Nat × List ByteArray × Nat × Nat × Value) (fun (fu1, out1, from1, k11_1, vout1) => [(0, (.string s)), (1, (.int .u8 sep)), (5, vout1), (6, (.int .i64 (from1 : Int))), (10, (.int .i64 (s.size : Int))), (11, (.int .i64 (k11_1 : Int)))]) (fun (fu1, out1, from1, k11_1, vout1) => Hp w [rowS 9 vout1 out1]) (fun (fu1, out1, from1, k11_1, vout1) => (k11_1 ≤ s.size) ∧ (out1.length ≤ k11_1) ∧ (from1 ≤ k11_1) ∧ s.size - k11_1 < fu1 ∧ F_impl_splitAt_L1 s sep fu1 (out1, from1, k11_1) = c13) (fun (fu1, out1, from1, k11_1, vout1) => fu1) ((s.size - 0) + 1, ([] : List ByteArray), 0, 0, v1_0) ⟨(by first | omega | (simp [-List.getD_eq_getElem?_getD] <;> omega)), (by first | omega | (simp [-List.getD_eq_getElem?_getD] <;> omega)), (by first | omega | (simp [-List.getD_eq_getElem?_getD] <;> omega)), (by omega), hc14⟩ ⟨rfl, rfl, rfl, rfl, rfl, rfl, trivial⟩ (fun w hw => hw) ?_
  rintro ⟨fu1, out1, from1, k11_1, vout1⟩ hJ1
  obtain ⟨hi1_0, hi1_1, hi1_2, hmu1, hL1⟩ : (k11_1 ≤ s.size) ∧ (out1.length ≤ k11_1) ∧ (from1 ≤ k11_1) ∧ s.size - k11_1 < fu1 ∧ F_impl_splitAt_L1 s sep fu1 (out1, from1, k11_1) = c13 := hJ1
  change TC _ _ _ _ (Hp w [rowS 9 vout1 out1]) [(0, (.string s)), (1, (.int .u8 sep)), (5, vout1), (6, (.int .i64 (from1 : Int))), (10, (.int .i64 (s.size : Int))), (11, (.int .i64 (k11_1 : Int)))]
  obtain ⟨mf1, rfl⟩ : ∃ m, fu1 = m + 1 := ⟨fu1 - 1, by omega⟩
  rw [F_impl_splitAt_L1_s] at hL1
  refine TC.seq ?_
  refine TC.region ?_
  refine TL.op (yq (y_lss (ev_t rfl) (ev_t rfl))) rfl rfl rfl ?_
  refine TL.nil ?_
  refine TN.seq ?_
  refine TC.seq ?_
  refine TC.cond (b := decide ((k11_1 : Int) < (s.size : Int))) (ev_t rfl) (fun h15 => ?_) (fun h15 => ?_)
  · rw [bif_pos h15] at hL1
    have q16 := (of_decide_eq_true h15)
    refine TC.skip ?_
    refine TN.seq ?_
    refine TC.seq ?_
    refine TC.block ?_
    refine TC.seq ?_
    refine TC.region ?_
    refine TL.op (yq (y_move (ev_t rfl))) rfl rfl rfl ?_
    refine TL.op (yq (y_assign (ev_t rfl))) rfl rfl rfl ?_
    refine TL.nil ?_
    refine TN.seq ?_
    refine TC.seq ?_
    refine TC.region ?_
    refine TL.op (yq (y_move (ev_t rfl))) rfl rfl rfl ?_
    refine TL.op (yq (y_move (ev_t rfl))) rfl rfl rfl ?_
    have hb17 : k11_1 < s.size := (by first | omega | (simp only [List.length_set, List.length_append, List.length_cons, List.length_nil, List.length_replicate]; omega) | (rw [sortI_length]; simp only [List.length_cons, List.length_nil]; omega) | (simp only [ByteArray.size_append]; omega))
    have hu18 := sAt_bd s k11_1
    refine TL.op (yq (y_sidx (k := k11_1) (ev_t rfl) (ev_t rfl) (by first | omega | simp) Tryd.underlying9 hb17)) rfl rfl rfl ?_
    refine TL.op (yq (y_move (ev_t rfl))) rfl rfl rfl ?_
    refine TL.op (yq (y_eql (ev_t rfl) (ev_t rfl))) rfl rfl rfl ?_
    refine TL.nil ?_
    refine TN.seq ?_
    refine TC.cond (b := decide ((sAt s k11_1) = sep)) (ev_t rfl) (fun h19 => ?_) (fun h19 => ?_)
    · rw [bif_pos h19] at hL1
      have q20 := (of_decide_eq_true h19)
      refine TC.seq ?_
      refine TC.region ?_
      refine TL.op (yq (y_move (ev_t rfl))) rfl rfl rfl ?_
      refine TL.op (yq (y_move (ev_t rfl))) rfl rfl rfl ?_
      refine TL.op (yq (y_move (ev_t rfl))) rfl rfl rfl ?_
      refine TL.op (yq (y_move (ev_t rfl))) rfl rfl rfl ?_
      refine TL.op (yq (y_sslice (ev_t rfl) (ev_t rfl) (ev_t rfl) (lo := from1) (by omega) (hi := k11_1) (by omega) Tryd.underlying9 (by first | omega | (simp only [List.length_set, List.length_append, List.length_cons, List.length_nil, List.length_replicate]; omega) | (rw [sortI_length]; simp only [List.length_cons, List.length_nil]; omega) | (simp only [ByteArray.size_append]; omega)) (by first | omega | (simp only [List.length_set, List.length_append, List.length_cons, List.length_nil, List.length_replicate]; omega) | (rw [sortI_length]; simp only [List.length_cons, List.length_nil]; omega) | (simp only [ByteArray.size_append]; omega)))) rfl rfl rfl ?_
      refine TL.buildS (zs := [.tmp 23]) (qs := [(s.extract from1 k11_1)]) slT_41 rfl ⟨(ev_t rfl), trivial⟩ rfl (by decide) rfl (fun v7_5 => ?_)
      refine TL.appendS 1 (ev_t rfl) (ev_t rfl) rfl slT_41 (rd_row 0 rfl) (by first | omega | (simp [-List.getD_eq_getElem?_getD] <;> omega)) rfl (fun v7_6 => ?_)
      refine TL.op (yq (y_assign (ev_t rfl))) rfl rfl rfl ?_
      refine TL.nil ?_
      refine TN.seq ?_
      refine TC.region ?_
      refine TL.op (yq (y_move (ev_t rfl))) rfl rfl rfl ?_
      refine TL.op (yq (y_add (ev_t rfl) ev_c (by unfold In64; constructor <;> omega))) rfl rfl rfl ?_
      refine TL.op (yq (y_assign (ev_t rfl))) rfl rfl rfl ?_
      refine TL.nil ?_
      refine TN.blockN ?_
      refine TN.seq ?_
      refine TC.region ?_
      refine TL.op (yq (y_add (ev_t rfl) ev_c (by unfold In64; constructor <;> omega))) rfl rfl rfl ?_
      refine TL.op (yq (y_move (ev_t rfl))) rfl rfl rfl ?_
      refine TL.nil ?_
      exact TN.hand (mf1, (out1 ++ ([(s.extract from1 k11_1)])), (k11_1 + 1), (k11_1 + 1), v7_6) ⟨(by first | omega | (simp [-List.getD_eq_getElem?_getD] <;> omega)), (by first | omega | (simp [-List.getD_eq_getElem?_getD] <;> omega)), (by first | omega | (simp [-List.getD_eq_getElem?_getD] <;> omega)), (by omega), hL1⟩ (Nat.lt_succ_self _) ⟨rfl, rfl, rfl, rfl, rfl, rfl, trivial⟩ (fun w hw => Hp.sublist hw (.cons _ (.cons_cons _ .slnil)))
    · rw [bif_neg h19] at hL1
      have q20 := (of_decide_eq_false h19)
      refine TC.skip ?_
      refine TN.blockN ?_
      refine TN.seq ?_
      refine TC.region ?_
      refine TL.op (yq (y_add (ev_t rfl) ev_c (by unfold In64; constructor <;> omega))) rfl rfl rfl ?_
      refine TL.op (yq (y_move (ev_t rfl))) rfl rfl rfl ?_
      refine TL.nil ?_
      exact TN.hand (mf1, out1, from1, (k11_1 + 1), vout1) ⟨(by first | omega | (simp [-List.getD_eq_getElem?_getD] <;> omega)), (by first | omega | (simp [-List.getD_eq_getElem?_getD] <;> omega)), (by first | omega | (simp [-List.getD_eq_getElem?_getD] <;> omega)), (by omega), hL1⟩ (Nat.lt_succ_self _) ⟨rfl, rfl, rfl, rfl, rfl, rfl, trivial⟩ (fun w hw => hw)
  · rw [bif_neg h15] at hL1
    have q16 := (of_decide_eq_false h15)
    refine TC.exit ?_
    refine TN.thenE ?_
    refine TN.thenE ?_
    rw [← hL1, elim_next] at hF
    try dsimp only at hF
    refine TN.blockH ?_
    refine TN.seq ?_
    refine TC.seq ?_
    refine TC.region ?_
    refine TL.op (yq (y_move (ev_t rfl))) rfl rfl rfl ?_
    refine TL.op (yq (y_move (ev_t rfl))) rfl rfl rfl ?_
    refine TL.op (yq (y_move (ev_t rfl))) rfl rfl rfl ?_
    refine TL.op (yq (y_sslice_lo (ev_t rfl) (ev_t rfl) (lo := from1) (by omega) Tryd.underlying9 (by first | omega | (simp only [List.length_set, List.length_append, List.length_cons, List.length_nil, List.length_replicate]; omega) | (rw [sortI_length]; simp only [List.length_cons, List.length_nil]; omega) | (simp only [ByteArray.size_append]; omega)))) rfl rfl rfl ?_
    refine TL.buildS (zs := [.tmp 32]) (qs := [(s.extract from1 s.size)]) slT_41 rfl ⟨(ev_t rfl), trivial⟩ rfl (by decide) rfl (fun v10_4 => ?_)
    refine TL.appendS 1 (ev_t rfl) (ev_t rfl) rfl slT_41 (rd_row 0 rfl) (by first | omega | (simp [-List.getD_eq_getElem?_getD] <;> omega)) rfl (fun v10_5 => ?_)
    refine TL.op (yq (y_assign (ev_t rfl))) rfl rfl rfl ?_
    refine TL.nil ?_
    refine TN.seq ?_
    refine TC.ret ?_
    subst hF
    exact TN.ret1 rfl (ev_t rfl) (fun w' hw => ⟨v10_5, rfl, Hp.sublist hw (.cons _ (.cons_cons _ .slnil))⟩)

set_option maxRecDepth 4000 in
set_option maxHeartbeats 1000000 in
theorem impl_readList_ok (w : World) (hvars : Vars w) (s : ByteArray) (hp0 : s.size ≤ 1048576) :
    Calls Tryd.prog 24 ([(.string s)] : List Value).toArray w (fun e w' => ∃ i : Value, e = .returned (.tuple #[i, (.bool ((F_impl_readList s).2))]) ∧ Hp w [rowI 3 i ((F_impl_readList s).1)] w') := by
  obtain ⟨rz, hF⟩ : ∃ rz, (F_impl_readList s) = rz := ⟨_, rfl⟩
  rw [hF]
  unfold F_impl_readList at hF
  have hsl := splitAt_len s 32
  refine calls_tc Tryd.func24 rfl rfl rfl ?_
  change TC _ _ _ _ (Hp w []) [(0, (.string s))]
  refine TC.seq ?_
  refine TC.region ?_
  refine TL.op (yq (y_assign ev_c)) rfl rfl rfl ?_
  refine TL.op (yq (y_assign ev_c)) rfl rfl rfl ?_
  refine TL.nil ?_
  refine TN.seq ?_
  refine TC.seq ?_
  refine TC.region ?_
  refine TL.buildI (zs := []) (qs := []) slT_43 rfl trivial rfl (by decide) rfl (fun v1_0 => ?_)
  refine TL.op (yq (y_assign (ev_t rfl))) rfl rfl rfl ?_
  refine TL.nil ?_
  refine TN.seq ?_
  refine TC.seq ?_
  refine TC.seq ?_
  refine TC.region ?_
  refine TL.op (yq (y_move (ev_t rfl))) rfl rfl rfl ?_
  refine TL.callr (ι := Value) (vs := [(.string s), (.int .u8 32)]) (fun i => i) (fun i => [rowS 9 i (F_impl_splitAt s 32)]) en_39 ⟨(ev_t rfl), ev_c, trivial⟩ rfl (fun w hw => impl_splitAt_ok w s 32 (by first | assumption | omega | grind)) (fun r2_1 => ?_)
  refine TL.op (yq (y_len (ev_t rfl) Tryd.underlying41 (fun w hw => ((rd_row 0 rfl) w hw).ln))) rfl rfl rfl ?_
  refine TL.op (yq (y_move ev_c)) rfl rfl rfl ?_
  refine TL.nil ?_
  refine TN.seq ?_
  refine TC.block ?_
  obtain ⟨c11, hc12⟩ : ∃ c, F_impl_readList_L1 s ((((F_impl_splitAt s 32).length) - 0) + 1) (([] : List Int), 0) = c := ⟨_, rfl⟩
  rw [hc12] at hF
  refine TC.loop (ι := Nat × List Int × Nat × Value) (fun (fu1, out1, k13_1, vout1) => [(4, vout1), (11, r2_1), (12, (.int .i64 ((F_impl_splitAt s 32).length : Int))), (13, (.int .i64 (k13_1 : Int)))]) (fun (fu1, out1, k13_1, vout1) => Hp w [rowS 9 r2_1 (F_impl_splitAt s 32), rowI 3 vout1 out1]) (fun (fu1, out1, k13_1, vout1) => (k13_1 ≤ ((F_impl_splitAt s 32).length)) ∧ (out1.length ≤ k13_1) ∧ ((F_impl_splitAt s 32).length) - k13_1 < fu1 ∧ F_impl_readList_L1 s fu1 (out1, k13_1) = c11) (fun (fu1, out1, k13_1, vout1) => fu1) ((((F_impl_splitAt s 32).length) - 0) + 1, ([] : List Int), 0, v1_0) ⟨(by first | omega | (simp [-List.getD_eq_getElem?_getD] <;> omega)), (by first | omega | (simp [-List.getD_eq_getElem?_getD] <;> omega)), (by omega), hc12⟩ ⟨rfl, rfl, rfl, rfl, trivial⟩ (fun w hw => hw) ?_
  rintro ⟨fu1, out1, k13_1, vout1⟩ hJ1
  obtain ⟨hi1_0, hi1_1, hmu1, hL1⟩ : (k13_1 ≤ ((F_impl_splitAt s 32).length)) ∧ (out1.length ≤ k13_1) ∧ ((F_impl_splitAt s 32).length) - k13_1 < fu1 ∧ F_impl_readList_L1 s fu1 (out1, k13_1) = c11 := hJ1
  change TC _ _ _ _ (Hp w [rowS 9 r2_1 (F_impl_splitAt s 32), rowI 3 vout1 out1]) [(4, vout1), (11, r2_1), (12, (.int .i64 ((F_impl_splitAt s 32).length : Int))), (13, (.int .i64 (k13_1 : Int)))]
  obtain ⟨mf1, rfl⟩ : ∃ m, fu1 = m + 1 := ⟨fu1 - 1, by omega⟩
  rw [F_impl_readList_L1_s] at hL1
  have hws := splitAt_sz s 32 k13_1
  refine TC.seq ?_
  refine TC.region ?_
  refine TL.op (yq (y_lss (ev_t rfl) (ev_t rfl))) rfl rfl rfl ?_
  refine TL.nil ?_
  refine TN.seq ?_
  refine TC.seq ?_
  refine TC.cond (b := decide ((k13_1 : Int) < ((F_impl_splitAt s 32).length : Int))) (ev_t rfl) (fun h13 => ?_) (fun h13 => ?_)
  · rw [bif_pos h13] at hL1
    have q14 := (of_decide_eq_true h13)
    refine TC.skip ?_
    refine TN.seq ?_
    refine TC.seq ?_
    refine TC.block ?_
    refine TC.seq ?_
    refine TC.region ?_
    have hb15 : k13_1 < (F_impl_splitAt s 32).length := (by first | omega | (simp only [List.length_set, List.length_append, List.length_cons, List.length_nil, List.length_replicate]; omega) | (rw [sortI_length]; simp only [List.length_cons, List.length_nil]; omega) | (simp only [ByteArray.size_append]; omega))
    refine TL.op (yq (y_idx (k := k13_1) (ev_t rfl) (ev_t rfl) (by first | omega | simp) slT_41 (rd_row 0 rfl) hb15)) rfl rfl rfl ?_
    refine TL.op (yq (y_lds (ev_t rfl) one_9 (rd_row 0 rfl) hb15)) rfl rfl rfl ?_
    refine TL.op (yq (y_assign (ev_t rfl))) rfl rfl rfl ?_
    refine TL.nil ?_
    refine TN.seq ?_
    refine TC.seq ?_
    refine TC.region ?_
    refine TL.op (yq (y_move (ev_t rfl))) rfl rfl rfl ?_
    refine TL.op (y_call (vs := [(.string ((F_impl_splitAt s 32).getD k13_1 ByteArray.empty))]) (v := (.tuple #[(.int .i64 ((readDecF ((F_impl_splitAt s 32).getD k13_1 ByteArray.empty)).1)), (.bool ((readDecF ((F_impl_splitAt s 32).getD k13_1 ByteArray.empty)).2))])) en_40 ⟨(ev_t rfl), trivial⟩ (fun w hw => impl_readDec_ok w (hvars.below hw.1) ((F_impl_splitAt s 32).getD k13_1 ByteArray.empty) (by first | assumption | omega | grind))) rfl rfl rfl ?_
    refine TL.op (yq (y_move (ev_t rfl))) rfl rfl rfl ?_
    refine TL.op (yq (y_extract (ev_t rfl) rfl)) rfl rfl rfl ?_
    refine TL.op (yq (y_extract (ev_t rfl) rfl)) rfl rfl rfl ?_
    refine TL.op (yq (y_assign (ev_t rfl))) rfl rfl rfl ?_
    refine TL.op (yq (y_assign (ev_t rfl))) rfl rfl rfl ?_
    refine TL.nil ?_
    refine TN.seq ?_
    refine TC.seq ?_
    refine TC.seq ?_
    refine TC.region ?_
    refine TL.op (yq (y_move (ev_t rfl))) rfl rfl rfl ?_
    refine TL.op (yq (y_not (ev_t rfl))) rfl rfl rfl ?_
    refine TL.nil ?_
    refine TN.seq ?_
    refine TC.cond (b := !((readDecF ((F_impl_splitAt s 32).getD k13_1 ByteArray.empty)).2)) (ev_t rfl) (fun h16 => ?_) (fun h16 => ?_)
    · rw [bif_pos h16] at hL1
      have q17 := (not_t h16)
      refine TC.seq ?_
      refine TC.region ?_
      refine TL.op (yq (y_assign ev_c)) rfl rfl rfl ?_
      refine TL.op (yq (y_assign ev_c)) rfl rfl rfl ?_
      refine TL.nil ?_
      refine TN.seq ?_
      refine TC.ret ?_
      refine TN.thenR ?_
      refine TN.blockR ?_
      refine TN.thenR ?_
      refine TN.thenR ?_
      rw [← hL1, elim_ret] at hF
      refine TN.blockR ?_
      refine TN.thenR ?_
      subst hF
      refine TN.cls (fun w hw => hw.nil 3 1) ?_
      exact TN.ret2 rfl (ev_t rfl) (ev_t rfl) (fun w' hw => ⟨(.slice none 0 0), rfl, Hp.sublist hw (.cons_cons _ (.cons _ (.cons _ .slnil)))⟩)
    · rw [bif_neg h16] at hL1
      have q17 := (not_f h16)
      refine TC.skip ?_
      refine TN.seq ?_
      refine TC.region ?_
      refine TL.op (yq (y_move (ev_t rfl))) rfl rfl rfl ?_
      refine TL.op (yq (y_move (ev_t rfl))) rfl rfl rfl ?_
      refine TL.buildI (zs := [.tmp 25]) (qs := [(readDecF ((F_impl_splitAt s 32).getD k13_1 ByteArray.empty)).1]) slT_43 rfl ⟨(ev_t rfl), trivial⟩ rfl (by decide) rfl (fun v8_2 => ?_)
      refine TL.appendI 2 (ev_t rfl) (ev_t rfl) rfl slT_43 (ri_row 0 rfl) (by first | omega | (simp [-List.getD_eq_getElem?_getD] <;> omega)) rfl (fun v8_3 => ?_)
      refine TL.op (yq (y_assign (ev_t rfl))) rfl rfl rfl ?_
      refine TL.nil ?_
      refine TN.blockN ?_
      refine TN.seq ?_
      refine TC.region ?_
      refine TL.op (yq (y_add (ev_t rfl) ev_c (by unfold In64; constructor <;> omega))) rfl rfl rfl ?_
      refine TL.op (yq (y_move (ev_t rfl))) rfl rfl rfl ?_
      refine TL.nil ?_
      exact TN.hand (mf1, (out1 ++ ([(readDecF ((F_impl_splitAt s 32).getD k13_1 ByteArray.empty)).1])), (k13_1 + 1), v8_3) ⟨(by first | omega | (simp [-List.getD_eq_getElem?_getD] <;> omega)), (by first | omega | (simp [-List.getD_eq_getElem?_getD] <;> omega)), (by omega), hL1⟩ (Nat.lt_succ_self _) ⟨rfl, rfl, rfl, rfl, trivial⟩ (fun w hw => Hp.sublist hw (.cons _ (.cons_cons _ (.cons_cons _ .slnil))))
  · rw [bif_neg h13] at hL1
    have q14 := (of_decide_eq_false h13)
    refine TC.exit ?_
    refine TN.thenE ?_
    refine TN.thenE ?_
    rw [← hL1, elim_next] at hF
    try dsimp only at hF
    refine TN.blockH ?_
    refine TN.seq ?_
    refine TC.seq ?_
    refine TC.region ?_
    refine TL.op (yq (y_move (ev_t rfl))) rfl rfl rfl ?_
    refine TL.op (yq (y_assign (ev_t rfl))) rfl rfl rfl ?_
    refine TL.op (yq (y_assign ev_c)) rfl rfl rfl ?_
    refine TL.nil ?_
    refine TN.seq ?_
    refine TC.ret ?_
    subst hF
    exact TN.ret2 rfl (ev_t rfl) (ev_t rfl) (fun w' hw => ⟨vout1, rfl, Hp.sublist hw (.cons _ (.cons_cons _ .slnil))⟩)

set_option maxRecDepth 4000 in
set_option maxHeartbeats 1000000 in
theorem impl_ParseMetric_ok (w : World) (hvars : Vars w) (s : ByteArray) (hp0 : s.size ≤ 1048576) :
    Calls Tryd.prog 11 ([(.string s)] : List Value).toArray w (fun e w' => ∃ i : Value × List Value, e = .returned (.tuple #[(.agg #[i.1]), (.bool ((F_impl_ParseMetric s).2))]) ∧ Hp w [tabI 43 3 i.1 i.2 ((F_impl_ParseMetric s).1)] w') := by
  obtain ⟨rz, hF⟩ : ∃ rz, (F_impl_ParseMetric s) = rz := ⟨_, rfl⟩
  rw [hF]
  unfold F_impl_ParseMetric at hF
  have hz2 : (ByteArray.mk #[59, 32]).size = 2 := rfl
  have hsl := splitS_len s (ByteArray.mk #[59, 32]) (by omega)
  refine calls_tc Tryd.func11 rfl rfl rfl ?_
  change TC _ _ _ _ (Hp w []) [(0, (.string s))]
  refine TC.seq ?_
  refine TC.region ?_
  refine TL.alloc (u := (.agg #[(.slice none 0 0)])) (by kernel_rfl) rfl (fun g0_0 => ?_)
  refine TL.op (yq (y_assign ev_c)) rfl rfl rfl ?_
  refine TL.nil ?_
  refine TN.seq ?_
  refine TC.seq ?_
  refine TC.region ?_
  refine TL.op (yq (y_bld0 bd_28_0)) rfl rfl rfl ?_
  refine TL.alloc (u := (.agg #[(.slice none 0 0)])) (by kernel_rfl) rfl (fun g1_1 => ?_)
  refine TL.storeAgg (cs := [(.slice none 0 0)]) (us := [(.slice none 0 0)]) 0 (ev_t rfl) (ev_t rfl) agg_28 rfl rfl (fun w hw => (ocs_cons rfl ocs_nil)) ?_
  refine TL.nil ?_
  refine TN.seq ?_
  refine TC.seq ?_
  refine TC.seq ?_
  refine TC.region ?_
  refine TL.op (yq (y_move (ev_t rfl))) rfl rfl rfl ?_
  refine TL.callr (ι := Value) (vs := [(.string s), (.string (ByteArray.mk #[59, 32]))]) (fun i => i) (fun i => [rowS 9 i (splitS s (ByteArray.mk #[59, 32]))]) en_23 ⟨(ev_t rfl), ev_c, trivial⟩ rfl (fun w hw => strings_Split_ok w (hvars.below hw.1) s (ByteArray.mk #[59, 32]) (by first | assumption | omega | grind) (by first | assumption | omega | grind)) (fun r2_1 => ?_)
  refine TL.op (yq (y_len (ev_t rfl) Tryd.underlying41 (fun w hw => ((rd_row 0 rfl) w hw).ln))) rfl rfl rfl ?_
  refine TL.op (yq (y_move ev_c)) rfl rfl rfl ?_
  refine TL.nil ?_
  refine TN.seq ?_
  refine TC.block ?_
  refine TC.cls (fun w hw => hw.nilTab 43 3) ?_
  obtain ⟨c23, hc24⟩ : ∃ c, F_impl_ParseMetric_L1 s ((((splitS s (ByteArray.mk #[59, 32])).length) - 0) + 1) (0, ([])) = c := ⟨_, rfl⟩
  rw [hc24] at hF
  refine TC.loop (ι := Nat × Nat × List (List Int) × Value × List Value) (fun (fu1, k13_1, zg1_1_0_1, vzg1_1_0_1, uzg1_1_0_1) => [(0, (.string s)), (2, (.pointer (some ⟨g0_0, 0, none⟩))), (4, (.pointer (some ⟨g1_1, 0, none⟩))), (11, r2_1), (12, (.int .i64 ((splitS s (ByteArray.mk #[59, 32])).length : Int))), (13, (.int .i64 (k13_1 : Int)))]) (fun (fu1, k13_1, zg1_1_0_1, vzg1_1_0_1, uzg1_1_0_1) => Hp w [tabI 43 3 vzg1_1_0_1 uzg1_1_0_1 zg1_1_0_1, rowS 9 r2_1 (splitS s (ByteArray.mk #[59, 32])), .blk g1_1 28 [vzg1_1_0_1], .blk g0_0 28 [(.slice none 0 0)]]) (fun (fu1, k13_1, zg1_1_0_1, vzg1_1_0_1, uzg1_1_0_1) => (k13_1 ≤ ((splitS s (ByteArray.mk #[59, 32])).length)) ∧ (zg1_1_0_1.length ≤ k13_1) ∧ ((splitS s (ByteArray.mk #[59, 32])).length) - k13_1 < fu1 ∧ F_impl_ParseMetric_L1 s fu1 (k13_1, zg1_1_0_1) = c23) (fun (fu1, k13_1, zg1_1_0_1, vzg1_1_0_1, uzg1_1_0_1) => fu1) ((((splitS s (ByteArray.mk #[59, 32])).length) - 0) + 1, 0, [], (.slice none 0 0), []) ⟨(by first | omega | (simp [-List.getD_eq_getElem?_getD] <;> omega)), (by first | omega | (simp [-List.getD_eq_getElem?_getD] <;> omega)), (by omega), hc24⟩ ⟨rfl, rfl, rfl, rfl, rfl, rfl, trivial⟩ (fun w hw => hw) ?_
  rintro ⟨fu1, k13_1, zg1_1_0_1, vzg1_1_0_1, uzg1_1_0_1⟩ hJ1
  obtain ⟨hi1_0, hi1_1, hmu1, hL1⟩ : (k13_1 ≤ ((splitS s (ByteArray.mk #[59, 32])).length)) ∧ (zg1_1_0_1.length ≤ k13_1) ∧ ((splitS s (ByteArray.mk #[59, 32])).length) - k13_1 < fu1 ∧ F_impl_ParseMetric_L1 s fu1 (k13_1, zg1_1_0_1) = c23 := hJ1
  change TC _ _ _ _ (Hp w [tabI 43 3 vzg1_1_0_1 uzg1_1_0_1 zg1_1_0_1, rowS 9 r2_1 (splitS s (ByteArray.mk #[59, 32])), .blk g1_1 28 [vzg1_1_0_1], .blk g0_0 28 [(.slice none 0 0)]]) [(0, (.string s)), (2, (.pointer (some ⟨g0_0, 0, none⟩))), (4, (.pointer (some ⟨g1_1, 0, none⟩))), (11, r2_1), (12, (.int .i64 ((splitS s (ByteArray.mk #[59, 32])).length : Int))), (13, (.int .i64 (k13_1 : Int)))]
  obtain ⟨mf1, rfl⟩ : ∃ m, fu1 = m + 1 := ⟨fu1 - 1, by omega⟩
  rw [F_impl_ParseMetric_L1_s] at hL1
  have hws := splitS_sz s (ByteArray.mk #[59, 32]) k13_1
  refine TC.seq ?_
  refine TC.region ?_
  refine TL.op (yq (y_lss (ev_t rfl) (ev_t rfl))) rfl rfl rfl ?_
  refine TL.nil ?_
  refine TN.seq ?_
  refine TC.seq ?_
  refine TC.cond (b := decide ((k13_1 : Int) < ((splitS s (ByteArray.mk #[59, 32])).length : Int))) (ev_t rfl) (fun h25 => ?_) (fun h25 => ?_)
  · rw [bif_pos h25] at hL1
    have q26 := (of_decide_eq_true h25)
    refine TC.skip ?_
    refine TN.seq ?_
    refine TC.seq ?_
    refine TC.block ?_
    refine TC.seq ?_
    refine TC.region ?_
    have hb27 : k13_1 < (splitS s (ByteArray.mk #[59, 32])).length := (by first | omega | (simp only [List.length_set, List.length_append, List.length_cons, List.length_nil, List.length_replicate]; omega) | (rw [sortI_length]; simp only [List.length_cons, List.length_nil]; omega) | (simp only [ByteArray.size_append]; omega))
    refine TL.op (yq (y_idx (k := k13_1) (ev_t rfl) (ev_t rfl) (by first | omega | simp) slT_41 (rd_row 1 rfl) hb27)) rfl rfl rfl ?_
    refine TL.op (yq (y_lds (ev_t rfl) one_9 (rd_row 1 rfl) hb27)) rfl rfl rfl ?_
    refine TL.op (yq (y_assign (ev_t rfl))) rfl rfl rfl ?_
    refine TL.nil ?_
    refine TN.seq ?_
    refine TC.seq ?_
    refine TC.region ?_
    refine TL.op (yq (y_move (ev_t rfl))) rfl rfl rfl ?_
    refine TL.callr (ι := Value) (vs := [(.string ((splitS s (ByteArray.mk #[59, 32])).getD k13_1 ByteArray.empty))]) (fun i => (.tuple #[i, (.bool ((F_impl_readList ((splitS s (ByteArray.mk #[59, 32])).getD k13_1 ByteArray.empty)).2))])) (fun i => [rowI 3 i ((F_impl_readList ((splitS s (ByteArray.mk #[59, 32])).getD k13_1 ByteArray.empty)).1)]) en_24 ⟨(ev_t rfl), trivial⟩ rfl (fun w hw => impl_readList_ok w (hvars.below hw.1) ((splitS s (ByteArray.mk #[59, 32])).getD k13_1 ByteArray.empty) (by first | assumption | omega | grind)) (fun r5_1 => ?_)
    refine TL.op (yq (y_move (ev_t rfl))) rfl rfl rfl ?_
    refine TL.op (yq (y_extract (ev_t rfl) rfl)) rfl rfl rfl ?_
    refine TL.op (yq (y_extract (ev_t rfl) rfl)) rfl rfl rfl ?_
    refine TL.op (yq (y_assign (ev_t rfl))) rfl rfl rfl ?_
    refine TL.op (yq (y_assign (ev_t rfl))) rfl rfl rfl ?_
    refine TL.nil ?_
    refine TN.seq ?_
    refine TC.seq ?_
    refine TC.seq ?_
    refine TC.region ?_
    refine TL.op (yq (y_move (ev_t rfl))) rfl rfl rfl ?_
    refine TL.op (yq (y_not (ev_t rfl))) rfl rfl rfl ?_
    refine TL.nil ?_
    refine TN.seq ?_
    refine TC.cond (b := !((F_impl_readList ((splitS s (ByteArray.mk #[59, 32])).getD k13_1 ByteArray.empty)).2)) (ev_t rfl) (fun h28 => ?_) (fun h28 => ?_)
    · rw [bif_pos h28] at hL1
      have q29 := (not_t h28)
      refine TC.seq ?_
      refine TC.region ?_
      refine TL.op (yq (y_bld0 bd_28_0)) rfl rfl rfl ?_
      refine TL.storeAgg (cs := [(.slice none 0 0)]) (us := [(.slice none 0 0)]) 4 (ev_t rfl) (ev_t rfl) agg_28 rfl rfl (fun w hw => (ocs_cons rfl ocs_nil)) ?_
      refine TL.op (yq (y_assign ev_c)) rfl rfl rfl ?_
      refine TL.nil ?_
      refine TN.seq ?_
      refine TC.ret ?_
      refine TN.thenR ?_
      refine TN.blockR ?_
      refine TN.thenR ?_
      refine TN.thenR ?_
      rw [← hL1, elim_ret] at hF
      refine TN.blockR ?_
      refine TN.thenR ?_
      subst hF
      refine TN.cls (fun w hw => hw.nilTab 43 3) ?_
      exact TN.retCT (cs := [(.slice none 0 0)]) 5 (by simp) rfl (ev_t rfl) (ev_t rfl) agg_28 rfl (fun w' hw => ⟨((.slice none 0 0), []), rfl, Hp.sublist hw (.cons_cons _ (.cons _ (.cons _ (.cons _ (.cons _ (.cons _ .slnil))))))⟩)
    · rw [bif_neg h28] at hL1
      have q29 := (not_f h28)
      refine TC.skip ?_
      refine TN.seq ?_
      refine TC.region ?_
      refine TL.op (yq (y_fa (fa_28_0 g1_1) (ev_t rfl))) rfl rfl rfl ?_
      refine TL.op (yq (y_ldb 3 (ev_t rfl) one_22 rfl rfl)) rfl rfl rfl ?_
      refine TL.op (yq (y_move (ev_t rfl))) rfl rfl rfl ?_
      refine TL.buildU slT_22 (ev_t rfl) (fun w hw => ((ri_row 0 rfl) w hw).ln) rfl (fun v8_3 => ?_)
      refine TL.appendT 2 1 rfl (ev_t rfl) (ev_t rfl) rfl rfl slT_22 (rd_row 0 rfl) (by first | omega | (simp [-List.getD_eq_getElem?_getD] <;> omega)) rfl (fun v8_4 => ?_)
      refine TL.op (yq (y_fa (fa_28_0 g1_1) (ev_t rfl))) rfl rfl rfl ?_
      refine TL.storeB 4 (ev_t rfl) (ev_t rfl) one_22 rfl (by first | decide | simp) (fun w hw => (ln_one ((fun w hw => ((rii_tab 2 rfl) w hw).1) w hw).ln)) ?_
      refine TL.nil ?_
      refine TN.blockN ?_
      refine TN.seq ?_
      refine TC.region ?_
      refine TL.op (yq (y_add (ev_t rfl) ev_c (by unfold In64; constructor <;> omega))) rfl rfl rfl ?_
      refine TL.op (yq (y_move (ev_t rfl))) rfl rfl rfl ?_
      refine TL.nil ?_
      exact TN.hand (mf1, (k13_1 + 1), (zg1_1_0_1 ++ [(F_impl_readList ((splitS s (ByteArray.mk #[59, 32])).getD k13_1 ByteArray.empty)).1]), v8_4, (uzg1_1_0_1 ++ [r5_1])) ⟨(by first | omega | (simp [-List.getD_eq_getElem?_getD] <;> omega)), (by first | omega | (simp [-List.getD_eq_getElem?_getD] <;> omega)), (by omega), hL1⟩ (Nat.lt_succ_self _) ⟨rfl, rfl, rfl, rfl, rfl, rfl, trivial⟩ (fun w hw => Hp.sublist hw (.cons _ (.cons _ (.cons_cons _ (.cons_cons _ (.cons_cons _ (.cons_cons _ .slnil)))))))
  · rw [bif_neg h25] at hL1
    have q26 := (of_decide_eq_false h25)
    refine TC.exit ?_
    refine TN.thenE ?_
    refine TN.thenE ?_
    rw [← hL1, elim_next] at hF
    try dsimp only at hF
    refine TN.blockH ?_
    refine TN.seq ?_
    refine TC.seq ?_
    refine TC.seq ?_
    refine TC.region ?_
    refine TL.op (yq (y_ldagg (cs := [vzg1_1_0_1]) 2 (ev_t rfl) agg_28 rfl)) rfl rfl rfl ?_
    refine TL.op (y_call (vs := [(.agg #[vzg1_1_0_1])]) (v := (.bool (F_impl_IsMetric zg1_1_0_1))) en_18 ⟨(ev_t rfl), trivial⟩ (fun w hw => impl_IsMetric_ok w vzg1_1_0_1 uzg1_1_0_1 zg1_1_0_1 ((rii_tab 0 rfl) w hw))) rfl rfl rfl ?_
    refine TL.op (yq (y_not (ev_t rfl))) rfl rfl rfl ?_
    refine TL.op (yq (y_move (ev_t rfl))) rfl rfl rfl ?_
    refine TL.opw (w_f rfl rfl rfl) (fun hg => yq (y_ldagg (cs := [vzg1_1_0_1]) 2 (ev_t rfl) agg_28 rfl)) rfl rfl ?_
    refine TL.opw (w_f rfl rfl rfl) (fun hg => y_call (vs := [(.agg #[vzg1_1_0_1])]) (v := (.string (F_impl_metricText zg1_1_0_1))) en_19 ⟨(ev_g rfl hg), trivial⟩ (fun w hw => impl_metricText_ok w vzg1_1_0_1 uzg1_1_0_1 zg1_1_0_1 ((rii_tab 0 rfl) w hw) (by first | assumption | exact isMetric_p (not_t hg)))) rfl rfl ?_
    refine TL.opw (w_f rfl rfl rfl) (fun hg => yq (y_move (ev_t rfl))) rfl rfl ?_
    refine TL.opw (w_f rfl rfl rfl) (fun hg => yq (y_sneq (ev_g rfl hg) (ev_g rfl hg))) rfl rfl ?_
    refine TL.op (yq (y_or (ev_t rfl) (fun hq => (ev_g rfl hq)))) rfl rfl rfl ?_
    refine TL.nil ?_
    refine TN.seq ?_
    refine TC.cond (b := ((!(F_impl_IsMetric zg1_1_0_1)) || (!(((F_impl_metricText zg1_1_0_1)).toList == (s).toList)))) (ev_t rfl) (fun h31 => ?_) (fun h31 => ?_)
    · rw [bif_pos h31] at hF
      have q32 := ((or_t h31).imp (fun h => (not_t h)) (fun h => h))
      refine TC.seq ?_
      refine TC.region ?_
      refine TL.op (yq (y_bld0 bd_28_0)) rfl rfl rfl ?_
      refine TL.storeAgg (cs := [(.slice none 0 0)]) (us := [(.slice none 0 0)]) 3 (ev_t rfl) (ev_t rfl) agg_28 rfl rfl (fun w hw => (ocs_cons rfl ocs_nil)) ?_
      refine TL.op (yq (y_assign ev_c)) rfl rfl rfl ?_
      refine TL.nil ?_
      refine TN.seq ?_
      refine TC.ret ?_
      refine TN.thenR ?_
      subst hF
      refine TN.cls (fun w hw => hw.nilTab 43 3) ?_
      exact TN.retCT (cs := [(.slice none 0 0)]) 4 (by simp) rfl (ev_t rfl) (ev_t rfl) agg_28 rfl (fun w' hw => ⟨((.slice none 0 0), []), rfl, Hp.sublist hw (.cons_cons _ (.cons _ (.cons _ (.cons _ (.cons _ .slnil)))))⟩)
    · rw [bif_neg h31] at hF
      have q32 := (and_imp (or_f h31) (fun h => (isMetric_t (not_f h))) (fun h => h))
      refine TC.skip ?_
      refine TN.seq ?_
      refine TC.seq ?_
      refine TC.region ?_
      refine TL.op (yq (y_ldagg (cs := [vzg1_1_0_1]) 2 (ev_t rfl) agg_28 rfl)) rfl rfl rfl ?_
      refine TL.storeAgg (cs := [(.slice none 0 0)]) (us := [vzg1_1_0_1]) 3 (ev_t rfl) (ev_t rfl) agg_28 rfl rfl (fun w hw => (ocs_cons (ln_one ((fun w hw => ((rii_tab 0 rfl) w hw).1) w hw).ln) ocs_nil)) ?_
      refine TL.op (yq (y_assign ev_c)) rfl rfl rfl ?_
      refine TL.nil ?_
      refine TN.seq ?_
      refine TC.ret ?_
      subst hF
      exact TN.retCT (cs := [vzg1_1_0_1]) 3 (by simp) rfl (ev_t rfl) (ev_t rfl) agg_28 rfl (fun w' hw => ⟨(vzg1_1_0_1, uzg1_1_0_1), rfl, Hp.sublist hw (.cons_cons _ (.cons _ (.cons _ (.cons _ .slnil))))⟩)


end Go.Proofs.YtcmhgkcifejgcaaDoor
namespace Go.Proofs.YtcmhgkcifejgcaaDoor
set_option linter.unusedVariables false
set_option linter.unusedSimpArgs false
open Go Go.RowKit
set_option linter.unusedVariables false

set_option maxRecDepth 4000 in
set_option maxHeartbeats 1000000 in
theorem spec_l1Split_ok (w : World) (s : ByteArray) (b : Int) (hp0 : s.size ≤ 1048576) :
    Calls Tryd.prog 21 ([(.string s), (.int .u8 b)] : List Value).toArray w (fun e w' => ∃ i : Value, e = .returned i ∧ Hp w [rowS 9 i (F_spec_l1Split s b)] w') := by
  obtain ⟨rz, hF⟩ : ∃ rz, (F_spec_l1Split s b) = rz := ⟨_, rfl⟩
  rw [hF]
  unfold F_spec_l1Split at hF
  refine calls_tc Tryd.func21 rfl rfl rfl ?_
  change TC _ _ _ _ (Hp w []) [(0, (.string s)), (1, (.int .u8 b))]
  refine TC.seq ?_
  refine TC.region ?_
  refine TL.op (yq (y_assign ev_c)) rfl rfl rfl ?_
  refine TL.nil ?_
  refine TN.seq ?_
  refine TC.seq ?_
  refine TC.region ?_
  refine TL.buildS (zs := []) (qs := []) slT_41 rfl trivial rfl (by decide) rfl (fun v1_0 => ?_)
  refine TL.op (yq (y_assign (ev_t rfl))) rfl rfl rfl ?_
  refine TL.nil ?_
  refine TN.seq ?_
  refine TC.seq ?_
  refine TC.region ?_
  refine TL.op (yq (y_assign ev_c)) rfl rfl rfl ?_
  refine TL.nil ?_
  refine TN.seq ?_
  refine TC.seq ?_
  refine TC.seq ?_
  refine TC.region ?_
  refine TL.op (yq (y_assign ev_c)) rfl rfl rfl ?_
  refine TL.nil ?_
  refine TN.seq ?_
  refine TC.block ?_
  obtain ⟨c13, hc14⟩ : ∃ c, F_spec_l1Split_L1 s b ((s.size - 0) + 1) (([] : List ByteArray), 0, 0) = c := ⟨_, rfl⟩
  rw [hc14] at hF
  refine TC.loop (ι := Nat × List ByteArray × Nat × Nat × Value) (fun (fu1, out1, from1, i1, vout1) => [(0, (.string s)), (1, (.int .u8 b)), (5, vout1), (6, (.int .i64 (from1 : Int))), (7, (.int .i64 (i1 : Int)))]) (fun (fu1, out1, from1, i1, vout1) => Hp w [rowS 9 vout1 out1]) (fun (fu1, out1, from1, i1, vout1) => (i1 ≤ s.size) ∧ (out1.length ≤ i1) ∧ (from1 ≤ i1) ∧ s.size - i1 < fu1 ∧ F_spec_l1Split_L1 s b fu1 (out1, from1, i1) = c13) (fun (fu1, out1, from1, i1, vout1) => fu1) ((s.size - 0) + 1, ([] : List ByteArray), 0, 0, v1_0) ⟨(by first | omega | (simp [-List.getD_eq_getElem?_getD] <;> omega)), (by first | omega | (simp [-List.getD_eq_getElem?_getD] <;> omega)), (by first | omega | (simp [-List.getD_eq_getElem?_getD] <;> omega)), (by omega), hc14⟩ ⟨rfl, rfl, rfl, rfl, rfl, trivial⟩ (fun w hw => hw) ?_
  rintro ⟨fu1, out1, from1, i1, vout1⟩ hJ1
  obtain ⟨hi1_0, hi1_1, hi1_2, hmu1, hL1⟩ : (i1 ≤ s.size) ∧ (out1.length ≤ i1) ∧ (from1 ≤ i1) ∧ s.size - i1 < fu1 ∧ F_spec_l1Split_L1 s b fu1 (out1, from1, i1) = c13 := hJ1
  change TC _ _ _ _ (Hp w [rowS 9 vout1 out1]) [(0, (.string s)), (1, (.int .u8 b)), (5, vout1), (6, (.int .i64 (from1 : Int))), (7, (.int .i64 (i1 : Int)))]
  obtain ⟨mf1, rfl⟩ : ∃ m, fu1 = m + 1 := ⟨fu1 - 1, by omega⟩
  rw [F_spec_l1Split_L1_s] at hL1
  refine TC.seq ?_
  refine TC.seq ?_
  refine TC.region ?_
  refine TL.op (yq (y_move (ev_t rfl))) rfl rfl rfl ?_
  refine TL.op (yq (y_move (ev_t rfl))) rfl rfl rfl ?_
  refine TL.op (yq (y_slen (ev_t rfl) Tryd.underlying9)) rfl rfl rfl ?_
  refine TL.op (yq (y_lss (ev_t rfl) (ev_t rfl))) rfl rfl rfl ?_
  refine TL.nil ?_
  refine TN.seq ?_
  refine TC.cond (b := decide ((i1 : Int) < (s.size : Int))) (ev_t rfl) (fun h15 => ?_) (fun h15 => ?_)
  · rw [bif_pos h15] at hL1
    have q16 := (of_decide_eq_true h15)
    refine TC.skip ?_
    refine TN.seq ?_
    refine TC.seq ?_
    refine TC.block ?_
    refine TC.seq ?_
    refine TC.region ?_
    refine TL.op (yq (y_move (ev_t rfl))) rfl rfl rfl ?_
    refine TL.op (yq (y_move (ev_t rfl))) rfl rfl rfl ?_
    have hb17 : i1 < s.size := (by first | omega | (simp only [List.length_set, List.length_append, List.length_cons, List.length_nil, List.length_replicate]; omega) | (rw [sortI_length]; simp only [List.length_cons, List.length_nil]; omega) | (simp only [ByteArray.size_append]; omega))
    have hu18 := sAt_bd s i1
    refine TL.op (yq (y_sidx (k := i1) (ev_t rfl) (ev_t rfl) (by first | omega | simp) Tryd.underlying9 hb17)) rfl rfl rfl ?_
    refine TL.op (yq (y_move (ev_t rfl))) rfl rfl rfl ?_
    refine TL.op (yq (y_eql (ev_t rfl) (ev_t rfl))) rfl rfl rfl ?_
    refine TL.nil ?_
    refine TN.seq ?_
    refine TC.cond (b := decide ((sAt s i1) = b)) (ev_t rfl) (fun h19 => ?_) (fun h19 => ?_)
    · rw [bif_pos h19] at hL1
      have q20 := (of_decide_eq_true h19)
      refine TC.seq ?_
      refine TC.region ?_
      refine TL.op (yq (y_move (ev_t rfl))) rfl rfl rfl ?_
      refine TL.op (yq (y_move (ev_t rfl))) rfl rfl rfl ?_
      refine TL.op (yq (y_move (ev_t rfl))) rfl rfl rfl ?_
      refine TL.op (yq (y_move (ev_t rfl))) rfl rfl rfl ?_
      refine TL.op (yq (y_sslice (ev_t rfl) (ev_t rfl) (ev_t rfl) (lo := from1) (by omega) (hi := i1) (by omega) Tryd.underlying9 (by first | omega | (simp only [List.length_set, List.length_append, List.length_cons, List.length_nil, List.length_replicate]; omega) | (rw [sortI_length]; simp only [List.length_cons, List.length_nil]; omega) | (simp only [ByteArray.size_append]; omega)) (by first | omega | (simp only [List.length_set, List.length_append, List.length_cons, List.length_nil, List.length_replicate]; omega) | (rw [sortI_length]; simp only [List.length_cons, List.length_nil]; omega) | (simp only [ByteArray.size_append]; omega)))) rfl rfl rfl ?_
      refine TL.buildS (zs := [.tmp 24]) (qs := [(s.extract from1 i1)]) slT_41 rfl ⟨(ev_t rfl), trivial⟩ rfl (by decide) rfl (fun v7_5 => ?_)
      refine TL.appendS 1 (ev_t rfl) (ev_t rfl) rfl slT_41 (rd_row 0 rfl) (by first | omega | (simp [-List.getD_eq_getElem?_getD] <;> omega)) rfl (fun v7_6 => ?_)
      refine TL.op (yq (y_assign (ev_t rfl))) rfl rfl rfl ?_
      refine TL.nil ?_
      refine TN.seq ?_
      refine TC.region ?_
      refine TL.op (yq (y_move (ev_t rfl))) rfl rfl rfl ?_
      refine TL.op (yq (y_add (ev_t rfl) ev_c (by unfold In64; constructor <;> omega))) rfl rfl rfl ?_
      refine TL.op (yq (y_assign (ev_t rfl))) rfl rfl rfl ?_
      refine TL.nil ?_
      refine TN.blockN ?_
      refine TN.seq ?_
      refine TC.region ?_
      refine TL.op (yq (y_move (ev_t rfl))) rfl rfl rfl ?_
      refine TL.op (yq (y_add (ev_t rfl) ev_c (by unfold In64; constructor <;> omega))) rfl rfl rfl ?_
      refine TL.op (yq (y_assign (ev_t rfl))) rfl rfl rfl ?_
      refine TL.nil ?_
      exact TN.hand (mf1, (out1 ++ ([(s.extract from1 i1)])), (i1 + 1), (i1 + 1), v7_6) ⟨(by first | omega | (simp [-List.getD_eq_getElem?_getD] <;> omega)), (by first | omega | (simp [-List.getD_eq_getElem?_getD] <;> omega)), (by first | omega | (simp [-List.getD_eq_getElem?_getD] <;> omega)), (by omega), hL1⟩ (Nat.lt_succ_self _) ⟨rfl, rfl, rfl, rfl, rfl, trivial⟩ (fun w hw => Hp.sublist hw (.cons _ (.cons_cons _ .slnil)))
    · rw [bif_neg h19] at hL1
      have q20 := (of_decide_eq_false h19)
      refine TC.skip ?_
      refine TN.blockN ?_
      refine TN.seq ?_
      refine TC.region ?_
      refine TL.op (yq (y_move (ev_t rfl))) rfl rfl rfl ?_
      refine TL.op (yq (y_add (ev_t rfl) ev_c (by unfold In64; constructor <;> omega))) rfl rfl rfl ?_
      refine TL.op (yq (y_assign (ev_t rfl))) rfl rfl rfl ?_
      refine TL.nil ?_
      exact TN.hand (mf1, out1, from1, (i1 + 1), vout1) ⟨(by first | omega | (simp [-List.getD_eq_getElem?_getD] <;> omega)), (by first | omega | (simp [-List.getD_eq_getElem?_getD] <;> omega)), (by first | omega | (simp [-List.getD_eq_getElem?_getD] <;> omega)), (by omega), hL1⟩ (Nat.lt_succ_self _) ⟨rfl, rfl, rfl, rfl, rfl, trivial⟩ (fun w hw => hw)
  · rw [bif_neg h15] at hL1
    have q16 := (of_decide_eq_false h15)
    refine TC.exit ?_
    refine TN.thenE ?_
    refine TN.thenE ?_
    rw [← hL1, elim_next] at hF
    try dsimp only at hF
    refine TN.blockH ?_
    refine TN.seq ?_
    refine TC.seq ?_
    refine TC.region ?_
    refine TL.op (yq (y_move (ev_t rfl))) rfl rfl rfl ?_
    refine TL.op (yq (y_move (ev_t rfl))) rfl rfl rfl ?_
    refine TL.op (yq (y_move (ev_t rfl))) rfl rfl rfl ?_
    refine TL.op (yq (y_sslice_lo (ev_t rfl) (ev_t rfl) (lo := from1) (by omega) Tryd.underlying9 (by first | omega | (simp only [List.length_set, List.length_append, List.length_cons, List.length_nil, List.length_replicate]; omega) | (rw [sortI_length]; simp only [List.length_cons, List.length_nil]; omega) | (simp only [ByteArray.size_append]; omega)))) rfl rfl rfl ?_
    refine TL.buildS (zs := [.tmp 32]) (qs := [(s.extract from1 s.size)]) slT_41 rfl ⟨(ev_t rfl), trivial⟩ rfl (by decide) rfl (fun v9_4 => ?_)
    refine TL.appendS 1 (ev_t rfl) (ev_t rfl) rfl slT_41 (rd_row 0 rfl) (by first | omega | (simp [-List.getD_eq_getElem?_getD] <;> omega)) rfl (fun v9_5 => ?_)
    refine TL.op (yq (y_assign (ev_t rfl))) rfl rfl rfl ?_
    refine TL.nil ?_
    refine TN.seq ?_
    refine TC.ret ?_
    subst hF
    exact TN.ret1 rfl (ev_t rfl) (fun w' hw => ⟨v9_5, rfl, Hp.sublist hw (.cons _ (.cons_cons _ .slnil))⟩)

set_option maxRecDepth 4000 in
set_option maxHeartbeats 1000000 in
theorem spec_l1Read_ok (w : World) (s : ByteArray) (hp0 : s.size ≤ 1048576) :
    Calls Tryd.prog 22 ([(.string s)] : List Value).toArray w (Ret (.tuple #[(.int .i64 ((F_spec_l1Read s).1)), (.bool ((F_spec_l1Read s).2))]) (Hp w [])) := by
  obtain ⟨rz, hF⟩ : ∃ rz, (F_spec_l1Read s) = rz := ⟨_, rfl⟩
  rw [hF]
  unfold F_spec_l1Read at hF
  refine calls_tc Tryd.func22 rfl rfl rfl ?_
  change TC _ _ _ _ (Hp w []) [(0, (.string s))]
  refine TC.seq ?_
  refine TC.region ?_
  refine TL.op (yq (y_assign ev_c)) rfl rfl rfl ?_
  refine TL.op (yq (y_assign ev_c)) rfl rfl rfl ?_
  refine TL.nil ?_
  refine TN.seq ?_
  refine TC.seq ?_
  refine TC.region ?_
  refine TL.op (yq (y_move (ev_t rfl))) rfl rfl rfl ?_
  refine TL.op (yq (y_assign (ev_t rfl))) rfl rfl rfl ?_
  refine TL.nil ?_
  refine TN.seq ?_
  obtain ⟨c45, hcj2⟩ : ∃ c, ((bif ((decide (1 < (s.size : Int))) && (decide ((sAt s 0) = 45))) then (Ctl.next (s.extract 1 s.size)) else (Ctl.next s)) : Ctl (ByteArray) (Int × Bool)) = c := ⟨_, rfl⟩
  rw [hcj2] at hF
  refine TC.cut (fun a' w' => ∃ tj2 : ByteArray, Slots 58 [(0, (.string s)), (4, (.string tj2))] a' ∧ Hp w [] w' ∧ (Ctl.next tj2 : Ctl (ByteArray) (Int × Bool)) = c45) ?_ ?_
  · refine TC.seq ?_
    refine TC.region ?_
    refine TL.op (yq (y_move (ev_t rfl))) rfl rfl rfl ?_
    refine TL.op (yq (y_slen (ev_t rfl) Tryd.underlying9)) rfl rfl rfl ?_
    refine TL.op (yq (y_gtr (ev_t rfl) ev_c)) rfl rfl rfl ?_
    refine TL.op (yq (y_move (ev_t rfl))) rfl rfl rfl ?_
    refine TL.opw (w_t rfl rfl rfl) (fun hg => yq (y_move (ev_t rfl))) rfl rfl ?_
    refine TL.opw (w_t rfl rfl rfl) (fun hg => yq (y_sidx (k := 0) (ev_g rfl hg) ev_c (by first | omega | simp) Tryd.underlying9 (show 0 < s.size by have hgf := (of_decide_eq_true hg); omega))) rfl rfl ?_
    refine TL.opw (w_t rfl rfl rfl) (fun hg => yq (y_eql (ev_g rfl hg) ev_c)) rfl rfl ?_
    refine TL.op (yq (y_and (ev_t rfl) (fun hq => (ev_g rfl hq)))) rfl rfl rfl ?_
    refine TL.nil ?_
    refine TN.seq ?_
    refine TC.cond (b := ((decide (1 < (s.size : Int))) && (decide ((sAt s 0) = 45)))) (ev_t rfl) (fun h47 => ?_) (fun h47 => ?_)
    · rw [bif_pos h47] at hcj2
      have q48 := (and_imp (and_t h47) (fun h => (of_decide_eq_true h)) (fun h => (of_decide_eq_true h)))
      refine TC.region ?_
      refine TL.op (yq (y_move (ev_t rfl))) rfl rfl rfl ?_
      refine TL.op (yq (y_sslice_lo (ev_t rfl) ev_c (lo := 1) (by omega) Tryd.underlying9 (by first | omega | (simp only [List.length_set, List.length_append, List.length_cons, List.length_nil, List.length_replicate]; omega) | (rw [sortI_length]; simp only [List.length_cons, List.length_nil]; omega) | (simp only [ByteArray.size_append]; omega)))) rfl rfl rfl ?_
      refine TL.op (yq (y_assign (ev_t rfl))) rfl rfl rfl ?_
      refine TL.nil ?_
      exact fun a' w' hs hw => ⟨(s.extract 1 s.size), hs.sub ⟨rfl, rfl, trivial⟩, hw, hcj2⟩
    · rw [bif_neg h47] at hcj2
      have q48 := ((and_f h47).imp (fun h => (of_decide_eq_false h)) (fun h => (of_decide_eq_false h)))
      refine TC.skip ?_
      exact fun a' w' hs hw => ⟨s, hs.sub ⟨rfl, rfl, trivial⟩, hw, hcj2⟩
  · rintro a' w' ⟨tj2, hs', hw', hdj2⟩
    rw [← hdj2, elim_next] at hF
    try dsimp only at hF
    refine (?_ : TC _ _ _ 58 (Hp w []) [(0, (.string s)), (4, (.string tj2))]) a' w' hs' hw'
    clear hs' hw' hcj2
    refine TC.seq ?_
    refine TC.seq ?_
    refine TC.region ?_
    refine TL.op (yq (y_move (ev_t rfl))) rfl rfl rfl ?_
    refine TL.op (yq (y_slen (ev_t rfl) Tryd.underlying9)) rfl rfl rfl ?_
    refine TL.op (y_call (vs := [(.int .i64 (tj2.size : Int)), (.int .i64 1), (.int .i64 6)]) (v := (.bool ((decide (1 ≤ (tj2.size : Int))) && (decide ((tj2.size : Int) ≤ 6))))) en_37 ⟨(ev_t rfl), ev_c, ev_c, trivial⟩ (fun w hw => spec_l1In_ok w (tj2.size : Int) 1 6)) rfl rfl rfl ?_
    refine TL.op (yq (y_not (ev_t rfl))) rfl rfl rfl ?_
    refine TL.nil ?_
    refine TN.seq ?_
    refine TC.cond (b := !((decide (1 ≤ (tj2.size : Int))) && (decide ((tj2.size : Int) ≤ 6)))) (ev_t rfl) (fun h49 => ?_) (fun h49 => ?_)
    · rw [bif_pos h49] at hF
      have q50 := ((and_f (not_t h49)).imp (fun h => (of_decide_eq_false h)) (fun h => (of_decide_eq_false h)))
      refine TC.seq ?_
      refine TC.region ?_
      refine TL.op (yq (y_assign ev_c)) rfl rfl rfl ?_
      refine TL.op (yq (y_assign ev_c)) rfl rfl rfl ?_
      refine TL.nil ?_
      refine TN.seq ?_
      refine TC.ret ?_
      refine TN.thenR ?_
      subst hF
      exact TN.ret2 rfl (ev_t rfl) (ev_t rfl) (fun w' hw => ⟨rfl, hw⟩)
    · rw [bif_neg h49] at hF
      have q50 := (and_imp (and_t (not_f h49)) (fun h => (of_decide_eq_true h)) (fun h => (of_decide_eq_true h)))
      refine TC.skip ?_
      refine TN.seq ?_
      refine TC.seq ?_
      refine TC.region ?_
      refine TL.op (yq (y_assign ev_c)) rfl rfl rfl ?_
      refine TL.nil ?_
      refine TN.seq ?_
      refine TC.seq ?_
      refine TC.seq ?_
      refine TC.region ?_
      refine TL.op (yq (y_assign ev_c)) rfl rfl rfl ?_
      refine TL.nil ?_
      refine TN.seq ?_
      refine TC.block ?_
      obtain ⟨c51, hc52⟩ : ∃ c, F_spec_l1Read_L1 tj2 ((tj2.size - 0) + 1) (0, 0) = c := ⟨_, rfl⟩
      rw [hc52] at hF
      refine TC.loop (ι := Nat × Int × Nat) (fun (fu1, n1, i1) => [(0, (.string s)), (4, (.string tj2)), (5, (.int .i64 n1)), (6, (.int .i64 (i1 : Int)))]) (fun (fu1, n1, i1) => Hp w []) (fun (fu1, n1, i1) => (i1 ≤ tj2.size) ∧ (0 ≤ n1) ∧ (n1 < p10 i1) ∧ tj2.size - i1 < fu1 ∧ F_spec_l1Read_L1 tj2 fu1 (n1, i1) = c51) (fun (fu1, n1, i1) => fu1) ((tj2.size - 0) + 1, 0, 0) ⟨(by first | omega | (simp [-List.getD_eq_getElem?_getD] <;> omega)), (by first | omega | (simp [-List.getD_eq_getElem?_getD] <;> omega)), (by decide), (by omega), hc52⟩ ⟨rfl, rfl, rfl, rfl, trivial⟩ (fun w hw => hw) ?_
      rintro ⟨fu1, n1, i1⟩ hJ1
      obtain ⟨hi1_0, hi1_1, hi1_2, hmu1, hL1⟩ : (i1 ≤ tj2.size) ∧ (0 ≤ n1) ∧ (n1 < p10 i1) ∧ tj2.size - i1 < fu1 ∧ F_spec_l1Read_L1 tj2 fu1 (n1, i1) = c51 := hJ1
      change TC _ _ _ _ (Hp w []) [(0, (.string s)), (4, (.string tj2)), (5, (.int .i64 n1)), (6, (.int .i64 (i1 : Int)))]
      obtain ⟨mf1, rfl⟩ : ∃ m, fu1 = m + 1 := ⟨fu1 - 1, by omega⟩
      rw [F_spec_l1Read_L1_s] at hL1
      have hp10 := p10_s i1
      have hp1b := p10_le i1
      refine TC.seq ?_
      refine TC.seq ?_
      refine TC.region ?_
      refine TL.op (yq (y_move (ev_t rfl))) rfl rfl rfl ?_
      refine TL.op (yq (y_move (ev_t rfl))) rfl rfl rfl ?_
      refine TL.op (yq (y_slen (ev_t rfl) Tryd.underlying9)) rfl rfl rfl ?_
      refine TL.op (yq (y_lss (ev_t rfl) (ev_t rfl))) rfl rfl rfl ?_
      refine TL.nil ?_
      refine TN.seq ?_
      refine TC.cond (b := decide ((i1 : Int) < (tj2.size : Int))) (ev_t rfl) (fun h53 => ?_) (fun h53 => ?_)
      · rw [bif_pos h53] at hL1
        have q54 := (of_decide_eq_true h53)
        refine TC.skip ?_
        refine TN.seq ?_
        refine TC.seq ?_
        refine TC.block ?_
        refine TC.seq ?_
        refine TC.seq ?_
        refine TC.region ?_
        refine TL.op (yq (y_move (ev_t rfl))) rfl rfl rfl ?_
        refine TL.op (yq (y_move (ev_t rfl))) rfl rfl rfl ?_
        have hb55 : i1 < tj2.size := (by first | omega | (simp only [List.length_set, List.length_append, List.length_cons, List.length_nil, List.length_replicate]; omega) | (rw [sortI_length]; simp only [List.length_cons, List.length_nil]; omega) | (simp only [ByteArray.size_append]; omega))
        have hu56 := sAt_bd tj2 i1
        refine TL.op (yq (y_sidx (k := i1) (ev_t rfl) (ev_t rfl) (by first | omega | simp) Tryd.underlying9 hb55)) rfl rfl rfl ?_
        refine TL.op (yq (y_lss (ev_t rfl) ev_c)) rfl rfl rfl ?_
        refine TL.op (yq (y_move (ev_t rfl))) rfl rfl rfl ?_
        refine TL.opw (w_f rfl rfl rfl) (fun hg => yq (y_move (ev_t rfl))) rfl rfl ?_
        refine TL.opw (w_f rfl rfl rfl) (fun hg => yq (y_move (ev_t rfl))) rfl rfl ?_
        refine TL.opw (w_f rfl rfl rfl) (fun hg => yq (y_sidx (k := i1) (ev_g rfl hg) (ev_g rfl hg) (by first | omega | simp) Tryd.underlying9 (show i1 < tj2.size by have hgf := (of_decide_eq_false (not_t hg)); omega))) rfl rfl ?_
        refine TL.opw (w_f rfl rfl rfl) (fun hg => yq (y_gtr (ev_g rfl hg) ev_c)) rfl rfl ?_
        refine TL.op (yq (y_or (ev_t rfl) (fun hq => (ev_g rfl hq)))) rfl rfl rfl ?_
        refine TL.nil ?_
        refine TN.seq ?_
        refine TC.cond (b := ((decide ((sAt tj2 i1) < 48)) || (decide (57 < (sAt tj2 i1))))) (ev_t rfl) (fun h58 => ?_) (fun h58 => ?_)
        · rw [bif_pos h58] at hL1
          have q59 := ((or_t h58).imp (fun h => (of_decide_eq_true h)) (fun h => (of_decide_eq_true h)))
          refine TC.seq ?_
          refine TC.region ?_
          refine TL.op (yq (y_assign ev_c)) rfl rfl rfl ?_
          refine TL.op (yq (y_assign ev_c)) rfl rfl rfl ?_
          refine TL.nil ?_
          refine TN.seq ?_
          refine TC.ret ?_
          refine TN.thenR ?_
          refine TN.blockR ?_
          refine TN.thenR ?_
          refine TN.thenR ?_
          rw [← hL1, elim_ret] at hF
          refine TN.blockR ?_
          refine TN.thenR ?_
          subst hF
          exact TN.ret2 rfl (ev_t rfl) (ev_t rfl) (fun w' hw => ⟨rfl, hw⟩)
        · rw [bif_neg h58] at hL1
          have q59 := (and_imp (or_f h58) (fun h => (of_decide_eq_false h)) (fun h => (of_decide_eq_false h)))
          refine TC.skip ?_
          refine TN.seq ?_
          refine TC.region ?_
          refine TL.op (yq (y_move (ev_t rfl))) rfl rfl rfl ?_
          refine TL.op (yq (y_mul ev_c (ev_t rfl) (by unfold In64; constructor <;> omega))) rfl rfl rfl ?_
          refine TL.op (yq (y_move (ev_t rfl))) rfl rfl rfl ?_
          refine TL.op (yq (y_move (ev_t rfl))) rfl rfl rfl ?_
          have hb60 : i1 < tj2.size := (by first | omega | (simp only [List.length_set, List.length_append, List.length_cons, List.length_nil, List.length_replicate]; omega) | (rw [sortI_length]; simp only [List.length_cons, List.length_nil]; omega) | (simp only [ByteArray.size_append]; omega))
          have hu61 := sAt_bd tj2 i1
          refine TL.op (yq (y_sidx (k := i1) (ev_t rfl) (ev_t rfl) (by first | omega | simp) Tryd.underlying9 hb60)) rfl rfl rfl ?_
          refine TL.op (yq (y_sub8 (ev_t rfl) ev_c (by omega))) rfl rfl rfl ?_
          refine TL.op (yq (y_conv_i64 (ev_t rfl) Tryd.underlying5 Tryd.underlying3 (by first | omega | (simp only [List.length_set, List.length_append, List.length_cons, List.length_nil, List.length_replicate]; omega) | (rw [sortI_length]; simp only [List.length_cons, List.length_nil]; omega) | (simp only [ByteArray.size_append]; omega)))) rfl rfl rfl ?_
          refine TL.op (yq (y_add (ev_t rfl) (ev_t rfl) (by unfold In64; constructor <;> omega))) rfl rfl rfl ?_
          refine TL.op (yq (y_assign (ev_t rfl))) rfl rfl rfl ?_
          refine TL.nil ?_
          refine TN.blockN ?_
          refine TN.seq ?_
          refine TC.region ?_
          refine TL.op (yq (y_move (ev_t rfl))) rfl rfl rfl ?_
          refine TL.op (yq (y_add (ev_t rfl) ev_c (by unfold In64; constructor <;> omega))) rfl rfl rfl ?_
          refine TL.op (yq (y_assign (ev_t rfl))) rfl rfl rfl ?_
          refine TL.nil ?_
          exact TN.hand (mf1, (10 * n1) + ((sAt tj2 i1) - 48), (i1 + 1)) ⟨(by first | omega | (simp [-List.getD_eq_getElem?_getD] <;> omega)), (by first | omega | (simp [-List.getD_eq_getElem?_getD] <;> omega)), (by first | omega | (simp [-List.getD_eq_getElem?_getD] <;> omega)), (by omega), hL1⟩ (Nat.lt_succ_self _) ⟨rfl, rfl, rfl, rfl, trivial⟩ (fun w hw => hw)
      · rw [bif_neg h53] at hL1
        have q54 := (of_decide_eq_false h53)
        refine TC.exit ?_
        refine TN.thenE ?_
        refine TN.thenE ?_
        rw [← hL1, elim_next] at hF
        try dsimp only at hF
        refine TN.blockH ?_
        refine TN.seq ?_
        refine TC.seq ?_
        refine TC.seq ?_
        refine TC.region ?_
        refine TL.op (yq (y_move (ev_t rfl))) rfl rfl rfl ?_
        refine TL.op (yq (y_slen (ev_t rfl) Tryd.underlying9)) rfl rfl rfl ?_
        refine TL.op (yq (y_move (ev_t rfl))) rfl rfl rfl ?_
        refine TL.op (yq (y_slen (ev_t rfl) Tryd.underlying9)) rfl rfl rfl ?_
        refine TL.op (yq (y_lss (ev_t rfl) (ev_t rfl))) rfl rfl rfl ?_
        refine TL.nil ?_
        refine TN.seq ?_
        refine TC.cond (b := decide ((tj2.size : Int) < (s.size : Int))) (ev_t rfl) (fun h62 => ?_) (fun h62 => ?_)
        · rw [bif_pos h62] at hF
          have q63 := (of_decide_eq_true h62)
          refine TC.region ?_
          refine TL.op (yq (y_move (ev_t rfl))) rfl rfl rfl ?_
          refine TL.op (yq (y_neg (ev_t rfl) (by unfold In64; constructor <;> omega))) rfl rfl rfl ?_
          refine TL.op (yq (y_assign (ev_t rfl))) rfl rfl rfl ?_
          refine TL.nil ?_
          refine TN.seq ?_
          refine TC.seq ?_
          refine TC.seq ?_
          refine TC.region ?_
          refine TL.op (yq (y_move (ev_t rfl))) rfl rfl rfl ?_
          refine TL.op (y_call (vs := [(.int .i64 (-n1))]) (v := (.string (F_spec_l1Num (-n1)))) en_30 ⟨(ev_t rfl), trivial⟩ (fun w hw => spec_l1Num_ok w (-n1) (by first | assumption | omega | grind) (by first | assumption | omega | grind))) rfl rfl rfl ?_
          refine TL.op (yq (y_move (ev_t rfl))) rfl rfl rfl ?_
          refine TL.op (yq (y_sneq (ev_t rfl) (ev_t rfl))) rfl rfl rfl ?_
          refine TL.nil ?_
          refine TN.seq ?_
          refine TC.cond (b := !(((F_spec_l1Num (-n1))).toList == (s).toList)) (ev_t rfl) (fun h64 => ?_) (fun h64 => ?_)
          · rw [bif_pos h64] at hF
            have q65 := h64
            refine TC.seq ?_
            refine TC.region ?_
            refine TL.op (yq (y_assign ev_c)) rfl rfl rfl ?_
            refine TL.op (yq (y_assign ev_c)) rfl rfl rfl ?_
            refine TL.nil ?_
            refine TN.seq ?_
            refine TC.ret ?_
            refine TN.thenR ?_
            subst hF
            exact TN.ret2 rfl (ev_t rfl) (ev_t rfl) (fun w' hw => ⟨rfl, hw⟩)
          · rw [bif_neg h64] at hF
            have q65 := h64
            refine TC.skip ?_
            refine TN.seq ?_
            refine TC.seq ?_
            refine TC.region ?_
            refine TL.op (yq (y_move (ev_t rfl))) rfl rfl rfl ?_
            refine TL.op (yq (y_assign (ev_t rfl))) rfl rfl rfl ?_
            refine TL.op (yq (y_assign ev_c)) rfl rfl rfl ?_
            refine TL.nil ?_
            refine TN.seq ?_
            refine TC.ret ?_
            subst hF
            exact TN.ret2 rfl (ev_t rfl) (ev_t rfl) (fun w' hw => ⟨rfl, hw⟩)
        · rw [bif_neg h62] at hF
          have q63 := (of_decide_eq_false h62)
          refine TC.skip ?_
          refine TN.seq ?_
          refine TC.seq ?_
          refine TC.seq ?_
          refine TC.region ?_
          refine TL.op (yq (y_move (ev_t rfl))) rfl rfl rfl ?_
          refine TL.op (y_call (vs := [(.int .i64 n1)]) (v := (.string (F_spec_l1Num n1))) en_30 ⟨(ev_t rfl), trivial⟩ (fun w hw => spec_l1Num_ok w n1 (by first | assumption | omega | grind) (by first | assumption | omega | grind))) rfl rfl rfl ?_
          refine TL.op (yq (y_move (ev_t rfl))) rfl rfl rfl ?_
          refine TL.op (yq (y_sneq (ev_t rfl) (ev_t rfl))) rfl rfl rfl ?_
          refine TL.nil ?_
          refine TN.seq ?_
          refine TC.cond (b := !(((F_spec_l1Num n1)).toList == (s).toList)) (ev_t rfl) (fun h66 => ?_) (fun h66 => ?_)
          · rw [bif_pos h66] at hF
            have q67 := h66
            refine TC.seq ?_
            refine TC.region ?_
            refine TL.op (yq (y_assign ev_c)) rfl rfl rfl ?_
            refine TL.op (yq (y_assign ev_c)) rfl rfl rfl ?_
            refine TL.nil ?_
            refine TN.seq ?_
            refine TC.ret ?_
            refine TN.thenR ?_
            subst hF
            exact TN.ret2 rfl (ev_t rfl) (ev_t rfl) (fun w' hw => ⟨rfl, hw⟩)
          · rw [bif_neg h66] at hF
            have q67 := h66
            refine TC.skip ?_
            refine TN.seq ?_
            refine TC.seq ?_
            refine TC.region ?_
            refine TL.op (yq (y_move (ev_t rfl))) rfl rfl rfl ?_
            refine TL.op (yq (y_assign (ev_t rfl))) rfl rfl rfl ?_
            refine TL.op (yq (y_assign ev_c)) rfl rfl rfl ?_
            refine TL.nil ?_
            refine TN.seq ?_
            refine TC.ret ?_
            subst hF
            exact TN.ret2 rfl (ev_t rfl) (ev_t rfl) (fun w' hw => ⟨rfl, hw⟩)

set_option maxRecDepth 4000 in
set_option maxHeartbeats 1000000 in
theorem spec_ParseMetric_ok (w : World) (s : ByteArray) (hp0 : s.size ≤ 1048576) :
    Calls Tryd.prog 10 ([(.string s)] : List Value).toArray w (fun e w' => ∃ i : Value × List Value, e = .returned (.tuple #[(.agg #[i.1]), (.bool ((F_spec_ParseMetric s).2))]) ∧ Hp w [tabI 43 3 i.1 i.2 ((F_spec_ParseMetric s).1)] w') := by
  obtain ⟨rz, hF⟩ : ∃ rz, (F_spec_ParseMetric s) = rz := ⟨_, rfl⟩
  rw [hF]
  unfold F_spec_ParseMetric at hF
  refine calls_tc Tryd.func10 rfl rfl rfl ?_
  change TC _ _ _ _ (Hp w []) [(0, (.string s))]
  refine TC.seq ?_
  refine TC.region ?_
  refine TL.alloc (u := (.agg #[(.slice none 0 0)])) (by kernel_rfl) rfl (fun g0_0 => ?_)
  refine TL.op (yq (y_assign ev_c)) rfl rfl rfl ?_
  refine TL.nil ?_
  refine TN.seq ?_
  refine TC.seq ?_
  refine TC.region ?_
  refine TL.buildSlice (zs := []) (vs := []) slT_22 rfl trivial (by simp) rfl (by decide) rfl (fun v1_0 => ?_)
  refine TL.cls (fun w hw => hw.emptyTab 3) ?_
  refine TL.op (yq (y_bld1 (ev_t rfl) bd_28_1 (fun w hw => ((fun w hw => ((rii_tab 0 rfl) w hw).1) w hw).ln))) rfl rfl rfl ?_
  refine TL.alloc (u := (.agg #[(.slice none 0 0)])) (by kernel_rfl) rfl (fun g1_2 => ?_)
  refine TL.storeAgg (cs := [(.slice none 0 0)]) (us := [v1_0]) 0 (ev_t rfl) (ev_t rfl) agg_28 rfl rfl (fun w hw => (ocs_cons (ln_one ((fun w hw => ((rii_tab 1 rfl) w hw).1) w hw).ln) ocs_nil)) ?_
  refine TL.nil ?_
  refine TN.seq ?_
  refine TC.seq ?_
  refine TC.region ?_
  refine TL.op (yq (y_move (ev_t rfl))) rfl rfl rfl ?_
  refine TL.callr (ι := Value) (vs := [(.string s), (.int .u8 59)]) (fun i => i) (fun i => [rowS 9 i (F_spec_l1Split s 59)]) en_21 ⟨(ev_t rfl), ev_c, trivial⟩ rfl (fun w hw => spec_l1Split_ok w s 59 (by first | assumption | omega | grind)) (fun r2_1 => ?_)
  refine TL.op (yq (y_assign (ev_t rfl))) rfl rfl rfl ?_
  refine TL.nil ?_
  refine TN.seq ?_
  refine TC.seq ?_
  refine TC.seq ?_
  refine TC.region ?_
  refine TL.op (yq (y_assign ev_c)) rfl rfl rfl ?_
  refine TL.nil ?_
  refine TN.seq ?_
  refine TC.block ?_
  obtain ⟨c50, hc51⟩ : ∃ c, F_spec_ParseMetric_L1 s ((7 - 0) + 1) (0, ([])) = c := ⟨_, rfl⟩
  rw [hc51] at hF
  refine TC.loop (ι := Nat × Nat × List (List Int) × Value × List Value) (fun (fu1, k6_1, zg1_2_0_1, vzg1_2_0_1, uzg1_2_0_1) => [(0, (.string s)), (2, (.pointer (some ⟨g0_0, 0, none⟩))), (4, (.pointer (some ⟨g1_2, 0, none⟩))), (5, r2_1), (6, (.int .i64 (k6_1 : Int)))]) (fun (fu1, k6_1, zg1_2_0_1, vzg1_2_0_1, uzg1_2_0_1) => Hp w [rowS 9 r2_1 (F_spec_l1Split s 59), .blk g1_2 28 [vzg1_2_0_1], tabI 43 3 vzg1_2_0_1 uzg1_2_0_1 zg1_2_0_1, .blk g0_0 28 [(.slice none 0 0)]]) (fun (fu1, k6_1, zg1_2_0_1, vzg1_2_0_1, uzg1_2_0_1) => (k6_1 ≤ 7) ∧ (zg1_2_0_1.length ≤ k6_1) ∧ 7 - k6_1 < fu1 ∧ F_spec_ParseMetric_L1 s fu1 (k6_1, zg1_2_0_1) = c50) (fun (fu1, k6_1, zg1_2_0_1, vzg1_2_0_1, uzg1_2_0_1) => fu1) ((7 - 0) + 1, 0, [], v1_0, []) ⟨(by first | omega | (simp [-List.getD_eq_getElem?_getD] <;> omega)), (by first | omega | (simp [-List.getD_eq_getElem?_getD] <;> omega)), (by omega), hc51⟩ ⟨rfl, rfl, rfl, rfl, rfl, trivial⟩ (fun w hw => hw) ?_
  rintro ⟨fu1, k6_1, zg1_2_0_1, vzg1_2_0_1, uzg1_2_0_1⟩ hJ1
  obtain ⟨hi1_0, hi1_1, hmu1, hL1⟩ : (k6_1 ≤ 7) ∧ (zg1_2_0_1.length ≤ k6_1) ∧ 7 - k6_1 < fu1 ∧ F_spec_ParseMetric_L1 s fu1 (k6_1, zg1_2_0_1) = c50 := hJ1
  change TC _ _ _ _ (Hp w [rowS 9 r2_1 (F_spec_l1Split s 59), .blk g1_2 28 [vzg1_2_0_1], tabI 43 3 vzg1_2_0_1 uzg1_2_0_1 zg1_2_0_1, .blk g0_0 28 [(.slice none 0 0)]]) [(0, (.string s)), (2, (.pointer (some ⟨g0_0, 0, none⟩))), (4, (.pointer (some ⟨g1_2, 0, none⟩))), (5, r2_1), (6, (.int .i64 (k6_1 : Int)))]
  obtain ⟨mf1, rfl⟩ : ∃ m, fu1 = m + 1 := ⟨fu1 - 1, by omega⟩
  rw [F_spec_ParseMetric_L1_s] at hL1
  have hws := split_sz s 59 k6_1
  have hxl := ext_le ((F_spec_l1Split s 59).getD k6_1 ByteArray.empty) 1 ((F_spec_l1Split s 59).getD k6_1 ByteArray.empty).size
  refine TC.seq ?_
  refine TC.seq ?_
  refine TC.region ?_
  refine TL.op (yq (y_move (ev_t rfl))) rfl rfl rfl ?_
  refine TL.op (yq (y_move (ev_t rfl))) rfl rfl rfl ?_
  refine TL.op (yq (y_len (ev_t rfl) Tryd.underlying41 (fun w hw => ((rd_row 0 rfl) w hw).ln))) rfl rfl rfl ?_
  refine TL.op (yq (y_lss (ev_t rfl) (ev_t rfl))) rfl rfl rfl ?_
  refine TL.op (yq (y_move (ev_t rfl))) rfl rfl rfl ?_
  refine TL.opw (w_t rfl rfl rfl) (fun hg => yq (y_move (ev_t rfl))) rfl rfl ?_
  refine TL.opw (w_t rfl rfl rfl) (fun hg => yq (y_leq (ev_g rfl hg) ev_c)) rfl rfl ?_
  refine TL.op (yq (y_and (ev_t rfl) (fun hq => (ev_g rfl hq)))) rfl rfl rfl ?_
  refine TL.nil ?_
  refine TN.seq ?_
  refine TC.cond (b := ((decide ((k6_1 : Int) < ((F_spec_l1Split s 59).length : Int))) && (decide ((k6_1 : Int) ≤ 6)))) (ev_t rfl) (fun h52 => ?_) (fun h52 => ?_)
  · rw [bif_pos h52] at hL1
    have q53 := (and_imp (and_t h52) (fun h => (of_decide_eq_true h)) (fun h => (of_decide_eq_true h)))
    refine TC.skip ?_
    refine TN.seq ?_
    refine TC.seq ?_
    refine TC.block ?_
    refine TC.seq ?_
    refine TC.region ?_
    refine TL.op (yq (y_move (ev_t rfl))) rfl rfl rfl ?_
    refine TL.op (yq (y_move (ev_t rfl))) rfl rfl rfl ?_
    have hb54 : k6_1 < (F_spec_l1Split s 59).length := (by first | omega | (simp only [List.length_set, List.length_append, List.length_cons, List.length_nil, List.length_replicate]; omega) | (rw [sortI_length]; simp only [List.length_cons, List.length_nil]; omega) | (simp only [ByteArray.size_append]; omega))
    refine TL.op (yq (y_idx (k := k6_1) (ev_t rfl) (ev_t rfl) (by first | omega | simp) slT_41 (rd_row 0 rfl) hb54)) rfl rfl rfl ?_
    refine TL.op (yq (y_lds (ev_t rfl) one_9 (rd_row 0 rfl) hb54)) rfl rfl rfl ?_
    refine TL.op (yq (y_assign (ev_t rfl))) rfl rfl rfl ?_
    refine TL.nil ?_
    refine TN.seq ?_
    obtain ⟨c58, hcj7⟩ : ∃ c, ((bif (((decide (0 < (k6_1 : Int))) && (decide (0 < (((F_spec_l1Split s 59).getD k6_1 ByteArray.empty).size : Int)))) && (decide ((sAt ((F_spec_l1Split s 59).getD k6_1 ByteArray.empty) 0) = 32))) then (Ctl.next (((F_spec_l1Split s 59).getD k6_1 ByteArray.empty).extract 1 (((F_spec_l1Split s 59).getD k6_1 ByteArray.empty).size))) else (Ctl.next ((F_spec_l1Split s 59).getD k6_1 ByteArray.empty))) : Ctl (ByteArray) (List (List Int) × Bool)) = c := ⟨_, rfl⟩
    rw [hcj7] at hL1
    refine TC.cut (fun a' w' => ∃ k7_j7 : ByteArray, Slots 90 [(0, (.string s)), (2, (.pointer (some ⟨g0_0, 0, none⟩))), (4, (.pointer (some ⟨g1_2, 0, none⟩))), (5, r2_1), (6, (.int .i64 (k6_1 : Int))), (7, (.string k7_j7))] a' ∧ Hp w [rowS 9 r2_1 (F_spec_l1Split s 59), .blk g1_2 28 [vzg1_2_0_1], tabI 43 3 vzg1_2_0_1 uzg1_2_0_1 zg1_2_0_1, .blk g0_0 28 [(.slice none 0 0)]] w' ∧ (Ctl.next k7_j7 : Ctl (ByteArray) (List (List Int) × Bool)) = c58 ∧ (k7_j7.size ≤ 1048576)) ?_ ?_
    · refine TC.seq ?_
      refine TC.region ?_
      refine TL.op (yq (y_move (ev_t rfl))) rfl rfl rfl ?_
      refine TL.op (yq (y_gtr (ev_t rfl) ev_c)) rfl rfl rfl ?_
      refine TL.op (yq (y_move (ev_t rfl))) rfl rfl rfl ?_
      refine TL.opw (w_t rfl rfl rfl) (fun hg => yq (y_move (ev_t rfl))) rfl rfl ?_
      refine TL.opw (w_t rfl rfl rfl) (fun hg => yq (y_slen (ev_g rfl hg) Tryd.underlying9)) rfl rfl ?_
      refine TL.opw (w_t rfl rfl rfl) (fun hg => yq (y_gtr (ev_g rfl hg) ev_c)) rfl rfl ?_
      refine TL.op (yq (y_and (ev_t rfl) (fun hq => (ev_g rfl hq)))) rfl rfl rfl ?_
      refine TL.op (yq (y_move (ev_t rfl))) rfl rfl rfl ?_
      refine TL.opw (w_t rfl rfl rfl) (fun hg => yq (y_move (ev_t rfl))) rfl rfl ?_
      refine TL.opw (w_t rfl rfl rfl) (fun hg => yq (y_sidx (k := 0) (ev_g rfl hg) ev_c (by first | omega | simp) Tryd.underlying9 (show 0 < ((F_spec_l1Split s 59).getD k6_1 ByteArray.empty).size by have hgf := (and_imp (and_t hg) (fun h => (of_decide_eq_true h)) (fun h => (of_decide_eq_true h))); omega))) rfl rfl ?_
      refine TL.opw (w_t rfl rfl rfl) (fun hg => yq (y_eql (ev_g rfl hg) ev_c)) rfl rfl ?_
      refine TL.op (yq (y_and (ev_t rfl) (fun hq => (ev_g rfl hq)))) rfl rfl rfl ?_
      refine TL.nil ?_
      refine TN.seq ?_
      refine TC.cond (b := (((decide (0 < (k6_1 : Int))) && (decide (0 < (((F_spec_l1Split s 59).getD k6_1 ByteArray.empty).size : Int)))) && (decide ((sAt ((F_spec_l1Split s 59).getD k6_1 ByteArray.empty) 0) = 32)))) (ev_t rfl) (fun h60 => ?_) (fun h60 => ?_)
      · rw [bif_pos h60] at hcj7
        have q61 := (and_imp (and_t h60) (fun h => (and_imp (and_t h) (fun h => (of_decide_eq_true h)) (fun h => (of_decide_eq_true h)))) (fun h => (of_decide_eq_true h)))
        refine TC.region ?_
        refine TL.op (yq (y_move (ev_t rfl))) rfl rfl rfl ?_
        refine TL.op (yq (y_sslice_lo (ev_t rfl) ev_c (lo := 1) (by omega) Tryd.underlying9 (by first | omega | (simp only [List.length_set, List.length_append, List.length_cons, List.length_nil, List.length_replicate]; omega) | (rw [sortI_length]; simp only [List.length_cons, List.length_nil]; omega) | (simp only [ByteArray.size_append]; omega)))) rfl rfl rfl ?_
        refine TL.op (yq (y_assign (ev_t rfl))) rfl rfl rfl ?_
        refine TL.nil ?_
        exact fun a' w' hs hw => ⟨(((F_spec_l1Split s 59).getD k6_1 ByteArray.empty).extract 1 (((F_spec_l1Split s 59).getD k6_1 ByteArray.empty).size)), hs.sub ⟨rfl, rfl, rfl, rfl, rfl, rfl, trivial⟩, hw, hcj7, (by first | omega | (simp [-List.getD_eq_getElem?_getD] <;> omega))⟩
      · rw [bif_neg h60] at hcj7
        have q61 := ((and_f h60).imp (fun h => ((and_f h).imp (fun h => (of_decide_eq_false h)) (fun h => (of_decide_eq_false h)))) (fun h => (of_decide_eq_false h)))
        refine TC.skip ?_
        exact fun a' w' hs hw => ⟨((F_spec_l1Split s 59).getD k6_1 ByteArray.empty), hs.sub ⟨rfl, rfl, rfl, rfl, rfl, rfl, trivial⟩, hw, hcj7, (by first | omega | (simp [-List.getD_eq_getElem?_getD] <;> omega))⟩
    · rintro a' w' ⟨k7_j7, hs', hw', hdj7, hij7_0⟩
      rw [← hdj7, elim_next] at hL1
      try dsimp only at hL1
      refine (?_ : TC _ _ _ 90 (Hp w [rowS 9 r2_1 (F_spec_l1Split s 59), .blk g1_2 28 [vzg1_2_0_1], tabI 43 3 vzg1_2_0_1 uzg1_2_0_1 zg1_2_0_1, .blk g0_0 28 [(.slice none 0 0)]]) [(0, (.string s)), (2, (.pointer (some ⟨g0_0, 0, none⟩))), (4, (.pointer (some ⟨g1_2, 0, none⟩))), (5, r2_1), (6, (.int .i64 (k6_1 : Int))), (7, (.string k7_j7))]) a' w' hs' hw'
      clear hs' hw' hcj7
      refine TC.seq ?_
      refine TC.region ?_
      refine TL.buildI (zs := []) (qs := []) slT_43 rfl trivial rfl (by decide) rfl (fun v9_0 => ?_)
      refine TL.op (yq (y_move (ev_t rfl))) rfl rfl rfl ?_
      refine TL.callr (ι := Value) (vs := [(.string k7_j7), (.int .u8 32)]) (fun i => i) (fun i => [rowS 9 i (F_spec_l1Split k7_j7 32)]) en_21 ⟨(ev_t rfl), ev_c, trivial⟩ rfl (fun w hw => spec_l1Split_ok w k7_j7 32 (by first | assumption | omega | grind)) (fun r9_2 => ?_)
      refine TL.op (yq (y_assign (ev_t rfl))) rfl rfl rfl ?_
      refine TL.op (yq (y_assign (ev_t rfl))) rfl rfl rfl ?_
      refine TL.nil ?_
      refine TN.seq ?_
      refine TC.seq ?_
      refine TC.seq ?_
      refine TC.region ?_
      refine TL.op (yq (y_assign ev_c)) rfl rfl rfl ?_
      refine TL.nil ?_
      refine TN.seq ?_
      refine TC.block ?_
      obtain ⟨c62, hc63⟩ : ∃ c, F_spec_ParseMetric_L2 k7_j7 ((7 - 0) + 1) (([] : List Int), 0) = c := ⟨_, rfl⟩
      rw [hc63] at hL1
      refine TC.loop (ι := Nat × List Int × Nat × Value) (fun (fu2, k8_2, k10_2, vk8_2) => [(0, (.string s)), (2, (.pointer (some ⟨g0_0, 0, none⟩))), (4, (.pointer (some ⟨g1_2, 0, none⟩))), (5, r2_1), (6, (.int .i64 (k6_1 : Int))), (8, vk8_2), (9, r9_2), (10, (.int .i64 (k10_2 : Int)))]) (fun (fu2, k8_2, k10_2, vk8_2) => Hp w [rowS 9 r9_2 (F_spec_l1Split k7_j7 32), rowI 3 vk8_2 k8_2, rowS 9 r2_1 (F_spec_l1Split s 59), .blk g1_2 28 [vzg1_2_0_1], tabI 43 3 vzg1_2_0_1 uzg1_2_0_1 zg1_2_0_1, .blk g0_0 28 [(.slice none 0 0)]]) (fun (fu2, k8_2, k10_2, vk8_2) => (k10_2 ≤ 7) ∧ (k8_2.length ≤ k10_2) ∧ 7 - k10_2 < fu2 ∧ F_spec_ParseMetric_L2 k7_j7 fu2 (k8_2, k10_2) = c62) (fun (fu2, k8_2, k10_2, vk8_2) => fu2) ((7 - 0) + 1, ([] : List Int), 0, v9_0) ⟨(by first | omega | (simp [-List.getD_eq_getElem?_getD] <;> omega)), (by first | omega | (simp [-List.getD_eq_getElem?_getD] <;> omega)), (by omega), hc63⟩ ⟨rfl, rfl, rfl, rfl, rfl, rfl, rfl, rfl, trivial⟩ (fun w hw => hw) ?_
      rintro ⟨fu2, k8_2, k10_2, vk8_2⟩ hJ2
      obtain ⟨hi2_0, hi2_1, hmu2, hL2⟩ : (k10_2 ≤ 7) ∧ (k8_2.length ≤ k10_2) ∧ 7 - k10_2 < fu2 ∧ F_spec_ParseMetric_L2 k7_j7 fu2 (k8_2, k10_2) = c62 := hJ2
      change TC _ _ _ _ (Hp w [rowS 9 r9_2 (F_spec_l1Split k7_j7 32), rowI 3 vk8_2 k8_2, rowS 9 r2_1 (F_spec_l1Split s 59), .blk g1_2 28 [vzg1_2_0_1], tabI 43 3 vzg1_2_0_1 uzg1_2_0_1 zg1_2_0_1, .blk g0_0 28 [(.slice none 0 0)]]) [(0, (.string s)), (2, (.pointer (some ⟨g0_0, 0, none⟩))), (4, (.pointer (some ⟨g1_2, 0, none⟩))), (5, r2_1), (6, (.int .i64 (k6_1 : Int))), (8, vk8_2), (9, r9_2), (10, (.int .i64 (k10_2 : Int)))]
      obtain ⟨mf2, rfl⟩ : ∃ m, fu2 = m + 1 := ⟨fu2 - 1, by omega⟩
      rw [F_spec_ParseMetric_L2_s] at hL2
      have hwt := split_sz k7_j7 32 k10_2
      refine TC.seq ?_
      refine TC.seq ?_
      refine TC.region ?_
      refine TL.op (yq (y_move (ev_t rfl))) rfl rfl rfl ?_
      refine TL.op (yq (y_move (ev_t rfl))) rfl rfl rfl ?_
      refine TL.op (yq (y_len (ev_t rfl) Tryd.underlying41 (fun w hw => ((rd_row 0 rfl) w hw).ln))) rfl rfl rfl ?_
      refine TL.op (yq (y_lss (ev_t rfl) (ev_t rfl))) rfl rfl rfl ?_
      refine TL.op (yq (y_move (ev_t rfl))) rfl rfl rfl ?_
      refine TL.opw (w_t rfl rfl rfl) (fun hg => yq (y_move (ev_t rfl))) rfl rfl ?_
      refine TL.opw (w_t rfl rfl rfl) (fun hg => yq (y_leq (ev_g rfl hg) ev_c)) rfl rfl ?_
      refine TL.op (yq (y_and (ev_t rfl) (fun hq => (ev_g rfl hq)))) rfl rfl rfl ?_
      refine TL.nil ?_
      refine TN.seq ?_
      refine TC.cond (b := ((decide ((k10_2 : Int) < ((F_spec_l1Split k7_j7 32).length : Int))) && (decide ((k10_2 : Int) ≤ 6)))) (ev_t rfl) (fun h64 => ?_) (fun h64 => ?_)
      · rw [bif_pos h64] at hL2
        have q65 := (and_imp (and_t h64) (fun h => (of_decide_eq_true h)) (fun h => (of_decide_eq_true h)))
        refine TC.skip ?_
        refine TN.seq ?_
        refine TC.seq ?_
        refine TC.block ?_
        refine TC.seq ?_
        refine TC.region ?_
        refine TL.op (yq (y_move (ev_t rfl))) rfl rfl rfl ?_
        refine TL.op (yq (y_move (ev_t rfl))) rfl rfl rfl ?_
        have hb66 : k10_2 < (F_spec_l1Split k7_j7 32).length := (by first | omega | (simp only [List.length_set, List.length_append, List.length_cons, List.length_nil, List.length_replicate]; omega) | (rw [sortI_length]; simp only [List.length_cons, List.length_nil]; omega) | (simp only [ByteArray.size_append]; omega))
        refine TL.op (yq (y_idx (k := k10_2) (ev_t rfl) (ev_t rfl) (by first | omega | simp) slT_41 (rd_row 0 rfl) hb66)) rfl rfl rfl ?_
        refine TL.op (yq (y_lds (ev_t rfl) one_9 (rd_row 0 rfl) hb66)) rfl rfl rfl ?_
        refine TL.op (y_call (vs := [(.string ((F_spec_l1Split k7_j7 32).getD k10_2 ByteArray.empty))]) (v := (.tuple #[(.int .i64 ((F_spec_l1Read ((F_spec_l1Split k7_j7 32).getD k10_2 ByteArray.empty)).1)), (.bool ((F_spec_l1Read ((F_spec_l1Split k7_j7 32).getD k10_2 ByteArray.empty)).2))])) en_22 ⟨(ev_t rfl), trivial⟩ (fun w hw => spec_l1Read_ok w ((F_spec_l1Split k7_j7 32).getD k10_2 ByteArray.empty) (by first | assumption | omega | grind))) rfl rfl rfl ?_
        refine TL.op (yq (y_move (ev_t rfl))) rfl rfl rfl ?_
        refine TL.op (yq (y_extract (ev_t rfl) rfl)) rfl rfl rfl ?_
        refine TL.op (yq (y_extract (ev_t rfl) rfl)) rfl rfl rfl ?_
        refine TL.op (yq (y_assign (ev_t rfl))) rfl rfl rfl ?_
        refine TL.op (yq (y_assign (ev_t rfl))) rfl rfl rfl ?_
        refine TL.nil ?_
        refine TN.seq ?_
        refine TC.seq ?_
        refine TC.seq ?_
        refine TC.region ?_
        refine TL.op (yq (y_move (ev_t rfl))) rfl rfl rfl ?_
        refine TL.op (yq (y_not (ev_t rfl))) rfl rfl rfl ?_
        refine TL.nil ?_
        refine TN.seq ?_
        refine TC.cond (b := !((F_spec_l1Read ((F_spec_l1Split k7_j7 32).getD k10_2 ByteArray.empty)).2)) (ev_t rfl) (fun h67 => ?_) (fun h67 => ?_)
        · rw [bif_pos h67] at hL2
          have q68 := (not_t h67)
          refine TC.seq ?_
          refine TC.region ?_
          refine TL.op (yq (y_bld0 bd_28_0)) rfl rfl rfl ?_
          refine TL.storeAgg (cs := [(.slice none 0 0)]) (us := [(.slice none 0 0)]) 5 (ev_t rfl) (ev_t rfl) agg_28 rfl rfl (fun w hw => (ocs_cons rfl ocs_nil)) ?_
          refine TL.op (yq (y_assign ev_c)) rfl rfl rfl ?_
          refine TL.nil ?_
          refine TN.seq ?_
          refine TC.ret ?_
          refine TN.thenR ?_
          refine TN.blockR ?_
          refine TN.thenR ?_
          refine TN.thenR ?_
          rw [← hL2, elim_ret] at hL1
          refine TN.blockR ?_
          refine TN.thenR ?_
          refine TN.blockR ?_
          refine TN.thenR ?_
          refine TN.thenR ?_
          rw [← hL1, elim_ret] at hF
          refine TN.blockR ?_
          refine TN.thenR ?_
          subst hF
          refine TN.cls (fun w hw => hw.nilTab 43 3) ?_
          exact TN.retCT (cs := [(.slice none 0 0)]) 6 (by simp) rfl (ev_t rfl) (ev_t rfl) agg_28 rfl (fun w' hw => ⟨((.slice none 0 0), []), rfl, Hp.sublist hw (.cons_cons _ (.cons _ (.cons _ (.cons _ (.cons _ (.cons _ (.cons _ .slnil)))))))⟩)
        · rw [bif_neg h67] at hL2
          have q68 := (not_f h67)
          refine TC.skip ?_
          refine TN.seq ?_
          refine TC.region ?_
          refine TL.op (yq (y_move (ev_t rfl))) rfl rfl rfl ?_
          refine TL.op (yq (y_move (ev_t rfl))) rfl rfl rfl ?_
          refine TL.buildI (zs := [.tmp 70]) (qs := [(F_spec_l1Read ((F_spec_l1Split k7_j7 32).getD k10_2 ByteArray.empty)).1]) slT_43 rfl ⟨(ev_t rfl), trivial⟩ rfl (by decide) rfl (fun v16_2 => ?_)
          refine TL.appendI 2 (ev_t rfl) (ev_t rfl) rfl slT_43 (ri_row 0 rfl) (by first | omega | (simp [-List.getD_eq_getElem?_getD] <;> omega)) rfl (fun v16_3 => ?_)
          refine TL.op (yq (y_assign (ev_t rfl))) rfl rfl rfl ?_
          refine TL.nil ?_
          refine TN.blockN ?_
          refine TN.seq ?_
          refine TC.region ?_
          refine TL.op (yq (y_move (ev_t rfl))) rfl rfl rfl ?_
          refine TL.op (yq (y_add (ev_t rfl) ev_c (by unfold In64; constructor <;> omega))) rfl rfl rfl ?_
          refine TL.op (yq (y_assign (ev_t rfl))) rfl rfl rfl ?_
          refine TL.nil ?_
          exact TN.hand (mf2, (k8_2 ++ ([(F_spec_l1Read ((F_spec_l1Split k7_j7 32).getD k10_2 ByteArray.empty)).1])), (k10_2 + 1), v16_3) ⟨(by first | omega | (simp [-List.getD_eq_getElem?_getD] <;> omega)), (by first | omega | (simp [-List.getD_eq_getElem?_getD] <;> omega)), (by omega), hL2⟩ (Nat.lt_succ_self _) ⟨rfl, rfl, rfl, rfl, rfl, rfl, rfl, rfl, trivial⟩ (fun w hw => Hp.sublist hw (.cons _ (.cons_cons _ (.cons_cons _ (.cons_cons _ (.cons_cons _ (.cons_cons _ (.cons_cons _ .slnil))))))))
      · rw [bif_neg h64] at hL2
        have q65 := ((and_f h64).imp (fun h => (of_decide_eq_false h)) (fun h => (of_decide_eq_false h)))
        refine TC.exit ?_
        refine TN.thenE ?_
        refine TN.thenE ?_
        rw [← hL2, elim_next] at hL1
        try dsimp only at hL1
        refine TN.blockH ?_
        refine TN.seq ?_
        refine TC.region ?_
        refine TL.op (yq (y_fa (fa_28_0 g1_2) (ev_t rfl))) rfl rfl rfl ?_
        refine TL.op (yq (y_ldb 3 (ev_t rfl) one_22 rfl rfl)) rfl rfl rfl ?_
        refine TL.op (yq (y_move (ev_t rfl))) rfl rfl rfl ?_
        refine TL.buildU slT_22 (ev_t rfl) (fun w hw => ((ri_row 1 rfl) w hw).ln) rfl (fun v17_3 => ?_)
        refine TL.appendT 5 2 rfl (ev_t rfl) (ev_t rfl) rfl rfl slT_22 (rd_row 0 rfl) (by first | omega | (simp [-List.getD_eq_getElem?_getD] <;> omega)) rfl (fun v17_4 => ?_)
        refine TL.op (yq (y_fa (fa_28_0 g1_2) (ev_t rfl))) rfl rfl rfl ?_
        refine TL.storeB 4 (ev_t rfl) (ev_t rfl) one_22 rfl (by first | decide | simp) (fun w hw => (ln_one ((fun w hw => ((rii_tab 5 rfl) w hw).1) w hw).ln)) ?_
        refine TL.nil ?_
        refine TN.blockN ?_
        refine TN.seq ?_
        refine TC.region ?_
        refine TL.op (yq (y_move (ev_t rfl))) rfl rfl rfl ?_
        refine TL.op (yq (y_add (ev_t rfl) ev_c (by unfold In64; constructor <;> omega))) rfl rfl rfl ?_
        refine TL.op (yq (y_assign (ev_t rfl))) rfl rfl rfl ?_
        refine TL.nil ?_
        exact TN.hand (mf1, (k6_1 + 1), (zg1_2_0_1 ++ [k8_2]), v17_4, (uzg1_2_0_1 ++ [vk8_2])) ⟨(by first | omega | (simp [-List.getD_eq_getElem?_getD] <;> omega)), (by first | omega | (simp [-List.getD_eq_getElem?_getD] <;> omega)), (by omega), hL1⟩ (Nat.lt_succ_self _) ⟨rfl, rfl, rfl, rfl, rfl, trivial⟩ (fun w hw => Hp.sublist hw (.cons _ (.cons _ (.cons _ (.cons_cons _ (.cons_cons _ (.cons_cons _ (.cons_cons _ .slnil))))))))
  · rw [bif_neg h52] at hL1
    have q53 := ((and_f h52).imp (fun h => (of_decide_eq_false h)) (fun h => (of_decide_eq_false h)))
    refine TC.exit ?_
    refine TN.thenE ?_
    refine TN.thenE ?_
    rw [← hL1, elim_next] at hF
    try dsimp only at hF
    refine TN.blockH ?_
    refine TN.seq ?_
    refine TC.seq ?_
    refine TC.seq ?_
    refine TC.region ?_
    refine TL.op (yq (y_ldagg (cs := [vzg1_2_0_1]) 1 (ev_t rfl) agg_28 rfl)) rfl rfl rfl ?_
    refine TL.op (y_call (vs := [(.agg #[vzg1_2_0_1])]) (v := (.bool (F_spec_l6Good zg1_2_0_1))) en_15 ⟨(ev_t rfl), trivial⟩ (fun w hw => spec_l6Good_ok w vzg1_2_0_1 uzg1_2_0_1 zg1_2_0_1 ((rii_tab 2 rfl) w hw))) rfl rfl rfl ?_
    refine TL.op (yq (y_not (ev_t rfl))) rfl rfl rfl ?_
    refine TL.op (yq (y_move (ev_t rfl))) rfl rfl rfl ?_
    refine TL.opw (w_f rfl rfl rfl) (fun hg => yq (y_ldagg (cs := [vzg1_2_0_1]) 1 (ev_t rfl) agg_28 rfl)) rfl rfl ?_
    refine TL.opw (w_f rfl rfl rfl) (fun hg => y_call (vs := [(.agg #[vzg1_2_0_1])]) (v := (.string (F_spec_l6Text zg1_2_0_1))) en_16 ⟨(ev_g rfl hg), trivial⟩ (fun w hw => spec_l6Text_ok w vzg1_2_0_1 uzg1_2_0_1 zg1_2_0_1 ((rii_tab 2 rfl) w hw) (by first | assumption | exact l6Good_p (not_t hg)))) rfl rfl ?_
    refine TL.opw (w_f rfl rfl rfl) (fun hg => yq (y_move (ev_t rfl))) rfl rfl ?_
    refine TL.opw (w_f rfl rfl rfl) (fun hg => yq (y_sneq (ev_g rfl hg) (ev_g rfl hg))) rfl rfl ?_
    refine TL.op (yq (y_or (ev_t rfl) (fun hq => (ev_g rfl hq)))) rfl rfl rfl ?_
    refine TL.nil ?_
    refine TN.seq ?_
    refine TC.cond (b := ((!(F_spec_l6Good zg1_2_0_1)) || (!(((F_spec_l6Text zg1_2_0_1)).toList == (s).toList)))) (ev_t rfl) (fun h70 => ?_) (fun h70 => ?_)
    · rw [bif_pos h70] at hF
      have q71 := ((or_t h70).imp (fun h => (not_t h)) (fun h => h))
      refine TC.seq ?_
      refine TC.region ?_
      refine TL.op (yq (y_bld0 bd_28_0)) rfl rfl rfl ?_
      refine TL.storeAgg (cs := [(.slice none 0 0)]) (us := [(.slice none 0 0)]) 3 (ev_t rfl) (ev_t rfl) agg_28 rfl rfl (fun w hw => (ocs_cons rfl ocs_nil)) ?_
      refine TL.op (yq (y_assign ev_c)) rfl rfl rfl ?_
      refine TL.nil ?_
      refine TN.seq ?_
      refine TC.ret ?_
      refine TN.thenR ?_
      subst hF
      refine TN.cls (fun w hw => hw.nilTab 43 3) ?_
      exact TN.retCT (cs := [(.slice none 0 0)]) 4 (by simp) rfl (ev_t rfl) (ev_t rfl) agg_28 rfl (fun w' hw => ⟨((.slice none 0 0), []), rfl, Hp.sublist hw (.cons_cons _ (.cons _ (.cons _ (.cons _ (.cons _ .slnil)))))⟩)
    · rw [bif_neg h70] at hF
      have q71 := (and_imp (or_f h70) (fun h => (l6Good_t (not_f h))) (fun h => h))
      refine TC.skip ?_
      refine TN.seq ?_
      refine TC.seq ?_
      refine TC.region ?_
      refine TL.op (yq (y_ldagg (cs := [vzg1_2_0_1]) 1 (ev_t rfl) agg_28 rfl)) rfl rfl rfl ?_
      refine TL.storeAgg (cs := [(.slice none 0 0)]) (us := [vzg1_2_0_1]) 3 (ev_t rfl) (ev_t rfl) agg_28 rfl rfl (fun w hw => (ocs_cons (ln_one ((fun w hw => ((rii_tab 2 rfl) w hw).1) w hw).ln) ocs_nil)) ?_
      refine TL.op (yq (y_assign ev_c)) rfl rfl rfl ?_
      refine TL.nil ?_
      refine TN.seq ?_
      refine TC.ret ?_
      subst hF
      exact TN.retCT (cs := [vzg1_2_0_1]) 3 (by simp) rfl (ev_t rfl) (ev_t rfl) agg_28 rfl (fun w' hw => ⟨(vzg1_2_0_1, uzg1_2_0_1), rfl, Hp.sublist hw (.cons _ (.cons _ (.cons_cons _ (.cons _ .slnil))))⟩)


end Go.Proofs.YtcmhgkcifejgcaaDoor
namespace Go.Proofs.YtcmhgkcifejgcaaDoor
set_option linter.unusedVariables false
set_option linter.unusedSimpArgs false
open Go Go.RowKit
set_option linter.unusedVariables false

set_option maxRecDepth 4000 in
set_option maxHeartbeats 1000000 in
theorem laws_markIntS_ok (w0 w : World) (fr : List Ck) (va : Value) (a : List Int) (hw : Hp w0 (rowI 3 va a :: fr) w) (k : Int) (hp0 : 0 ≤ k) (hp1 : k + a.length ≤ 4611686018427387904) :
    Calls Tryd.prog 41 ([va, (.int .i64 k)] : List Value).toArray w (fun e w' => ∃ _i : Unit, e = .returned (.int .i64 ((F_laws_markIntS a k).1)) ∧ Hp w0 (rowI 3 va ((F_laws_markIntS a k).2) :: fr) w') := by
  obtain ⟨rz, hF⟩ : ∃ rz, (F_laws_markIntS a k) = rz := ⟨_, rfl⟩
  rw [hF]
  unfold F_laws_markIntS at hF
  have hlen_a : a.length ≤ 9223372036854775807 := (hw.get 0 rfl).maxn
  refine calls_tcm Tryd.func41 rfl rfl rfl hw ?_
  change TC _ _ _ _ (Hp w0 ([rowI 3 va a] ++ fr)) [(0, va), (1, (.int .i64 k))]
  refine TC.seq ?_
  refine TC.region ?_
  refine TL.op (yq (y_assign ev_c)) rfl rfl rfl ?_
  refine TL.nil ?_
  refine TN.seq ?_
  refine TC.seq ?_
  refine TC.seq ?_
  refine TC.region ?_
  refine TL.op (yq (y_assign ev_c)) rfl rfl rfl ?_
  refine TL.nil ?_
  refine TN.seq ?_
  refine TC.block ?_
  obtain ⟨c10, hc11⟩ : ∃ c, F_laws_markIntS_L1  ((a.length - 0) + 1) (k, 0, a) = c := ⟨_, rfl⟩
  rw [hc11] at hF
  refine TC.loop (ι := Nat × Int × Nat × List Int) (fun (fu1, k1, i1, a1) => [(0, va), (1, (.int .i64 k1)), (5, (.int .i64 (i1 : Int)))]) (fun (fu1, k1, i1, a1) => Hp w0 ([rowI 3 va a1] ++ fr)) (fun (fu1, k1, i1, a1) => (a1.length = a.length) ∧ (i1 ≤ a.length) ∧ (k1 = k + i1) ∧ a.length - i1 < fu1 ∧ F_laws_markIntS_L1  fu1 (k1, i1, a1) = c10) (fun (fu1, k1, i1, a1) => fu1) ((a.length - 0) + 1, k, 0, a) ⟨(by first | omega | (simp [-List.getD_eq_getElem?_getD] <;> omega)), (by first | omega | (simp [-List.getD_eq_getElem?_getD] <;> omega)), (by first | omega | (simp [-List.getD_eq_getElem?_getD] <;> omega)), (by omega), hc11⟩ ⟨rfl, rfl, rfl, trivial⟩ (fun w hw => hw) ?_
  rintro ⟨fu1, k1, i1, a1⟩ hJ1
  obtain ⟨hi1_0, hi1_1, hi1_2, hmu1, hL1⟩ : (a1.length = a.length) ∧ (i1 ≤ a.length) ∧ (k1 = k + i1) ∧ a.length - i1 < fu1 ∧ F_laws_markIntS_L1  fu1 (k1, i1, a1) = c10 := hJ1
  change TC _ _ _ _ (Hp w0 ([rowI 3 va a1] ++ fr)) [(0, va), (1, (.int .i64 k1)), (5, (.int .i64 (i1 : Int)))]
  obtain ⟨mf1, rfl⟩ : ∃ m, fu1 = m + 1 := ⟨fu1 - 1, by omega⟩
  rw [F_laws_markIntS_L1_s] at hL1
  refine TC.seq ?_
  refine TC.seq ?_
  refine TC.region ?_
  refine TL.op (yq (y_move (ev_t rfl))) rfl rfl rfl ?_
  refine TL.op (yq (y_move (ev_t rfl))) rfl rfl rfl ?_
  refine TL.op (yq (y_len (ev_t rfl) Tryd.underlying43 (fun w hw => ((ri_row 0 rfl) w hw).ln))) rfl rfl rfl ?_
  refine TL.op (yq (y_lss (ev_t rfl) (ev_t rfl))) rfl rfl rfl ?_
  refine TL.nil ?_
  refine TN.seq ?_
  refine TC.cond (b := decide ((i1 : Int) < (a1.length : Int))) (ev_t rfl) (fun h12 => ?_) (fun h12 => ?_)
  · rw [bif_pos h12] at hL1
    have q13 := (of_decide_eq_true h12)
    refine TC.skip ?_
    refine TN.seq ?_
    refine TC.seq ?_
    refine TC.block ?_
    refine TC.seq ?_
    refine TC.region ?_
    refine TL.op (yq (y_move (ev_t rfl))) rfl rfl rfl ?_
    refine TL.op (yq (y_move (ev_t rfl))) rfl rfl rfl ?_
    refine TL.op (yq (y_move (ev_t rfl))) rfl rfl rfl ?_
    have hb14 : i1 < a1.length := (by first | omega | (simp only [List.length_set, List.length_append, List.length_cons, List.length_nil, List.length_replicate]; omega) | (rw [sortI_length]; simp only [List.length_cons, List.length_nil]; omega) | (simp only [ByteArray.size_append]; omega))
    refine TL.op (yq (y_idx (k := i1) (ev_t rfl) (ev_t rfl) (by first | omega | simp) slT_43 (ri_row 0 rfl) hb14)) rfl rfl rfl ?_
    refine TL.storeI 0 (ev_t rfl) (ev_t rfl) one_3 rfl hb14 ?_
    refine TL.nil ?_
    refine TN.seq ?_
    refine TC.region ?_
    refine TL.op (yq (y_move (ev_t rfl))) rfl rfl rfl ?_
    refine TL.op (yq (y_add (ev_t rfl) ev_c (by unfold In64; constructor <;> omega))) rfl rfl rfl ?_
    refine TL.op (yq (y_assign (ev_t rfl))) rfl rfl rfl ?_
    refine TL.nil ?_
    refine TN.blockN ?_
    refine TN.seq ?_
    refine TC.region ?_
    refine TL.op (yq (y_move (ev_t rfl))) rfl rfl rfl ?_
    refine TL.op (yq (y_add (ev_t rfl) ev_c (by unfold In64; constructor <;> omega))) rfl rfl rfl ?_
    refine TL.op (yq (y_assign (ev_t rfl))) rfl rfl rfl ?_
    refine TL.nil ?_
    exact TN.hand (mf1, k1 + 1, (i1 + 1), (a1.set i1 k1)) ⟨(by first | omega | (simp [-List.getD_eq_getElem?_getD] <;> omega)), (by first | omega | (simp [-List.getD_eq_getElem?_getD] <;> omega)), (by first | omega | (simp [-List.getD_eq_getElem?_getD] <;> omega)), (by omega), hL1⟩ (Nat.lt_succ_self _) ⟨rfl, rfl, rfl, trivial⟩ (fun w hw => hw)
  · rw [bif_neg h12] at hL1
    have q13 := (of_decide_eq_false h12)
    refine TC.exit ?_
    refine TN.thenE ?_
    refine TN.thenE ?_
    rw [← hL1, elim_next] at hF
    try dsimp only at hF
    refine TN.blockH ?_
    refine TN.seq ?_
    refine TC.seq ?_
    refine TC.region ?_
    refine TL.op (yq (y_move (ev_t rfl))) rfl rfl rfl ?_
    refine TL.op (yq (y_assign (ev_t rfl))) rfl rfl rfl ?_
    refine TL.nil ?_
    refine TN.seq ?_
    refine TC.ret ?_
    subst hF
    exact TN.ret1 rfl (ev_t rfl) (fun w' hw => ⟨(), rfl, hw⟩)

set_option maxRecDepth 4000 in
set_option maxHeartbeats 1000000 in
theorem laws_heldIntS_ok (w : World) (va : Value) (a : List Int) (ha : RI w va a) (k : Int) (hp0 : 0 ≤ k) (hp1 : k + a.length ≤ 4611686018427387904) :
    Calls Tryd.prog 42 ([va, (.int .i64 k)] : List Value).toArray w (Ret (.int .i64 (F_laws_heldIntS a k)) (Hp w [])) := by
  obtain ⟨rz, hF⟩ : ∃ rz, (F_laws_heldIntS a k) = rz := ⟨_, rfl⟩
  rw [hF]
  unfold F_laws_heldIntS at hF
  have hlen_a := arg_len ha
  refine calls_tc Tryd.func42 rfl rfl rfl ?_
  change TC _ _ _ _ (Hp w []) [(0, va), (1, (.int .i64 k))]
  refine TC.seq ?_
  refine TC.region ?_
  refine TL.op (yq (y_assign ev_c)) rfl rfl rfl ?_
  refine TL.nil ?_
  refine TN.seq ?_
  refine TC.seq ?_
  refine TC.seq ?_
  refine TC.region ?_
  refine TL.op (yq (y_assign ev_c)) rfl rfl rfl ?_
  refine TL.nil ?_
  refine TN.seq ?_
  refine TC.block ?_
  obtain ⟨c11, hc12⟩ : ∃ c, F_laws_heldIntS_L1 a ((a.length - 0) + 1) (k, 0) = c := ⟨_, rfl⟩
  rw [hc12] at hF
  refine TC.loop (ι := Nat × Int × Nat) (fun (fu1, k1, i1) => [(0, va), (1, (.int .i64 k1)), (5, (.int .i64 (i1 : Int)))]) (fun (fu1, k1, i1) => Hp w []) (fun (fu1, k1, i1) => (i1 ≤ a.length) ∧ (k1 = k + i1) ∧ a.length - i1 < fu1 ∧ F_laws_heldIntS_L1 a fu1 (k1, i1) = c11) (fun (fu1, k1, i1) => fu1) ((a.length - 0) + 1, k, 0) ⟨(by first | omega | (simp [-List.getD_eq_getElem?_getD] <;> omega)), (by first | omega | (simp [-List.getD_eq_getElem?_getD] <;> omega)), (by omega), hc12⟩ ⟨rfl, rfl, rfl, trivial⟩ (fun w hw => hw) ?_
  rintro ⟨fu1, k1, i1⟩ hJ1
  obtain ⟨hi1_0, hi1_1, hmu1, hL1⟩ : (i1 ≤ a.length) ∧ (k1 = k + i1) ∧ a.length - i1 < fu1 ∧ F_laws_heldIntS_L1 a fu1 (k1, i1) = c11 := hJ1
  change TC _ _ _ _ (Hp w []) [(0, va), (1, (.int .i64 k1)), (5, (.int .i64 (i1 : Int)))]
  obtain ⟨mf1, rfl⟩ : ∃ m, fu1 = m + 1 := ⟨fu1 - 1, by omega⟩
  rw [F_laws_heldIntS_L1_s] at hL1
  refine TC.seq ?_
  refine TC.seq ?_
  refine TC.region ?_
  refine TL.op (yq (y_move (ev_t rfl))) rfl rfl rfl ?_
  refine TL.op (yq (y_move (ev_t rfl))) rfl rfl rfl ?_
  refine TL.op (yq (y_len (ev_t rfl) Tryd.underlying43 (fun w hw => ((ri_arg ha) w hw).ln))) rfl rfl rfl ?_
  refine TL.op (yq (y_lss (ev_t rfl) (ev_t rfl))) rfl rfl rfl ?_
  refine TL.nil ?_
  refine TN.seq ?_
  refine TC.cond (b := decide ((i1 : Int) < (a.length : Int))) (ev_t rfl) (fun h13 => ?_) (fun h13 => ?_)
  · rw [bif_pos h13] at hL1
    have q14 := (of_decide_eq_true h13)
    refine TC.skip ?_
    refine TN.seq ?_
    refine TC.seq ?_
    refine TC.block ?_
    refine TC.seq ?_
    refine TC.seq ?_
    refine TC.region ?_
    refine TL.op (yq (y_move (ev_t rfl))) rfl rfl rfl ?_
    refine TL.op (yq (y_move (ev_t rfl))) rfl rfl rfl ?_
    have hb15 : i1 < a.length := (by first | omega | (simp only [List.length_set, List.length_append, List.length_cons, List.length_nil, List.length_replicate]; omega) | (rw [sortI_length]; simp only [List.length_cons, List.length_nil]; omega) | (simp only [ByteArray.size_append]; omega))
    refine TL.op (yq (y_idx (k := i1) (ev_t rfl) (ev_t rfl) (by first | omega | simp) slT_43 (ri_arg ha) hb15)) rfl rfl rfl ?_
    refine TL.op (yq (y_ldi (ev_t rfl) one_3 (ri_arg ha) hb15)) rfl rfl rfl ?_
    refine TL.op (yq (y_move (ev_t rfl))) rfl rfl rfl ?_
    refine TL.op (yq (y_neq (ev_t rfl) (ev_t rfl))) rfl rfl rfl ?_
    refine TL.nil ?_
    refine TN.seq ?_
    refine TC.cond (b := !decide ((a.getD i1 0) = k1)) (ev_t rfl) (fun h16 => ?_) (fun h16 => ?_)
    · rw [bif_pos h16] at hL1
      have q17 := (of_decide_eq_false (not_t h16))
      refine TC.seq ?_
      refine TC.region ?_
      refine TL.op (yq (y_assign ev_c)) rfl rfl rfl ?_
      refine TL.nil ?_
      refine TN.seq ?_
      refine TC.ret ?_
      refine TN.thenR ?_
      refine TN.blockR ?_
      refine TN.thenR ?_
      refine TN.thenR ?_
      rw [← hL1, elim_ret] at hF
      refine TN.blockR ?_
      refine TN.thenR ?_
      subst hF
      exact TN.ret1 rfl (ev_t rfl) (fun w' hw => ⟨rfl, hw⟩)
    · rw [bif_neg h16] at hL1
      have q17 := (of_decide_eq_true (not_f h16))
      refine TC.skip ?_
      refine TN.seq ?_
      refine TC.region ?_
      refine TL.op (yq (y_move (ev_t rfl))) rfl rfl rfl ?_
      refine TL.op (yq (y_add (ev_t rfl) ev_c (by unfold In64; constructor <;> omega))) rfl rfl rfl ?_
      refine TL.op (yq (y_assign (ev_t rfl))) rfl rfl rfl ?_
      refine TL.nil ?_
      refine TN.blockN ?_
      refine TN.seq ?_
      refine TC.region ?_
      refine TL.op (yq (y_move (ev_t rfl))) rfl rfl rfl ?_
      refine TL.op (yq (y_add (ev_t rfl) ev_c (by unfold In64; constructor <;> omega))) rfl rfl rfl ?_
      refine TL.op (yq (y_assign (ev_t rfl))) rfl rfl rfl ?_
      refine TL.nil ?_
      exact TN.hand (mf1, k1 + 1, (i1 + 1)) ⟨(by first | omega | (simp [-List.getD_eq_getElem?_getD] <;> omega)), (by first | omega | (simp [-List.getD_eq_getElem?_getD] <;> omega)), (by omega), hL1⟩ (Nat.lt_succ_self _) ⟨rfl, rfl, rfl, trivial⟩ (fun w hw => hw)
  · rw [bif_neg h13] at hL1
    have q14 := (of_decide_eq_false h13)
    refine TC.exit ?_
    refine TN.thenE ?_
    refine TN.thenE ?_
    rw [← hL1, elim_next] at hF
    try dsimp only at hF
    refine TN.blockH ?_
    refine TN.seq ?_
    refine TC.seq ?_
    refine TC.region ?_
    refine TL.op (yq (y_move (ev_t rfl))) rfl rfl rfl ?_
    refine TL.op (yq (y_assign (ev_t rfl))) rfl rfl rfl ?_
    refine TL.nil ?_
    refine TN.seq ?_
    refine TC.ret ?_
    subst hF
    exact TN.ret1 rfl (ev_t rfl) (fun w' hw => ⟨rfl, hw⟩)

set_option maxRecDepth 4000 in
set_option maxHeartbeats 1000000 in
theorem laws_markIntSS_ok (w0 w : World) (fr : List Ck) (va : Value) (ua : List Value) (a : List (List Int)) (hw : Hp w0 (tabI 43 3 va ua a :: fr) w) (k : Int) (hp0 : 0 ≤ k) (hp1 : k + total a ≤ 1000000000) :
    Calls Tryd.prog 25 ([va, (.int .i64 k)] : List Value).toArray w (fun e w' => ∃ _i : Unit, e = .returned (.int .i64 ((F_laws_markIntSS a k).1)) ∧ Hp w0 (tabI 43 3 va ua ((F_laws_markIntSS a k).2) :: fr) w') := by
  obtain ⟨rz, hF⟩ : ∃ rz, (F_laws_markIntSS a k) = rz := ⟨_, rfl⟩
  rw [hF]
  unfold F_laws_markIntSS at hF
  have htot := totalFrom_zero a
  have hlen_a : a.length ≤ 9223372036854775807 := (hw.get 0 rfl).maxn
  refine calls_tcm Tryd.func25 rfl rfl rfl hw ?_
  change TC _ _ _ _ (Hp w0 ([tabI 43 3 va ua a] ++ fr)) [(0, va), (1, (.int .i64 k))]
  refine TC.seq ?_
  refine TC.region ?_
  refine TL.op (yq (y_assign ev_c)) rfl rfl rfl ?_
  refine TL.nil ?_
  refine TN.seq ?_
  refine TC.seq ?_
  refine TC.seq ?_
  refine TC.region ?_
  refine TL.op (yq (y_assign ev_c)) rfl rfl rfl ?_
  refine TL.nil ?_
  refine TN.seq ?_
  refine TC.block ?_
  obtain ⟨c10, hc11⟩ : ∃ c, F_laws_markIntSS_L1  ((a.length - 0) + 1) (k, 0, a) = c := ⟨_, rfl⟩
  rw [hc11] at hF
  refine TC.loop (ι := Nat × Int × Nat × List (List Int)) (fun (fu1, k1, i1, a1) => [(0, va), (1, (.int .i64 k1)), (5, (.int .i64 (i1 : Int)))]) (fun (fu1, k1, i1, a1) => Hp w0 ([tabI 43 3 va ua a1] ++ fr)) (fun (fu1, k1, i1, a1) => (a1.length = a.length) ∧ (i1 ≤ a.length) ∧ (0 ≤ k1) ∧ (k1 + totalFrom a i1 ≤ 1000000000) ∧ (∀ j, i1 ≤ j → a1.getD j [] = a.getD j []) ∧ a.length - i1 < fu1 ∧ F_laws_markIntSS_L1  fu1 (k1, i1, a1) = c10) (fun (fu1, k1, i1, a1) => fu1) ((a.length - 0) + 1, k, 0, a) ⟨(by first | omega | (simp [-List.getD_eq_getElem?_getD] <;> omega)), (by first | omega | (simp [-List.getD_eq_getElem?_getD] <;> omega)), (by first | omega | (simp [-List.getD_eq_getElem?_getD] <;> omega)), (by first | omega | (simp [-List.getD_eq_getElem?_getD] <;> omega)), (fun _ _ => rfl), (by omega), hc11⟩ ⟨rfl, rfl, rfl, trivial⟩ (fun w hw => hw) ?_
  rintro ⟨fu1, k1, i1, a1⟩ hJ1
  obtain ⟨hi1_0, hi1_1, hi1_2, hi1_3, hi1_4, hmu1, hL1⟩ : (a1.length = a.length) ∧ (i1 ≤ a.length) ∧ (0 ≤ k1) ∧ (k1 + totalFrom a i1 ≤ 1000000000) ∧ (∀ j, i1 ≤ j → a1.getD j [] = a.getD j []) ∧ a.length - i1 < fu1 ∧ F_laws_markIntSS_L1  fu1 (k1, i1, a1) = c10 := hJ1
  change TC _ _ _ _ (Hp w0 ([tabI 43 3 va ua a1] ++ fr)) [(0, va), (1, (.int .i64 k1)), (5, (.int .i64 (i1 : Int)))]
  obtain ⟨mf1, rfl⟩ : ∃ m, fu1 = m + 1 := ⟨fu1 - 1, by omega⟩
  rw [F_laws_markIntSS_L1_s] at hL1
  have hst := totalFrom_step a i1
  have hg := congrArg List.length (hi1_4 i1 (Nat.le_refl _))
  have hmk := markIntS_fst (a1.getD i1 []) k1
  refine TC.seq ?_
  refine TC.seq ?_
  refine TC.region ?_
  refine TL.op (yq (y_move (ev_t rfl))) rfl rfl rfl ?_
  refine TL.op (yq (y_move (ev_t rfl))) rfl rfl rfl ?_
  refine TL.op (yq (y_len (ev_t rfl) Tryd.underlying22 (fun w hw => ((fun w hw => ((rii_tab 0 rfl) w hw).1) w hw).ln))) rfl rfl rfl ?_
  refine TL.op (yq (y_lss (ev_t rfl) (ev_t rfl))) rfl rfl rfl ?_
  refine TL.nil ?_
  refine TN.seq ?_
  refine TC.cond (b := decide ((i1 : Int) < (a1.length : Int))) (ev_t rfl) (fun h12 => ?_) (fun h12 => ?_)
  · rw [bif_pos h12] at hL1
    have q13 := (of_decide_eq_true h12)
    refine TC.skip ?_
    refine TN.seq ?_
    refine TC.seq ?_
    refine TC.block ?_
    refine TC.region ?_
    refine TL.op (yq (y_move (ev_t rfl))) rfl rfl rfl ?_
    refine TL.op (yq (y_move (ev_t rfl))) rfl rfl rfl ?_
    have hb14 : i1 < a1.length := (by first | omega | (simp only [List.length_set, List.length_append, List.length_cons, List.length_nil, List.length_replicate]; omega) | (rw [sortI_length]; simp only [List.length_cons, List.length_nil]; omega) | (simp only [ByteArray.size_append]; omega))
    refine TL.op (yq (y_idx (k := i1) (ev_t rfl) (ev_t rfl) (by first | omega | simp) slT_22 (fun w hw => ((rii_tab 0 rfl) w hw).1) hb14)) rfl rfl rfl ?_
    refine TL.op (yq (y_ldT 0 (ev_t rfl) one_43 rfl hb14)) rfl rfl rfl ?_
    refine TL.op (yq (y_move (ev_t rfl))) rfl rfl rfl ?_
    refine TL.callmT 0 i1 (vs := [(ua.getD i1 undef), (.int .i64 k1)]) (.int .i64 ((F_laws_markIntS (a1.getD i1 []) k1).1)) ((F_laws_markIntS (a1.getD i1 []) k1).2) en_41 ⟨(ev_t rfl), (ev_t rfl), trivial⟩ rfl rfl hb14 (fun w1 fr1 hw => laws_markIntS_ok w0 w1 _ (ua.getD i1 undef) (a1.getD i1 []) hw k1 (by first | assumption | omega | grind) (by first | assumption | omega | grind)) ?_
    refine TL.op (yq (y_assign (ev_t rfl))) rfl rfl rfl ?_
    refine TL.nil ?_
    refine TN.blockN ?_
    refine TN.seq ?_
    refine TC.region ?_
    refine TL.op (yq (y_move (ev_t rfl))) rfl rfl rfl ?_
    refine TL.op (yq (y_add (ev_t rfl) ev_c (by unfold In64; constructor <;> omega))) rfl rfl rfl ?_
    refine TL.op (yq (y_assign (ev_t rfl))) rfl rfl rfl ?_
    refine TL.nil ?_
    exact TN.hand (mf1, (F_laws_markIntS (a1.getD i1 []) k1).1, (i1 + 1), (a1.set i1 ((F_laws_markIntS (a1.getD i1 []) k1).2))) ⟨(by first | omega | (simp [-List.getD_eq_getElem?_getD] <;> omega)), (by first | omega | (simp [-List.getD_eq_getElem?_getD] <;> omega)), (by first | omega | (simp [-List.getD_eq_getElem?_getD] <;> omega)), (by first | omega | (simp [-List.getD_eq_getElem?_getD] <;> omega)), (fun j hj => by rw [getD_set_ne _ _ _ _ _ (by omega)]; exact hi1_4 j (by omega)), (by omega), hL1⟩ (Nat.lt_succ_self _) ⟨rfl, rfl, rfl, trivial⟩ (fun w hw => hw)
  · rw [bif_neg h12] at hL1
    have q13 := (of_decide_eq_false h12)
    refine TC.exit ?_
    refine TN.thenE ?_
    refine TN.thenE ?_
    rw [← hL1, elim_next] at hF
    try dsimp only at hF
    refine TN.blockH ?_
    refine TN.seq ?_
    refine TC.seq ?_
    refine TC.region ?_
    refine TL.op (yq (y_move (ev_t rfl))) rfl rfl rfl ?_
    refine TL.op (yq (y_assign (ev_t rfl))) rfl rfl rfl ?_
    refine TL.nil ?_
    refine TN.seq ?_
    refine TC.ret ?_
    subst hF
    exact TN.ret1 rfl (ev_t rfl) (fun w' hw => ⟨(), rfl, hw⟩)

set_option maxRecDepth 4000 in
set_option maxHeartbeats 1000000 in
theorem laws_heldIntSS_ok (w : World) (va : Value) (ua : List Value) (a : List (List Int)) (ha : RII w va ua a) (k : Int) (hp0 : 0 ≤ k) (hp1 : k + total a ≤ 1000000000) :
    Calls Tryd.prog 26 ([va, (.int .i64 k)] : List Value).toArray w (Ret (.int .i64 (F_laws_heldIntSS a k)) (Hp w [])) := by
  obtain ⟨rz, hF⟩ : ∃ rz, (F_laws_heldIntSS a k) = rz := ⟨_, rfl⟩
  rw [hF]
  unfold F_laws_heldIntSS at hF
  have htot := totalFrom_zero a
  have hlen_a := argT_len ha
  refine calls_tc Tryd.func26 rfl rfl rfl ?_
  change TC _ _ _ _ (Hp w []) [(0, va), (1, (.int .i64 k))]
  refine TC.seq ?_
  refine TC.region ?_
  refine TL.op (yq (y_assign ev_c)) rfl rfl rfl ?_
  refine TL.nil ?_
  refine TN.seq ?_
  refine TC.seq ?_
  refine TC.seq ?_
  refine TC.region ?_
  refine TL.op (yq (y_assign ev_c)) rfl rfl rfl ?_
  refine TL.nil ?_
  refine TN.seq ?_
  refine TC.block ?_
  obtain ⟨c13, hc14⟩ : ∃ c, F_laws_heldIntSS_L1 a ((a.length - 0) + 1) (k, 0) = c := ⟨_, rfl⟩
  rw [hc14] at hF
  refine TC.loop (ι := Nat × Int × Nat) (fun (fu1, k1, i1) => [(0, va), (1, (.int .i64 k1)), (5, (.int .i64 (i1 : Int)))]) (fun (fu1, k1, i1) => Hp w []) (fun (fu1, k1, i1) => (i1 ≤ a.length) ∧ (0 ≤ k1) ∧ (k1 + totalFrom a i1 ≤ 1000000000) ∧ a.length - i1 < fu1 ∧ F_laws_heldIntSS_L1 a fu1 (k1, i1) = c13) (fun (fu1, k1, i1) => fu1) ((a.length - 0) + 1, k, 0) ⟨(by first | omega | (simp [-List.getD_eq_getElem?_getD] <;> omega)), (by first | omega | (simp [-List.getD_eq_getElem?_getD] <;> omega)), (by first | omega | (simp [-List.getD_eq_getElem?_getD] <;> omega)), (by omega), hc14⟩ ⟨rfl, rfl, rfl, trivial⟩ (fun w hw => hw) ?_
  rintro ⟨fu1, k1, i1⟩ hJ1
  obtain ⟨hi1_0, hi1_1, hi1_2, hmu1, hL1⟩ : (i1 ≤ a.length) ∧ (0 ≤ k1) ∧ (k1 + totalFrom a i1 ≤ 1000000000) ∧ a.length - i1 < fu1 ∧ F_laws_heldIntSS_L1 a fu1 (k1, i1) = c13 := hJ1
  change TC _ _ _ _ (Hp w []) [(0, va), (1, (.int .i64 k1)), (5, (.int .i64 (i1 : Int)))]
  obtain ⟨mf1, rfl⟩ : ∃ m, fu1 = m + 1 := ⟨fu1 - 1, by omega⟩
  rw [F_laws_heldIntSS_L1_s] at hL1
  have hst := totalFrom_step a i1
  have hhd := heldIntS_le (a.getD i1 []) k1
  refine TC.seq ?_
  refine TC.seq ?_
  refine TC.region ?_
  refine TL.op (yq (y_move (ev_t rfl))) rfl rfl rfl ?_
  refine TL.op (yq (y_move (ev_t rfl))) rfl rfl rfl ?_
  refine TL.op (yq (y_len (ev_t rfl) Tryd.underlying22 (fun w hw => ((fun w hw => ((rii_arg ha) w hw).1) w hw).ln))) rfl rfl rfl ?_
  refine TL.op (yq (y_lss (ev_t rfl) (ev_t rfl))) rfl rfl rfl ?_
  refine TL.nil ?_
  refine TN.seq ?_
  refine TC.cond (b := decide ((i1 : Int) < (a.length : Int))) (ev_t rfl) (fun h15 => ?_) (fun h15 => ?_)
  · rw [bif_pos h15] at hL1
    have q16 := (of_decide_eq_true h15)
    refine TC.skip ?_
    refine TN.seq ?_
    refine TC.seq ?_
    refine TC.block ?_
    refine TC.seq ?_
    refine TC.region ?_
    refine TL.op (yq (y_move (ev_t rfl))) rfl rfl rfl ?_
    refine TL.op (yq (y_move (ev_t rfl))) rfl rfl rfl ?_
    have hb17 : i1 < a.length := (by first | omega | (simp only [List.length_set, List.length_append, List.length_cons, List.length_nil, List.length_replicate]; omega) | (rw [sortI_length]; simp only [List.length_cons, List.length_nil]; omega) | (simp only [ByteArray.size_append]; omega))
    refine TL.op (yq (y_idx (k := i1) (ev_t rfl) (ev_t rfl) (by first | omega | simp) slT_22 (fun w hw => ((rii_arg ha) w hw).1) hb17)) rfl rfl rfl ?_
    have ha18 := ha.row (i := i1) hb17
    refine TL.op (yq (y_ldA (ev_t rfl) one_43 (rii_arg ha) hb17)) rfl rfl rfl ?_
    refine TL.op (yq (y_move (ev_t rfl))) rfl rfl rfl ?_
    refine TL.op (y_call (vs := [(ua.getD i1 undef), (.int .i64 k1)]) (v := (.int .i64 (F_laws_heldIntS (a.getD i1 []) k1))) en_42 ⟨(ev_t rfl), (ev_t rfl), trivial⟩ (fun w hw => laws_heldIntS_ok w (ua.getD i1 undef) (a.getD i1 []) ((ri_arg ha18) w hw) k1 (by first | assumption | omega | grind) (by first | assumption | omega | grind))) rfl rfl rfl ?_
    refine TL.op (yq (y_assign (ev_t rfl))) rfl rfl rfl ?_
    refine TL.nil ?_
    refine TN.seq ?_
    refine TC.seq ?_
    refine TC.region ?_
    refine TL.op (yq (y_move (ev_t rfl))) rfl rfl rfl ?_
    refine TL.op (yq (y_lss (ev_t rfl) ev_c)) rfl rfl rfl ?_
    refine TL.nil ?_
    refine TN.seq ?_
    refine TC.cond (b := decide ((F_laws_heldIntS (a.getD i1 []) k1) < 0)) (ev_t rfl) (fun h19 => ?_) (fun h19 => ?_)
    · rw [bif_pos h19] at hL1
      have q20 := (of_decide_eq_true h19)
      refine TC.seq ?_
      refine TC.region ?_
      refine TL.op (yq (y_assign ev_c)) rfl rfl rfl ?_
      refine TL.nil ?_
      refine TN.seq ?_
      refine TC.ret ?_
      refine TN.blockR ?_
      refine TN.thenR ?_
      refine TN.thenR ?_
      rw [← hL1, elim_ret] at hF
      refine TN.blockR ?_
      refine TN.thenR ?_
      subst hF
      exact TN.ret1 rfl (ev_t rfl) (fun w' hw => ⟨rfl, hw⟩)
    · rw [bif_neg h19] at hL1
      have q20 := (of_decide_eq_false h19)
      refine TC.skip ?_
      refine TN.blockN ?_
      refine TN.seq ?_
      refine TC.region ?_
      refine TL.op (yq (y_move (ev_t rfl))) rfl rfl rfl ?_
      refine TL.op (yq (y_add (ev_t rfl) ev_c (by unfold In64; constructor <;> omega))) rfl rfl rfl ?_
      refine TL.op (yq (y_assign (ev_t rfl))) rfl rfl rfl ?_
      refine TL.nil ?_
      exact TN.hand (mf1, (F_laws_heldIntS (a.getD i1 []) k1), (i1 + 1)) ⟨(by first | omega | (simp [-List.getD_eq_getElem?_getD] <;> omega)), (by first | omega | (simp [-List.getD_eq_getElem?_getD] <;> omega)), (by first | omega | (simp [-List.getD_eq_getElem?_getD] <;> omega)), (by omega), hL1⟩ (Nat.lt_succ_self _) ⟨rfl, rfl, rfl, trivial⟩ (fun w hw => hw)
  · rw [bif_neg h15] at hL1
    have q16 := (of_decide_eq_false h15)
    refine TC.exit ?_
    refine TN.thenE ?_
    refine TN.thenE ?_
    rw [← hL1, elim_next] at hF
    try dsimp only at hF
    refine TN.blockH ?_
    refine TN.seq ?_
    refine TC.seq ?_
    refine TC.region ?_
    refine TL.op (yq (y_move (ev_t rfl))) rfl rfl rfl ?_
    refine TL.op (yq (y_assign (ev_t rfl))) rfl rfl rfl ?_
    refine TL.nil ?_
    refine TN.seq ?_
    refine TC.ret ?_
    subst hF
    exact TN.ret1 rfl (ev_t rfl) (fun w' hw => ⟨rfl, hw⟩)

set_option maxRecDepth 4000 in
set_option maxHeartbeats 1000000 in
theorem laws_markMetric_ok (w0 w : World) (fr : List Ck) (va : Value) (ua : List Value) (a : List (List Int)) (hw : Hp w0 (tabI 43 3 va ua a :: fr) w) (k : Int) (hp0 : 0 ≤ k) (hp1 : k + total a ≤ 1000000000) :
    Calls Tryd.prog 12 ([(.agg #[va]), (.int .i64 k)] : List Value).toArray w (fun e w' => ∃ _i : Unit, e = .returned (.int .i64 ((F_laws_markMetric a k).1)) ∧ Hp w0 (tabI 43 3 va ua ((F_laws_markMetric a k).2) :: fr) w') := by
  obtain ⟨rz, hF⟩ : ∃ rz, (F_laws_markMetric a k) = rz := ⟨_, rfl⟩
  rw [hF]
  unfold F_laws_markMetric at hF
  have hlen_a : a.length ≤ 9223372036854775807 := (hw.get 0 rfl).maxn
  refine calls_tcm Tryd.func12 rfl rfl rfl hw ?_
  change TC _ _ _ _ (Hp w0 ([tabI 43 3 va ua a] ++ fr)) [(0, (.agg #[va])), (1, (.int .i64 k))]
  refine TC.seq ?_
  refine TC.region ?_
  refine TL.box (ev_t rfl) rfl (fun g0_0 => ?_)
  refine TL.op (yq (y_assign ev_c)) rfl rfl rfl ?_
  refine TL.nil ?_
  refine TN.seq ?_
  refine TC.seq ?_
  refine TC.region ?_
  refine TL.op (yq (y_fa (fa_28_0 g0_0) (ev_t rfl))) rfl rfl rfl ?_
  refine TL.op (yq (y_ldb 0 (ev_t rfl) one_22 rfl rfl)) rfl rfl rfl ?_
  refine TL.op (yq (y_move (ev_t rfl))) rfl rfl rfl ?_
  refine TL.callm (ι := Unit) 1 (vs := [va, (.int .i64 k)]) (fun _ => (.int .i64 ((F_laws_markIntSS a k).1))) (fun _ => tabI 43 3 va ua ((F_laws_markIntSS a k).2)) en_25 ⟨(ev_t rfl), (ev_t rfl), trivial⟩ rfl rfl (fun w1 fr1 hw => laws_markIntSS_ok w0 w1 _ va ua a hw k (by first | assumption | omega | grind) (by first | assumption | omega | grind)) (fun _ => ?_)
  refine TL.op (yq (y_assign (ev_t rfl))) rfl rfl rfl ?_
  refine TL.nil ?_
  refine TN.seq ?_
  refine TC.seq ?_
  refine TC.region ?_
  refine TL.op (yq (y_move (ev_t rfl))) rfl rfl rfl ?_
  refine TL.op (yq (y_assign (ev_t rfl))) rfl rfl rfl ?_
  refine TL.nil ?_
  refine TN.seq ?_
  refine TC.ret ?_
  subst hF
  exact TN.ret1 rfl (ev_t rfl) (fun w' hw => ⟨(), rfl, Hp.sublist hw (.cons _ (.cons_cons _ (List.Sublist.refl _)))⟩)

set_option maxRecDepth 4000 in
set_option maxHeartbeats 1000000 in
theorem laws_heldMetric_ok (w : World) (va : Value) (ua : List Value) (a : List (List Int)) (ha : RII w va ua a) (k : Int) (hp0 : 0 ≤ k) (hp1 : k + total a ≤ 1000000000) :
    Calls Tryd.prog 13 ([(.agg #[va]), (.int .i64 k)] : List Value).toArray w (Ret (.int .i64 (F_laws_heldMetric a k)) (Hp w [])) := by
  obtain ⟨rz, hF⟩ : ∃ rz, (F_laws_heldMetric a k) = rz := ⟨_, rfl⟩
  rw [hF]
  unfold F_laws_heldMetric at hF
  have hlen_a := argT_len ha
  refine calls_tc Tryd.func13 rfl rfl rfl ?_
  change TC _ _ _ _ (Hp w []) [(0, (.agg #[va])), (1, (.int .i64 k))]
  refine TC.seq ?_
  refine TC.region ?_
  refine TL.box (ev_t rfl) rfl (fun g0_0 => ?_)
  refine TL.op (yq (y_assign ev_c)) rfl rfl rfl ?_
  refine TL.nil ?_
  refine TN.seq ?_
  refine TC.seq ?_
  refine TC.region ?_
  refine TL.op (yq (y_fa (fa_28_0 g0_0) (ev_t rfl))) rfl rfl rfl ?_
  refine TL.op (yq (y_ldb 0 (ev_t rfl) one_22 rfl rfl)) rfl rfl rfl ?_
  refine TL.op (yq (y_move (ev_t rfl))) rfl rfl rfl ?_
  refine TL.op (y_call (vs := [va, (.int .i64 k)]) (v := (.int .i64 (F_laws_heldIntSS a k))) en_26 ⟨(ev_t rfl), (ev_t rfl), trivial⟩ (fun w hw => laws_heldIntSS_ok w va ua a ((rii_arg ha) w hw) k (by first | assumption | omega | grind) (by first | assumption | omega | grind))) rfl rfl rfl ?_
  refine TL.op (yq (y_assign (ev_t rfl))) rfl rfl rfl ?_
  refine TL.nil ?_
  refine TN.seq ?_
  refine TC.seq ?_
  refine TC.seq ?_
  refine TC.region ?_
  refine TL.op (yq (y_move (ev_t rfl))) rfl rfl rfl ?_
  refine TL.op (yq (y_lss (ev_t rfl) ev_c)) rfl rfl rfl ?_
  refine TL.nil ?_
  refine TN.seq ?_
  refine TC.cond (b := decide ((F_laws_heldIntSS a k) < 0)) (ev_t rfl) (fun h3 => ?_) (fun h3 => ?_)
  · rw [bif_pos h3] at hF
    have q4 := (of_decide_eq_true h3)
    refine TC.seq ?_
    refine TC.region ?_
    refine TL.op (yq (y_assign ev_c)) rfl rfl rfl ?_
    refine TL.nil ?_
    refine TN.seq ?_
    refine TC.ret ?_
    refine TN.thenR ?_
    subst hF
    exact TN.ret1 rfl (ev_t rfl) (fun w' hw => ⟨rfl, Hp.sublist hw (List.nil_sublist _)⟩)
  · rw [bif_neg h3] at hF
    have q4 := (of_decide_eq_false h3)
    refine TC.skip ?_
    refine TN.seq ?_
    refine TC.seq ?_
    refine TC.region ?_
    refine TL.op (yq (y_move (ev_t rfl))) rfl rfl rfl ?_
    refine TL.op (yq (y_assign (ev_t rfl))) rfl rfl rfl ?_
    refine TL.nil ?_
    refine TN.seq ?_
    refine TC.ret ?_
    subst hF
    exact TN.ret1 rfl (ev_t rfl) (fun w' hw => ⟨rfl, Hp.sublist hw (List.nil_sublist _)⟩)

set_option maxRecDepth 4000 in
set_option maxHeartbeats 1000000 in
theorem laws_FnExactParseMetric_ok (w : World) (hvars : Vars w) (aS : ByteArray)  :
    Calls Tryd.prog 4 ([(.string aS)] : List Value).toArray w (Ret (.bool (F_laws_FnExactParseMetric aS)) (Hp w [])) := by
  obtain ⟨rz, hF⟩ : ∃ rz, (F_laws_FnExactParseMetric aS) = rz := ⟨_, rfl⟩
  rw [hF]
  unfold F_laws_FnExactParseMetric at hF
  have hut := parse_total aS
  have hmt := markMetric_total (F_impl_ParseMetric aS).1 1
  refine calls_tc Tryd.func4 rfl rfl rfl ?_
  change TC _ _ _ _ (Hp w []) [(0, (.string aS))]
  refine TC.seq ?_
  refine TC.region ?_
  refine TL.op (yq (y_assign ev_c)) rfl rfl rfl ?_
  refine TL.nil ?_
  refine TN.seq ?_
  refine TC.seq ?_
  refine TC.seq ?_
  refine TC.region ?_
  refine TL.op (yq (y_move (ev_t rfl))) rfl rfl rfl ?_
  refine TL.op (yq (y_slen (ev_t rfl) Tryd.underlying9)) rfl rfl rfl ?_
  refine TL.op (yq (y_gtr (ev_t rfl) ev_c)) rfl rfl rfl ?_
  refine TL.nil ?_
  refine TN.seq ?_
  refine TC.cond (b := decide (1048576 < (aS.size : Int))) (ev_t rfl) (fun h15 => ?_) (fun h15 => ?_)
  · rw [bif_pos h15] at hF
    have q16 := (of_decide_eq_true h15)
    refine TC.seq ?_
    refine TC.region ?_
    refine TL.op (yq (y_assign ev_c)) rfl rfl rfl ?_
    refine TL.nil ?_
    refine TN.seq ?_
    refine TC.ret ?_
    refine TN.thenR ?_
    subst hF
    exact TN.ret1 rfl (ev_t rfl) (fun w' hw => ⟨rfl, hw⟩)
  · rw [bif_neg h15] at hF
    have q16 := (of_decide_eq_false h15)
    refine TC.skip ?_
    refine TN.seq ?_
    refine TC.seq ?_
    refine TC.region ?_
    refine TL.op (yq (y_move (ev_t rfl))) rfl rfl rfl ?_
    refine TL.callr (ι := Value × List Value) (vs := [(.string aS)]) (fun i => (.tuple #[(.agg #[i.1]), (.bool ((F_spec_ParseMetric aS).2))])) (fun i => [tabI 43 3 i.1 i.2 ((F_spec_ParseMetric aS).1)]) en_10 ⟨(ev_t rfl), trivial⟩ rfl (fun w hw => spec_ParseMetric_ok w aS (by first | assumption | omega | grind)) (fun r3_1 => ?_)
    refine TL.op (yq (y_move (ev_t rfl))) rfl rfl rfl ?_
    refine TL.op (yq (y_extract (ev_t rfl) rfl)) rfl rfl rfl ?_
    refine TL.op (yq (y_extract (ev_t rfl) rfl)) rfl rfl rfl ?_
    refine TL.alloc (u := (.agg #[(.slice none 0 0)])) (by kernel_rfl) rfl (fun g3_5 => ?_)
    refine TL.storeAgg (cs := [(.slice none 0 0)]) (us := [r3_1.1]) 0 (ev_t rfl) (ev_t rfl) agg_28 rfl rfl (fun w hw => (ocs_cons (ln_one ((fun w hw => ((rii_tab 1 rfl) w hw).1) w hw).ln) ocs_nil)) ?_
    refine TL.op (yq (y_assign (ev_t rfl))) rfl rfl rfl ?_
    refine TL.nil ?_
    refine TN.seq ?_
    refine TC.seq ?_
    refine TC.region ?_
    refine TL.op (yq (y_move (ev_t rfl))) rfl rfl rfl ?_
    refine TL.callr (ι := Value × List Value) (vs := [(.string aS)]) (fun i => (.tuple #[(.agg #[i.1]), (.bool ((F_impl_ParseMetric aS).2))])) (fun i => [tabI 43 3 i.1 i.2 ((F_impl_ParseMetric aS).1)]) en_11 ⟨(ev_t rfl), trivial⟩ rfl (fun w hw => impl_ParseMetric_ok w (hvars.below hw.1) aS (by first | assumption | omega | grind)) (fun r4_1 => ?_)
    refine TL.op (yq (y_move (ev_t rfl))) rfl rfl rfl ?_
    refine TL.op (yq (y_extract (ev_t rfl) rfl)) rfl rfl rfl ?_
    refine TL.op (yq (y_extract (ev_t rfl) rfl)) rfl rfl rfl ?_
    refine TL.alloc (u := (.agg #[(.slice none 0 0)])) (by kernel_rfl) rfl (fun g4_5 => ?_)
    refine TL.storeAgg (cs := [(.slice none 0 0)]) (us := [r4_1.1]) 0 (ev_t rfl) (ev_t rfl) agg_28 rfl rfl (fun w hw => (ocs_cons (ln_one ((fun w hw => ((rii_tab 1 rfl) w hw).1) w hw).ln) ocs_nil)) ?_
    refine TL.op (yq (y_assign (ev_t rfl))) rfl rfl rfl ?_
    refine TL.nil ?_
    refine TN.seq ?_
    refine TC.seq ?_
    refine TC.seq ?_
    refine TC.region ?_
    refine TL.op (yq (y_ldagg (cs := [r4_1.1]) 0 (ev_t rfl) agg_28 rfl)) rfl rfl rfl ?_
    refine TL.op (yq (y_ldagg (cs := [r3_1.1]) 2 (ev_t rfl) agg_28 rfl)) rfl rfl rfl ?_
    refine TL.op (y_call (vs := [(.agg #[r4_1.1]), (.agg #[r3_1.1])]) (v := (.bool (F_laws_eqMetric ((F_impl_ParseMetric aS).1) ((F_spec_ParseMetric aS).1)))) en_9 ⟨(ev_t rfl), (ev_t rfl), trivial⟩ (fun w hw => laws_eqMetric_ok w r4_1.1 r4_1.2 ((F_impl_ParseMetric aS).1) ((rii_tab 1 rfl) w hw) r3_1.1 r3_1.2 ((F_spec_ParseMetric aS).1) ((rii_tab 3 rfl) w hw))) rfl rfl rfl ?_
    refine TL.op (yq (y_not (ev_t rfl))) rfl rfl rfl ?_
    refine TL.op (yq (y_move (ev_t rfl))) rfl rfl rfl ?_
    refine TL.opw (w_f rfl rfl rfl) (fun hg => yq (y_move (ev_t rfl))) rfl rfl ?_
    refine TL.opw (w_f rfl rfl rfl) (fun hg => yq (y_move (ev_t rfl))) rfl rfl ?_
    refine TL.opw (w_f rfl rfl rfl) (fun hg => yq (y_bneq (ev_g rfl hg) (ev_g rfl hg) Tryd.underlying4)) rfl rfl ?_
    refine TL.op (yq (y_or (ev_t rfl) (fun hq => (ev_g rfl hq)))) rfl rfl rfl ?_
    refine TL.nil ?_
    refine TN.seq ?_
    refine TC.cond (b := ((!(F_laws_eqMetric ((F_impl_ParseMetric aS).1) ((F_spec_ParseMetric aS).1))) || (((F_impl_ParseMetric aS).2) != ((F_spec_ParseMetric aS).2)))) (ev_t rfl) (fun h17 => ?_) (fun h17 => ?_)
    · rw [bif_pos h17] at hF
      have q18 := ((or_t h17).imp (fun h => (not_t h)) (fun h => h))
      refine TC.seq ?_
      refine TC.region ?_
      refine TL.op (yq (y_assign ev_c)) rfl rfl rfl ?_
      refine TL.nil ?_
      refine TN.seq ?_
      refine TC.ret ?_
      refine TN.thenR ?_
      subst hF
      exact TN.ret1 rfl (ev_t rfl) (fun w' hw => ⟨rfl, Hp.sublist hw (List.nil_sublist _)⟩)
    · rw [bif_neg h17] at hF
      have q18 := (and_imp (or_f h17) (fun h => (not_f h)) (fun h => h))
      refine TC.skip ?_
      refine TN.seq ?_
      refine TC.seq ?_
      refine TC.region ?_
      refine TL.op (yq (y_assign ev_c)) rfl rfl rfl ?_
      refine TL.nil ?_
      refine TN.seq ?_
      refine TC.seq ?_
      refine TC.region ?_
      refine TL.op (yq (y_ldagg (cs := [r4_1.1]) 0 (ev_t rfl) agg_28 rfl)) rfl rfl rfl ?_
      refine TL.op (yq (y_move (ev_t rfl))) rfl rfl rfl ?_
      refine TL.callm (ι := Unit) 1 (vs := [(.agg #[r4_1.1]), (.int .i64 1)]) (fun _ => (.int .i64 ((F_laws_markMetric ((F_impl_ParseMetric aS).1) 1).1))) (fun _ => tabI 43 3 r4_1.1 r4_1.2 ((F_laws_markMetric ((F_impl_ParseMetric aS).1) 1).2)) en_12 ⟨(ev_t rfl), (ev_t rfl), trivial⟩ rfl rfl (fun w1 fr1 hw => laws_markMetric_ok w w1 _ r4_1.1 r4_1.2 ((F_impl_ParseMetric aS).1) hw 1 (by first | assumption | omega | grind) (by first | assumption | omega | grind)) (fun _ => ?_)
      refine TL.op (yq (y_assign (ev_t rfl))) rfl rfl rfl ?_
      refine TL.nil ?_
      refine TN.seq ?_
      refine TC.seq ?_
      refine TC.region ?_
      refine TL.op (yq (y_assign ev_c)) rfl rfl rfl ?_
      refine TL.nil ?_
      refine TN.seq ?_
      refine TC.seq ?_
      refine TC.region ?_
      refine TL.op (yq (y_ldagg (cs := [r4_1.1]) 0 (ev_t rfl) agg_28 rfl)) rfl rfl rfl ?_
      refine TL.op (yq (y_move (ev_t rfl))) rfl rfl rfl ?_
      refine TL.op (y_call (vs := [(.agg #[r4_1.1]), (.int .i64 1)]) (v := (.int .i64 (F_laws_heldMetric ((F_laws_markMetric ((F_impl_ParseMetric aS).1) 1).2) 1))) en_13 ⟨(ev_t rfl), (ev_t rfl), trivial⟩ (fun w hw => laws_heldMetric_ok w r4_1.1 r4_1.2 ((F_laws_markMetric ((F_impl_ParseMetric aS).1) 1).2) ((rii_tab 1 rfl) w hw) 1 (by first | assumption | omega | grind) (by first | assumption | omega | grind))) rfl rfl rfl ?_
      refine TL.op (yq (y_assign (ev_t rfl))) rfl rfl rfl ?_
      refine TL.nil ?_
      refine TN.seq ?_
      refine TC.seq ?_
      refine TC.seq ?_
      refine TC.region ?_
      refine TL.op (yq (y_move (ev_t rfl))) rfl rfl rfl ?_
      refine TL.op (yq (y_lss (ev_t rfl) ev_c)) rfl rfl rfl ?_
      refine TL.nil ?_
      refine TN.seq ?_
      refine TC.cond (b := decide ((F_laws_heldMetric ((F_laws_markMetric ((F_impl_ParseMetric aS).1) 1).2) 1) < 0)) (ev_t rfl) (fun h19 => ?_) (fun h19 => ?_)
      · rw [bif_pos h19] at hF
        have q20 := (of_decide_eq_true h19)
        refine TC.seq ?_
        refine TC.region ?_
        refine TL.op (yq (y_assign ev_c)) rfl rfl rfl ?_
        refine TL.nil ?_
        refine TN.seq ?_
        refine TC.ret ?_
        refine TN.thenR ?_
        subst hF
        exact TN.ret1 rfl (ev_t rfl) (fun w' hw => ⟨rfl, Hp.sublist hw (List.nil_sublist _)⟩)
      · rw [bif_neg h19] at hF
        have q20 := (of_decide_eq_false h19)
        refine TC.skip ?_
        refine TN.seq ?_
        refine TC.seq ?_
        refine TC.seq ?_
        refine TC.region ?_
        refine TL.op (yq (y_move (ev_t rfl))) rfl rfl rfl ?_
        refine TL.op (yq (y_move (ev_t rfl))) rfl rfl rfl ?_
        refine TL.op (yq (y_neq (ev_t rfl) (ev_t rfl))) rfl rfl rfl ?_
        refine TL.nil ?_
        refine TN.seq ?_
        refine TC.cond (b := !decide ((F_laws_heldMetric ((F_laws_markMetric ((F_impl_ParseMetric aS).1) 1).2) 1) = (F_laws_markMetric ((F_impl_ParseMetric aS).1) 1).1)) (ev_t rfl) (fun h21 => ?_) (fun h21 => ?_)
        · rw [bif_pos h21] at hF
          have q22 := (of_decide_eq_false (not_t h21))
          refine TC.seq ?_
          refine TC.region ?_
          refine TL.op (yq (y_assign ev_c)) rfl rfl rfl ?_
          refine TL.nil ?_
          refine TN.seq ?_
          refine TC.ret ?_
          refine TN.thenR ?_
          subst hF
          exact TN.ret1 rfl (ev_t rfl) (fun w' hw => ⟨rfl, Hp.sublist hw (List.nil_sublist _)⟩)
        · rw [bif_neg h21] at hF
          have q22 := (of_decide_eq_true (not_f h21))
          refine TC.skip ?_
          refine TN.seq ?_
          refine TC.seq ?_
          refine TC.region ?_
          refine TL.op (yq (y_move (ev_t rfl))) rfl rfl rfl ?_
          refine TL.callr (ι := Value × List Value) (vs := [(.string aS)]) (fun i => (.tuple #[(.agg #[i.1]), (.bool ((F_impl_ParseMetric aS).2))])) (fun i => [tabI 43 3 i.1 i.2 ((F_impl_ParseMetric aS).1)]) en_11 ⟨(ev_t rfl), trivial⟩ rfl (fun w hw => impl_ParseMetric_ok w (hvars.below hw.1) aS (by first | assumption | omega | grind)) (fun r15_1 => ?_)
          refine TL.op (yq (y_move (ev_t rfl))) rfl rfl rfl ?_
          refine TL.op (yq (y_extract (ev_t rfl) rfl)) rfl rfl rfl ?_
          refine TL.op (yq (y_extract (ev_t rfl) rfl)) rfl rfl rfl ?_
          refine TL.alloc (u := (.agg #[(.slice none 0 0)])) (by kernel_rfl) rfl (fun g15_5 => ?_)
          refine TL.storeAgg (cs := [(.slice none 0 0)]) (us := [r15_1.1]) 0 (ev_t rfl) (ev_t rfl) agg_28 rfl rfl (fun w hw => (ocs_cons (ln_one ((fun w hw => ((rii_tab 1 rfl) w hw).1) w hw).ln) ocs_nil)) ?_
          refine TL.op (yq (y_assign (ev_t rfl))) rfl rfl rfl ?_
          refine TL.nil ?_
          refine TN.seq ?_
          refine TC.seq ?_
          refine TC.seq ?_
          refine TC.region ?_
          refine TL.op (yq (y_ldagg (cs := [r15_1.1]) 0 (ev_t rfl) agg_28 rfl)) rfl rfl rfl ?_
          refine TL.op (yq (y_ldagg (cs := [r3_1.1]) 4 (ev_t rfl) agg_28 rfl)) rfl rfl rfl ?_
          refine TL.op (y_call (vs := [(.agg #[r15_1.1]), (.agg #[r3_1.1])]) (v := (.bool (F_laws_eqMetric ((F_impl_ParseMetric aS).1) ((F_spec_ParseMetric aS).1)))) en_9 ⟨(ev_t rfl), (ev_t rfl), trivial⟩ (fun w hw => laws_eqMetric_ok w r15_1.1 r15_1.2 ((F_impl_ParseMetric aS).1) ((rii_tab 1 rfl) w hw) r3_1.1 r3_1.2 ((F_spec_ParseMetric aS).1) ((rii_tab 5 rfl) w hw))) rfl rfl rfl ?_
          refine TL.op (yq (y_not (ev_t rfl))) rfl rfl rfl ?_
          refine TL.op (yq (y_move (ev_t rfl))) rfl rfl rfl ?_
          refine TL.opw (w_f rfl rfl rfl) (fun hg => yq (y_move (ev_t rfl))) rfl rfl ?_
          refine TL.opw (w_f rfl rfl rfl) (fun hg => yq (y_move (ev_t rfl))) rfl rfl ?_
          refine TL.opw (w_f rfl rfl rfl) (fun hg => yq (y_bneq (ev_g rfl hg) (ev_g rfl hg) Tryd.underlying4)) rfl rfl ?_
          refine TL.op (yq (y_or (ev_t rfl) (fun hq => (ev_g rfl hq)))) rfl rfl rfl ?_
          refine TL.nil ?_
          refine TN.seq ?_
          refine TC.condF (ev_t rfl) h17 ?_
          refine TC.skip ?_
          refine TN.seq ?_
          refine TC.seq ?_
          refine TC.region ?_
          refine TL.op (yq (y_assign ev_c)) rfl rfl rfl ?_
          refine TL.nil ?_
          refine TN.seq ?_
          refine TC.seq ?_
          refine TC.region ?_
          refine TL.op (yq (y_ldagg (cs := [r4_1.1]) 2 (ev_t rfl) agg_28 rfl)) rfl rfl rfl ?_
          refine TL.op (yq (y_move (ev_t rfl))) rfl rfl rfl ?_
          refine TL.op (y_call (vs := [(.agg #[r4_1.1]), (.int .i64 1)]) (v := (.int .i64 (F_laws_heldMetric ((F_laws_markMetric ((F_impl_ParseMetric aS).1) 1).2) 1))) en_13 ⟨(ev_t rfl), (ev_t rfl), trivial⟩ (fun w hw => laws_heldMetric_ok w r4_1.1 r4_1.2 ((F_laws_markMetric ((F_impl_ParseMetric aS).1) 1).2) ((rii_tab 3 rfl) w hw) 1 (by first | assumption | omega | grind) (by first | assumption | omega | grind))) rfl rfl rfl ?_
          refine TL.op (yq (y_assign (ev_t rfl))) rfl rfl rfl ?_
          refine TL.nil ?_
          refine TN.seq ?_
          refine TC.seq ?_
          refine TC.seq ?_
          refine TC.region ?_
          refine TL.op (yq (y_move (ev_t rfl))) rfl rfl rfl ?_
          refine TL.op (yq (y_lss (ev_t rfl) ev_c)) rfl rfl rfl ?_
          refine TL.nil ?_
          refine TN.seq ?_
          refine TC.condF (ev_t rfl) h19 ?_
          refine TC.skip ?_
          refine TN.seq ?_
          refine TC.seq ?_
          refine TC.seq ?_
          refine TC.region ?_
          refine TL.op (yq (y_move (ev_t rfl))) rfl rfl rfl ?_
          refine TL.op (yq (y_move (ev_t rfl))) rfl rfl rfl ?_
          refine TL.op (yq (y_neq (ev_t rfl) (ev_t rfl))) rfl rfl rfl ?_
          refine TL.nil ?_
          refine TN.seq ?_
          refine TC.condF (ev_t rfl) h21 ?_
          refine TC.skip ?_
          refine TN.seq ?_
          refine TC.seq ?_
          refine TC.region ?_
          refine TL.op (yq (y_assign ev_c)) rfl rfl rfl ?_
          refine TL.nil ?_
          refine TN.seq ?_
          refine TC.ret ?_
          subst hF
          exact TN.ret1 rfl (ev_t rfl) (fun w' hw => ⟨rfl, Hp.sublist hw (List.nil_sublist _)⟩)


end Go.Proofs.YtcmhgkcifejgcaaDoor
namespace Go.Proofs.YtcmhgkcifejgcaaDoor
set_option linter.unusedVariables false
set_option linter.unusedSimpArgs false
open Go Go.RowKit
set_option linter.unusedVariables false
set_option linter.unusedSimpArgs false
abbrev bl (s : ByteArray) : List UInt8 := s.data.toList
theorem bl_ext (s : ByteArray) (a b : Nat) : bl (s.extract a b) = ((bl s).take b).drop a := by
  unfold bl
  rw [ByteArray.data_extract, Array.toList_extract]
  simp [List.extract, List.drop_take]
theorem bl_len (s : ByteArray) : (bl s).length = s.size := rfl
theorem map_bl_inj : ∀ (a b : List ByteArray), a.map bl = b.map bl → a = b
  | [], [], _ => rfl
  | [], _ :: _, h => by cases h
  | _ :: _, [], h => by cases h
  | x :: a, y :: b, h => by
    simp only [List.map_cons, List.cons.injEq] at h
    rw [map_bl_inj a b h.2, ba_ext h.1]
def splitL (b : UInt8) : List UInt8 → List (List UInt8)
  | [] => [[]]
  | c :: r => if c = b then [] :: splitL b r else match splitL b r with
    | [] => [[c]]
    | x :: xs => (c :: x) :: xs
def att (p : List UInt8) : List (List UInt8) → List (List UInt8)
  | [] => [p]
  | x :: xs => (p ++ x) :: xs
theorem splitL_ne (b : UInt8) : ∀ l, splitL b l ≠ [] := by
  intro l
  cases l with
  | nil => simp [splitL]
  | cons c r =>
    unfold splitL
    split
    · simp
    · split <;> simp
theorem att_nil {X : List (List UInt8)} (h : X ≠ []) : att [] X = X := by
  cases X with
  | nil => exact absurd rfl h
  | cons x xs => rfl
theorem att_ne {b c : UInt8} (p r : List UInt8) (h : c ≠ b) : att p (splitL b (c :: r)) = att (p ++ [c]) (splitL b r) := by
  rw [splitL, if_neg h]
  cases hr : splitL b r with
  | nil => exact absurd hr (splitL_ne b r)
  | cons x xs => simp [att]
theorem att_eq (b : UInt8) (p r : List UInt8) : att p (splitL b (b :: r)) = p :: splitL b r := by
  rw [splitL, if_pos rfl]; simp [att]
theorem sl_eq (s : ByteArray) (b : UInt8) : ∀ (fuel k src : Nat) (d : List ByteArray), s.size - k < fuel → src ≤ k → k ≤ s.size →
    ∃ d' src' k', F_spec_l1Split_L1 s (b.toNat : Int) fuel (d, src, k) = .next (d', src', k') ∧ (d' ++ [s.extract src' s.size]).map bl = d.map bl ++ att (bl (s.extract src k)) (splitL b ((bl s).drop k)) := by
  intro fuel
  induction fuel with
  | zero => intro k src d h; omega
  | succ f ih =>
    intro k src d h hs hk
    rw [F_spec_l1Split_L1_s]
    have hL : (bl s).length = s.size := rfl
    by_cases hl : k < s.size
    · rw [bif_pos (decide_eq_true (by omega))]
      have hlt : k < (bl s).length := by rw [hL]; exact hl
      have hd : (bl s).drop k = (bl s)[k] :: (bl s).drop (k + 1) := List.drop_eq_getElem_cons hlt
      have hat : sAt s k = (((bl s)[k]).toNat : Int) := by
        unfold sAt
        rw [getD_lt _ _ _ hlt]
      by_cases hc : (bl s)[k] = b
      · rw [bif_pos (decide_eq_true (by rw [hat, hc]))]
        obtain ⟨d', src', k', h1, h2⟩ := ih (k + 1) (k + 1) (d ++ [s.extract src k]) (by omega) (by omega) (by omega)
        refine ⟨d', src', k', h1, ?_⟩
        rw [h2, hd, hc, att_eq, bl_ext s (k + 1) (k + 1), List.drop_eq_nil_of_le (by rw [List.length_take]; omega), att_nil (splitL_ne _ _)]
        simp
      · rw [bif_neg (decide_eq_false (by
          rw [hat]
          intro e
          exact hc (UInt8.toNat_inj.1 (by omega))))]
        obtain ⟨d', src', k', h1, h2⟩ := ih (k + 1) src d (by omega) (by omega) (by omega)
        refine ⟨d', src', k', h1, ?_⟩
        rw [h2, hd, att_ne _ _ hc, bl_ext, bl_ext, List.take_succ_eq_append_getElem hlt, List.drop_append_of_le_length (by rw [List.length_take]; omega)]
    · rw [bif_neg (decide_eq_false (by omega))]
      have : k = s.size := by omega
      subst this
      refine ⟨d, src, _, rfl, ?_⟩
      rw [List.drop_eq_nil_of_le (Nat.le_of_eq hL), List.map_append]
      simp [splitL, att]
theorem l1Split_eq (s : ByteArray) (b : UInt8) : (F_spec_l1Split s (b.toNat : Int)).map bl = splitL b (bl s) := by
  unfold F_spec_l1Split
  obtain ⟨d', src', k', h1, h2⟩ := sl_eq s b (s.size - 0 + 1) 0 0 [] (by omega) (by omega) (by omega)
  rw [h1, elim_next]
  dsimp only
  rw [h2, bl_ext, List.take_zero, List.drop_nil, att_nil (splitL_ne _ _)]
  rfl
theorem splitL_none {b : UInt8} : ∀ {p : List UInt8}, b ∉ p → splitL b p = [p]
  | [], _ => rfl
  | c :: r, h => by
    have h1 : c ≠ b := fun e => h (by simp [e])
    rw [splitL, if_neg h1, splitL_none (fun hm => h (List.mem_cons_of_mem _ hm))]
theorem splitL_cut {b : UInt8} (r : List UInt8) : ∀ {p : List UInt8}, b ∉ p → splitL b (p ++ b :: r) = p :: splitL b r
  | [], _ => by rw [List.nil_append, splitL, if_pos rfl]
  | c :: p, h => by
    have h1 : c ≠ b := fun e => h (by simp [e])
    rw [List.cons_append, splitL, if_neg h1, splitL_cut r (fun hm => h (List.mem_cons_of_mem _ hm))]
theorem splitL_join (b : UInt8) : ∀ parts : List (List UInt8), parts ≠ [] → (∀ p ∈ parts, b ∉ p) → splitL b (Lib.join parts [b]) = parts
  | [], h, _ => absurd rfl h
  | [p], _, h => by
    have : Lib.join [p] [b] = p := by simp [Lib.join, List.intercalate]
    rw [this, splitL_none (h p (by simp))]
  | p :: q :: r, _, h => by
    rw [join_cc, List.singleton_append, splitL_cut _ (h p (by simp)), splitL_join b (q :: r) (by simp) (fun x hx => h x (List.mem_cons_of_mem _ hx))]
theorem split_back (s : ByteArray) (b : UInt8) (parts : List ByteArray) (hn : parts ≠ []) (h : ∀ p ∈ parts, b ∉ bl p) (hs : bl s = Lib.join (parts.map bl) [b]) : F_spec_l1Split s (b.toNat : Int) = parts := by
  refine map_bl_inj _ _ ?_
  rw [l1Split_eq, hs, splitL_join b _ (by simpa using hn)]
  intro p hp
  obtain ⟨x, hx, rfl⟩ := List.mem_map.1 hp
  exact h x hx
/-! a separator of two bytes -/
theorem ix_cut (a b : UInt8) (t : List UInt8) : ∀ {p : List UInt8}, a ∉ p → Lib.index (p ++ a :: b :: t) [a, b] = (p.length : Int)
  | [], _ => by rw [List.nil_append, Lib.index, if_pos (by simp [List.isPrefixOf])]; rfl
  | c :: p, h => by
    have h1 : c ≠ a := fun e => h (by simp [e])
    have ih := ix_cut a b t (p := p) (fun hm => h (List.mem_cons_of_mem _ hm))
    rw [List.cons_append, Lib.index, if_neg (by simp [List.isPrefixOf, Ne.symm h1]), ih, if_neg (by simp)]
    simp
theorem ix_none (a b : UInt8) : ∀ {p : List UInt8}, a ∉ p → Lib.index p [a, b] = -1
  | [], _ => by simp [Lib.index]
  | c :: p, h => by
    have h1 : c ≠ a := fun e => h (by simp [e])
    have ih := ix_none a b (p := p) (fun hm => h (List.mem_cons_of_mem _ hm))
    rw [Lib.index, if_neg (by simp [List.isPrefixOf, Ne.symm h1]), ih, if_pos (by simp)]
theorem splitK_back (a b : UInt8) : ∀ parts : List (List UInt8), parts ≠ [] → (∀ p ∈ parts, a ∉ p) → Lib.splitK [a, b] 0 (Lib.count (Lib.join parts [a, b]) [a, b]) (Lib.join parts [a, b]) = parts
  | [], h, _ => absurd rfl h
  | [p], _, h => by
    have : Lib.join [p] [a, b] = p := by simp [Lib.join, List.intercalate]
    rw [this, Lib.count_miss (ix_none a b (h p (by simp)))]
    rfl
  | p :: q :: r, _, h => by
    have ih := splitK_back a b (q :: r) (by simp) (fun x hx => h x (List.mem_cons_of_mem _ hx))
    have hj : Lib.join (p :: q :: r) [a, b] = p ++ a :: b :: Lib.join (q :: r) [a, b] := by rw [join_cc]; rfl
    have hi := ix_cut a b (Lib.join (q :: r) [a, b]) (h p (by simp))
    have hd : (p ++ a :: b :: Lib.join (q :: r) [a, b]).drop (p.length + 2) = Lib.join (q :: r) [a, b] := by
      rw [← List.drop_drop, List.drop_left]; rfl
    have hcn := Lib.count_hit (by simp) hi
    rw [show (List.length [a, b]) = 2 from rfl, hd] at hcn
    rw [hj, hcn, Nat.add_comm, Lib.splitK, if_neg (by rw [hi]; simp), hi]
    rw [show ((p.length : Int)).toNat = p.length by omega, show (List.length [a, b]) = 2 from rfl, hd, ih, Nat.add_zero, List.take_left]
theorem splitS_back (rows : List ByteArray) (hn : rows ≠ []) (h : ∀ r ∈ rows, (59 : UInt8) ∉ bl r) : splitS (joinB rows (ByteArray.mk #[59, 32])) (ByteArray.mk #[59, 32]) = rows := by
  refine map_bl_inj _ _ ?_
  unfold splitS
  have e1 := Lib.splitB_data (ByteArray.mk #[59, 32]) 0 (Lib.countB (joinB rows (ByteArray.mk #[59, 32])) (ByteArray.mk #[59, 32])) (joinB rows (ByteArray.mk #[59, 32]))
  refine e1.trans ?_
  have e2 : Lib.countB (joinB rows (ByteArray.mk #[59, 32])) (ByteArray.mk #[59, 32]) = Lib.count (Lib.join (rows.map bl) [59, 32]) [59, 32] := by
    unfold Lib.countB
    rw [joinB_d]
  rw [e2, joinB_d]
  refine splitK_back 59 32 (rows.map bl) (by simpa using hn) ?_
  intro p hp
  obtain ⟨x, hx, rfl⟩ := List.mem_map.1 hp
  exact h x hx
end Go.Proofs.YtcmhgkcifejgcaaDoor
namespace Go.Proofs.YtcmhgkcifejgcaaDoor
set_option linter.unusedVariables false
set_option linter.unusedSimpArgs false
open Go Go.RowKit
set_option linter.unusedVariables false
set_option linter.unusedSimpArgs false
theorem of8 {k : Nat} (h : k < 10) : (UInt8.ofNat (48 + k)).toNat = 48 + k := by
  rw [UInt8.toNat_ofNat']; omega
/-- A number below 100 is a digit or two. -/
theorem dec_shape {n : Int} (h : 0 ≤ n ∧ n < 100) : (∃ k, k < 10 ∧ n = (k : Nat) ∧ F_impl_dec n = ⟨#[UInt8.ofNat (48 + k)]⟩) ∨ ∃ a b : Nat, 1 ≤ a ∧ a < 10 ∧ b < 10 ∧ n = ((10 * a + b : Nat) : Int) ∧ F_impl_dec n = ⟨#[UInt8.ofNat (48 + a), UInt8.ofNat (48 + b)]⟩ := by
  unfold F_impl_dec
  by_cases h2 : n < 10
  · exact .inl ⟨n.toNat, by omega, by omega, itoaB_one h.1 h2⟩
  · exact .inr ⟨n.toNat / 10, n.toNat % 10, by omega, by omega, by omega, by omega, itoaB_two (by omega) h.2⟩
theorem dec_byte {n : Int} (h : 0 ≤ n ∧ n < 100) : ∀ c ∈ bl (F_impl_dec n), 48 ≤ c.toNat ∧ c.toNat ≤ 57 := by
  rcases dec_shape h with ⟨k, hk, _, e⟩ | ⟨a, b, _, ha, hb, _, e⟩
  · rw [e]
    intro c hc
    have hc2 : c = UInt8.ofNat (48 + k) := by simpa using hc
    subst hc2
    rw [of8 hk]; omega
  · rw [e]
    intro c hc
    have hc2 : c = UInt8.ofNat (48 + a) ∨ c = UInt8.ofNat (48 + b) := by simpa using hc
    rcases hc2 with hc2 | hc2
    · subst hc2; rw [of8 ha]; omega
    · subst hc2; rw [of8 hb]; omega
theorem itoaA_eq {n : Int} (h : 0 ≤ n) : itoaA n = F_impl_dec n := by
  obtain ⟨k, rfl⟩ : ∃ k : Nat, n = k := ⟨n.toNat, by omega⟩
  unfold itoaA F_impl_dec itoaB
  rw [Lib.itoa_nonneg]
  rfl
theorem at_one : ∀ k : Nat, k < 10 → Lib.atoiAll [UInt8.ofNat (48 + k)] = .ok ((k : Nat) : Int) := by decide +kernel
theorem at_two : ∀ a : Nat, a < 10 → ∀ b : Nat, b < 10 → Lib.atoiAll [UInt8.ofNat (48 + a), UInt8.ofNat (48 + b)] = .ok ((10 * a + b : Nat) : Int) := by decide +kernel
theorem readDec_dec {n : Int} (h : 0 ≤ n ∧ n < 100) : readDecF (F_impl_dec n) = (n, true) := by
  have hA : Lib.atoiAll (F_impl_dec n).data.toList = .ok n := by
    rcases dec_shape h with ⟨k, hk, hn, e⟩ | ⟨a, b, _, ha, hb, hn, e⟩
    · rw [e, hn]; exact at_one k hk
    · rw [e, hn]; exact at_two a ha b hb
  unfold readDecF
  rw [hA]
  dsimp only
  rw [itoaA_eq h.1, show (!((F_impl_dec n).toList == (F_impl_dec n).toList)) = false by simp, cond_false]
theorem lead {n : Int} (h : 0 ≤ n ∧ n < 100) : sAt (F_impl_dec n) 0 ≠ 45 ∧ 1 ≤ (F_impl_dec n).size := by
  rcases dec_shape h with ⟨k, hk, hn, e⟩ | ⟨a, b, _, ha, hb, hn, e⟩
  · rw [e]
    refine ⟨?_, by show 1 ≤ 1; omega⟩
    show ((UInt8.ofNat (48 + k)).toNat : Int) ≠ 45
    rw [of8 hk]; omega
  · rw [e]
    refine ⟨?_, by show 1 ≤ 2; omega⟩
    show ((UInt8.ofNat (48 + a)).toNat : Int) ≠ 45
    rw [of8 ha]; omega
theorem read_L1 {n : Int} (h : 0 ≤ n ∧ n < 100) : ∃ i', F_spec_l1Read_L1 (F_impl_dec n) (((F_impl_dec n).size - 0) + 1) (0, 0) = .next (n, i') := by
  rcases dec_shape h with ⟨k, hk, hn, e⟩ | ⟨a, b, _, ha, hb, hn, e⟩
  · rw [e]
    have h0 : sAt ⟨#[UInt8.ofNat (48 + k)]⟩ 0 = 48 + (k : Int) := by
      show ((UInt8.ofNat (48 + k)).toNat : Int) = _
      rw [of8 hk]; omega
    have hz : (ByteArray.mk #[UInt8.ofNat (48 + k)]).size = 1 := rfl
    rw [hz, show (1 - 0 + 1 : Nat) = 2 from rfl, F_spec_l1Read_L1_s, hz, bif_pos (by decide), h0, bif_neg (by rw [decide_eq_false (by omega), decide_eq_false (by omega)]; rfl), F_spec_l1Read_L1_s, hz, bif_neg (by decide)]
    exact ⟨_, by rw [hn]; congr 2; omega⟩
  · rw [e]
    have h0 : sAt ⟨#[UInt8.ofNat (48 + a), UInt8.ofNat (48 + b)]⟩ 0 = 48 + (a : Int) := by
      show ((UInt8.ofNat (48 + a)).toNat : Int) = _
      rw [of8 ha]; omega
    have h1 : sAt ⟨#[UInt8.ofNat (48 + a), UInt8.ofNat (48 + b)]⟩ 1 = 48 + (b : Int) := by
      show ((UInt8.ofNat (48 + b)).toNat : Int) = _
      rw [of8 hb]; omega
    have hz : (ByteArray.mk #[UInt8.ofNat (48 + a), UInt8.ofNat (48 + b)]).size = 2 := rfl
    rw [hz, show (2 - 0 + 1 : Nat) = 3 from rfl, F_spec_l1Read_L1_s, hz, bif_pos (by decide), h0, bif_neg (by rw [decide_eq_false (by omega), decide_eq_false (by omega)]; rfl)]
    rw [F_spec_l1Read_L1_s, hz, bif_pos (by decide), show (0 + 1 : Nat) = 1 from rfl, h1, bif_neg (by rw [decide_eq_false (by omega), decide_eq_false (by omega)]; rfl), F_spec_l1Read_L1_s, hz, bif_neg (by decide)]
    exact ⟨_, by rw [hn]; congr 2; omega⟩
theorem read_dec {n : Int} (h : 0 ≤ n ∧ n < 100) : F_spec_l1Read (F_impl_dec n) = (n, true) := by
  have h1 := lead h
  have h2 := dec_size h
  obtain ⟨i', h3⟩ := read_L1 h
  unfold F_spec_l1Read
  rw [bif_neg (by rw [decide_eq_false h1.1, Bool.and_false]), elim_next]
  dsimp only
  rw [bif_neg (by rw [decide_eq_true (by omega), decide_eq_true (by omega)]; rfl), h3, elim_next]
  dsimp only
  rw [bif_neg (decide_eq_false (by omega)), num_dec h, show (!((F_impl_dec n).toList == (F_impl_dec n).toList)) = false by simp, cond_false]
theorem mem_join {c : UInt8} (sep : List UInt8) : ∀ xs : List (List UInt8), c ∈ Lib.join xs sep → c ∈ sep ∨ ∃ x ∈ xs, c ∈ x
  | [], h => by simp [Lib.join, List.intercalate] at h
  | [x], h => .inr ⟨x, by simp, by simpa [Lib.join, List.intercalate] using h⟩
  | x :: y :: r, h => by
    rw [join_cc] at h
    rcases List.mem_append.1 h with h | h
    · exact .inr ⟨x, by simp, h⟩
    · rcases List.mem_append.1 h with h | h
      · exact .inl h
      · rcases mem_join sep (y :: r) h with h | ⟨z, hz, h⟩
        · exact .inl h
        · exact .inr ⟨z, List.mem_cons_of_mem _ hz, h⟩
theorem row_mem {m : List (List Int)} (hT : TabP false m) {r : List Int} (hr : r ∈ m) : (∀ n ∈ r, 0 ≤ n ∧ n < 100) ∧ r.length = m.length := by
  obtain ⟨x, hx, rfl⟩ := List.getElem_of_mem hr
  have h1 := hT.rows x hx
  rw [getD_lt _ _ _ hx] at h1
  refine ⟨fun n hn => ?_, h1⟩
  obtain ⟨y, hy, rfl⟩ := List.getElem_of_mem hn
  have h2 := row_rng hT x y
  rw [getD_lt _ _ _ hx, getD_lt _ _ _ hy] at h2
  exact h2
theorem row_no {l : List Int} (hl : ∀ n ∈ l, 0 ≤ n ∧ n < 100) : (59 : UInt8) ∉ bl (F_impl_spaced l) := by
  rw [spaced_eq]
  intro h
  unfold bl at h
  rw [joinB_d] at h
  rcases mem_join _ _ h with h | ⟨x, hx, h⟩
  · exact absurd h (by decide)
  · obtain ⟨b, hb, rfl⟩ := List.mem_map.1 hx
    obtain ⟨n, hn, rfl⟩ := List.mem_map.1 hb
    have := dec_byte (hl n hn) 59 h
    have e : (59 : UInt8).toNat = 59 := rfl
    omega
/-- A row's text split into its words. -/
theorem words {l : List Int} (hn : l ≠ []) (hl : ∀ n ∈ l, 0 ≤ n ∧ n < 100) : F_spec_l1Split (F_impl_spaced l) 32 = decs l := by
  refine split_back (F_impl_spaced l) 32 (decs l) (by unfold decs; simpa using hn) ?_ ?_
  · intro p hp hm
    obtain ⟨n, hn, rfl⟩ := List.mem_map.1 hp
    have := dec_byte (hl n hn) 32 hm
    have e : (32 : UInt8).toNat = 32 := rfl
    omega
  · rw [spaced_eq]
    exact joinB_d _ _
theorem decs_get {l : List Int} {k : Nat} (hk : k < l.length) : (decs l).getD k ByteArray.empty = F_impl_dec (l.getD k 0) := by
  unfold decs
  rw [getD_lt _ _ _ (by rw [List.length_map]; exact hk), getD_lt _ _ _ hk, List.getElem_map]
theorem rl_L1 {l : List Int} (hn : l ≠ []) (hl : ∀ n ∈ l, 0 ≤ n ∧ n < 100) : ∀ (fuel k : Nat), l.length - k < fuel → k ≤ l.length → ∃ k', F_impl_readList_L1 (F_impl_spaced l) fuel (l.take k, k) = .next (l, k') := by
  have hlen : (decs l).length = l.length := by unfold decs; rw [List.length_map]
  intro fuel
  induction fuel with
  | zero => intro k h; omega
  | succ f ih =>
    intro k h hk
    rw [F_impl_readList_L1_s, split_same, words hn hl, hlen]
    by_cases hlt : k < l.length
    · have hm := hl (l.getD k 0) (getD_mem _ _ _ hlt)
      rw [bif_pos (decide_eq_true (by omega)), decs_get hlt, readDec_dec hm]
      dsimp only
      rw [bif_neg (by rfl)]
      have e : l.take k ++ [l.getD k 0] = l.take (k + 1) := by rw [List.take_succ_eq_append_getElem hlt, getD_lt _ _ _ hlt]
      rw [e]
      exact ih (k + 1) (by omega) (by omega)
    · rw [bif_neg (decide_eq_false (by omega)), List.take_of_length_le (by omega)]
      exact ⟨_, rfl⟩
theorem readList_row {l : List Int} (hn : l ≠ []) (hl : ∀ n ∈ l, 0 ≤ n ∧ n < 100) : F_impl_readList (F_impl_spaced l) = (l, true) := by
  have hlen : (decs l).length = l.length := by unfold decs; rw [List.length_map]
  unfold F_impl_readList
  rw [split_same, words hn hl, hlen]
  obtain ⟨k', h⟩ := rl_L1 hn hl (l.length - 0 + 1) 0 (by omega) (by omega)
  rw [List.take_zero] at h
  rw [h, elim_next]
theorem rows_split {m : List (List Int)} (hT : TabP false m) : splitS (F_impl_metricText m) (ByteArray.mk #[59, 32]) = m.map F_impl_spaced := by
  have hn1 := hT.n1
  rw [metricText_eq]
  refine splitS_back _ (fun h => ?_) (fun r hr => ?_)
  · rw [List.map_eq_nil_iff] at h; rw [h] at hn1; simp at hn1
  · obtain ⟨l, hl, rfl⟩ := List.mem_map.1 hr
    exact row_no (row_mem hT hl).1
theorem map_get {m : List (List Int)} {k : Nat} (hk : k < m.length) : (m.map F_impl_spaced).getD k ByteArray.empty = F_impl_spaced (m.getD k []) := by
  rw [getD_lt _ _ _ (by rw [List.length_map]; exact hk), getD_lt _ _ _ hk, List.getElem_map]
theorem row_ne {m : List (List Int)} (hT : TabP false m) {k : Nat} (hk : k < m.length) : m.getD k [] ≠ [] := fun h => by
  have h1 := hT.rows k hk
  have := hT.n1
  rw [h] at h1
  simp at h1
  omega
theorem pm_L1 {m : List (List Int)} (hT : TabP false m) : ∀ (fuel k : Nat), m.length - k < fuel → k ≤ m.length → ∃ k', F_impl_ParseMetric_L1 (F_impl_metricText m) fuel (k, m.take k) = .next (k', m) := by
  intro fuel
  induction fuel with
  | zero => intro k h; omega
  | succ f ih =>
    intro k h hk
    rw [F_impl_ParseMetric_L1_s, rows_split hT, List.length_map]
    by_cases hl : k < m.length
    · have hr := (row_mem hT (getD_mem m k [] hl)).1
      rw [bif_pos (decide_eq_true (by omega)), map_get hl, readList_row (row_ne hT hl) hr]
      dsimp only
      rw [bif_neg (by rfl)]
      have e : m.take k ++ [m.getD k []] = m.take (k + 1) := by rw [List.take_succ_eq_append_getElem hl, getD_lt _ _ _ hl]
      rw [e]
      exact ih (k + 1) (by omega) (by omega)
    · rw [bif_neg (decide_eq_false (by omega)), List.take_of_length_le (by omega)]
      exact ⟨_, rfl⟩
theorem claimA {m : List (List Int)} (hg : F_spec_l6Good m = true) : F_impl_ParseMetric (F_impl_metricText m) = (m, true) := by
  have hT := ((l6Good_iff m).1 hg).1
  unfold F_impl_ParseMetric
  obtain ⟨k', h⟩ := pm_L1 hT (m.length - 0 + 1) 0 (by omega) (by omega)
  rw [List.take_zero] at h
  rw [rows_split hT, List.length_map, h, elim_next]
  dsimp only
  rw [isMetric_eq, hg]
  simp
/-! the reference -/
/-- A part ahead of which a blank may stand. -/
def padded (m : List (List Int)) : List ByteArray := match m with
  | [] => []
  | r :: t => F_impl_spaced r :: t.map (fun x => ByteArray.mk #[32] ++ F_impl_spaced x)
theorem join_pad : ∀ (x : List UInt8) (r : List (List UInt8)), Lib.join (x :: r) [59, 32] = Lib.join (x :: r.map (fun y => 32 :: y)) [59]
  | x, [] => by simp [Lib.join, List.intercalate]
  | x, y :: r => by
    have h := join_pad y r
    rw [join_cc, h, List.map_cons, join_cc]
    cases r with
    | nil => simp [Lib.join, List.intercalate]
    | cons z t => rw [List.map_cons, join_cc, join_cc]; simp
theorem pad_split {m : List (List Int)} (hT : TabP false m) : F_spec_l1Split (F_impl_metricText m) 59 = padded m := by
  have hn1 := hT.n1
  cases hm : m with
  | nil => rw [hm] at hn1; simp at hn1
  | cons r t =>
    have hr : ∀ l ∈ m, (59 : UInt8) ∉ bl (F_impl_spaced l) := fun l hl => row_no (row_mem hT hl).1
    rw [hm] at hr
    refine split_back (F_impl_metricText (r :: t)) 59 (padded (r :: t)) (by unfold padded; simp) ?_ ?_
    · intro p hp
      unfold padded at hp
      rcases List.mem_cons.1 hp with e | e
      · rw [e]; exact hr r (by simp)
      · obtain ⟨l, hl, rfl⟩ := List.mem_map.1 e
        intro h
        unfold bl at h
        rw [ba_app] at h
        rcases List.mem_append.1 h with h | h
        · exact absurd h (by decide)
        · exact hr l (List.mem_cons_of_mem _ hl) h
    · rw [metricText_eq]
      refine (joinB_d _ _).trans ?_
      have e1 : ((r :: t).map F_impl_spaced).map (fun x => x.data.toList) = bl (F_impl_spaced r) :: (t.map (fun x => bl (F_impl_spaced x))) := by
        rw [List.map_map]; rfl
      have e2 : (padded (r :: t)).map bl = bl (F_impl_spaced r) :: (t.map (fun x => bl (F_impl_spaced x))).map (fun y => 32 :: y) := by
        unfold padded
        rw [List.map_cons, List.map_map, List.map_map]
        congr 1
      rw [e1, e2]
      exact join_pad _ _
theorem pad_len (m : List (List Int)) : (padded m).length = m.length := by
  cases m with
  | nil => rfl
  | cons r t => unfold padded; simp
theorem pad_zero {m : List (List Int)} (h : 0 < m.length) : (padded m).getD 0 ByteArray.empty = F_impl_spaced (m.getD 0 []) := by
  cases m with
  | nil => simp at h
  | cons r t => rfl
theorem pad_succ {m : List (List Int)} {k : Nat} (h : k < m.length) (hk : 0 < k) : (padded m).getD k ByteArray.empty = ByteArray.mk #[32] ++ F_impl_spaced (m.getD k []) := by
  cases m with
  | nil => simp at h
  | cons r t =>
    obtain ⟨j, rfl⟩ : ∃ j, k = j + 1 := ⟨k - 1, by omega⟩
    have hj : j < t.length := by simpa using h
    unfold padded
    rw [List.getD_cons_succ, List.getD_cons_succ, getD_lt _ _ _ (by rw [List.length_map]; exact hj), getD_lt _ _ _ hj, List.getElem_map]
theorem sp_L2 {l : List Int} (hn : l ≠ []) (h6 : l.length ≤ 6) (hl : ∀ n ∈ l, 0 ≤ n ∧ n < 100) : ∀ (fuel k : Nat), l.length - k < fuel → k ≤ l.length → ∃ k', F_spec_ParseMetric_L2 (F_impl_spaced l) fuel (l.take k, k) = .next (l, k') := by
  have hlen : (decs l).length = l.length := by unfold decs; rw [List.length_map]
  intro fuel
  induction fuel with
  | zero => intro k h; omega
  | succ f ih =>
    intro k h hk
    rw [F_spec_ParseMetric_L2_s, words hn hl, hlen]
    by_cases hlt : k < l.length
    · have hm := hl (l.getD k 0) (getD_mem _ _ _ hlt)
      rw [bif_pos (gand (decide_eq_true (by omega)) (decide_eq_true (by omega))), decs_get hlt, read_dec hm]
      dsimp only
      rw [bif_neg (by rfl)]
      have e : l.take k ++ [l.getD k 0] = l.take (k + 1) := by rw [List.take_succ_eq_append_getElem hlt, getD_lt _ _ _ hlt]
      rw [e]
      exact ih (k + 1) (by omega) (by omega)
    · rw [bif_neg (by rw [decide_eq_false (by omega)]; rfl), List.take_of_length_le (by omega)]
      exact ⟨_, rfl⟩
theorem pm_S1 {m : List (List Int)} (hT : TabP false m) : ∀ (fuel k : Nat), m.length - k < fuel → k ≤ m.length → ∃ k', F_spec_ParseMetric_L1 (F_impl_metricText m) fuel (k, m.take k) = .next (k', m) := by
  have h6 := hT.n6
  intro fuel
  induction fuel with
  | zero => intro k h; omega
  | succ f ih =>
    intro k h hk
    rw [F_spec_ParseMetric_L1_s, pad_split hT, pad_len]
    by_cases hl : k < m.length
    · have hm := row_mem hT (getD_mem m k [] hl)
      have hr := hm.1
      have e : m.take k ++ [m.getD k []] = m.take (k + 1) := by rw [List.take_succ_eq_append_getElem hl, getD_lt _ _ _ hl]
      obtain ⟨k2, h2⟩ := sp_L2 (row_ne hT hl) (by omega) hr (7 - 0 + 1) 0 (by omega) (by omega)
      rw [List.take_zero] at h2
      rw [bif_pos (gand (decide_eq_true (by omega)) (decide_eq_true (by omega)))]
      by_cases h0 : k = 0
      · subst h0
        rw [bif_neg (by rw [decide_eq_false (show ¬ (0 : Int) < ((0 : Nat) : Int) by omega)]; rfl), elim_next, pad_zero hl, h2, elim_next]
        dsimp only
        rw [e]
        exact ih 1 (by omega) (by omega)
      · rw [pad_succ hl (by omega)]
        have hz : (ByteArray.mk #[32] ++ F_impl_spaced (m.getD k [])).size = 1 + (F_impl_spaced (m.getD k [])).size := by
          rw [ByteArray.size_append]; rfl
        have hc : sAt (ByteArray.mk #[32] ++ F_impl_spaced (m.getD k [])) 0 = 32 := by
          unfold sAt
          rw [ba_app]
          rfl
        have hx : (ByteArray.mk #[32] ++ F_impl_spaced (m.getD k [])).extract 1 (ByteArray.mk #[32] ++ F_impl_spaced (m.getD k [])).size = F_impl_spaced (m.getD k []) := ba_ext (by
          have := bl_ext (ByteArray.mk #[32] ++ F_impl_spaced (m.getD k [])) 1 (ByteArray.mk #[32] ++ F_impl_spaced (m.getD k [])).size
          have ht : ((ByteArray.mk #[32] ++ F_impl_spaced (m.getD k [])).data.toList).take (ByteArray.mk #[32] ++ F_impl_spaced (m.getD k [])).size = (ByteArray.mk #[32] ++ F_impl_spaced (m.getD k [])).data.toList := List.take_of_length_le (Nat.le_refl _)
          unfold bl at this
          rw [this, ht, ba_app]
          rfl)
        rw [bif_pos (gand (gand (decide_eq_true (by omega)) (decide_eq_true (by omega))) (decide_eq_true hc)), elim_next, hx, h2, elim_next]
        dsimp only
        rw [e]
        exact ih (k + 1) (by omega) (by omega)
    · rw [bif_neg (by rw [decide_eq_false (by omega)]; rfl), List.take_of_length_le (by omega)]
      exact ⟨_, rfl⟩
theorem claimB {m : List (List Int)} (hg : F_spec_l6Good m = true) : F_spec_ParseMetric (F_impl_metricText m) = (m, true) := by
  have hT := ((l6Good_iff m).1 hg).1
  have h6 := hT.n6
  unfold F_spec_ParseMetric
  obtain ⟨k', h⟩ := pm_S1 hT (7 - 0 + 1) 0 (by omega) (by omega)
  rw [List.take_zero] at h
  rw [h, elim_next]
  dsimp only
  rw [hg, text_eq hT]
  simp
theorem parse_both (s : ByteArray) : F_impl_ParseMetric s = F_spec_ParseMetric s := by
  rcases parseI s with h1 | ⟨m, h1, hg, hs⟩
  · rcases parseS s with h2 | ⟨m, h2, hg, hs⟩
    · rw [h1, h2]
    · rw [hs, claimA hg, claimB hg]
  · rw [hs, claimA hg, claimB hg]
theorem law_ParseMetric (s : ByteArray) : F_laws_FnExactParseMetric s = true := by
  unfold F_laws_FnExactParseMetric
  simp only [parse_both, eqMetric_refl, markMetric_eq, heldMetric_marked _ 1 (by omega)]
  have h2 : ¬ ((1 : Int) + (total (F_spec_ParseMetric s).1 : Int) < 0) := by omega
  simp [h2]
end Go.Proofs.YtcmhgkcifejgcaaDoor
