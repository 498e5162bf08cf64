/-
  Part of a proof: rules of the walk, plain functions and their laws, walks. No condition.
-/
import Derived.Test.YtcmhgkcifejgcaaKFnRunsAndUses3
import Derived.Lib.SliceRun
import Derived.Test.YtcmhgkcifejgcaaProg
namespace Go.Proofs.Ytcmhgkcifejgcaa
set_option linter.unusedVariables false
set_option linter.unusedSimpArgs false
open Go Go.RowKit
section
variable {P : Program} {ops : Array Oper} {Q : Exit → Act → World → Prop} {N : Nat} {C : World → Prop} {rest : List Oper} {l : Sl}
variable {w0 : World} {os : List Ck} {v u z : Value} {t e : TypeId} {bytes d : Nat} {x y : Operand} {ty : TypeId} {ps : String} {af : Array Edge}
theorem owns_setCells {base g n cap : Nat} : ∀ (vs : List Value) (o : Nat) (w : World) (xs : List Value), o + vs.length ≤ xs.length → w.ownsRow base e 1 (.slice (some ⟨g, 0, none⟩) n cap) n xs →
    (w.setCells g o vs).ownsRow base e 1 (.slice (some ⟨g, 0, none⟩) n cap) n (xs.take o ++ vs ++ xs.drop (o + vs.length)) ∧ w.grownBy (w.setCells g o vs) (some g)
  | [], o, w, xs, h, hw => by
    refine ⟨by simpa [World.setCells] using hw, ?_⟩
    exact ⟨rfl, rfl, rfl, Nat.le_refl _, fun _ _ _ => rfl⟩
  | v :: r, o, w, xs, h, hw => by
    obtain ⟨s1, s2⟩ := World.ownsRow.stored hw o v
    simp only [List.length_cons] at h
    obtain ⟨t1, t2⟩ := owns_setCells r (o + 1) (w.setCell ⟨g, o, none⟩ v) (xs.set o v) (by simp; omega) s1
    refine ⟨?_, s2.trans t2⟩
    have e1 : (xs.set o v).take (o + 1) = xs.take o ++ [v] := by
      rw [List.set_eq_take_append_cons_drop, if_pos (by omega), List.take_append]
      have : (xs.take o).length = o := by simp; omega
      rw [List.take_of_length_le (l := xs.take o) (by omega), this, show o + 1 - o = 1 by omega]
      rfl
    have e2 : (xs.set o v).drop (o + 1 + r.length) = xs.drop (o + (v :: r).length) := by
      rw [List.drop_set_of_lt (by omega)]
      congr 1
      simp; omega
    rw [e1, e2] at t1
    have e3 : xs.take o ++ v :: r = xs.take o ++ [v] ++ r := by simp
    rw [e3]
    exact t1
theorem run_clearI {base : Nat} {w : World} (hT : SlT P t e (.int .i64 0) 1 bytes) {zs : List Int} (hown : Own w base e 1 v zs.length (ints zs)) {lo : Nat} (h1 : lo < zs.length) :
    ∃ w', (Builtin.clear_ #[t] ty #[resl v lo zs.length 1]).run P w = .ok (.tuple #[]) w' ∧ w.grownBy w' (obk v) ∧ Own w' base e 1 v zs.length (ints (zs.take lo ++ List.replicate (zs.length - lo) 0)) := by
  obtain ⟨i, hi, hz, hs, hby⟩ := info_parts hT.2.1
  rcases hown.2 with ⟨⟨B, rfl⟩, h0⟩ | ⟨g, cap, cur, rfl, hc0, hB, hg, hnc, hcm, hcs, htk⟩
  · omega
  · have hr : w.ownsRow base e 1 (.slice (some ⟨g, 0, none⟩) zs.length cap) zs.length (ints zs) := ⟨hown.1, .inr ⟨g, cap, cur, rfl, hB, hg, hnc, hcm, hcs, htk⟩⟩
    have hres : resl (.slice (some ⟨g, 0, none⟩) zs.length cap) lo zs.length 1 = .slice (some ⟨g, lo, none⟩) (zs.length - lo) (cap - lo) := by
      show Value.slice (if cap = lo then _ else _) _ _ = _
      rw [if_neg (by omega)]
      simp [Addr.add_lit]
    have hcl := Lib.run_clear_slice (P := P) w t e ty (.int .i64 0) hT.1 (fun w => by simp [zeroValue, typeInfo, hi, hz]) rfl rfl g lo (zs.length - lo) (cap - lo) (by omega)
      (fun j hj => by
        rw [World.ownsRow.cellAt hr (lo + j) (by omega), List.getElem?_eq_getElem (by simp; omega)]; rfl)
      (fun j _ => World.ownsRow.frozenAt hr (lo + j))
    obtain ⟨s1, s2⟩ := owns_setCells (List.replicate (zs.length - lo) (.int .i64 0)) lo w (ints zs) (by simp; omega) hr
    rw [hres]
    refine ⟨_, hcl, by rw [own_obk hc0]; exact s2, ?_⟩
    have e1 : (ints zs).take lo ++ List.replicate (zs.length - lo) (Value.int .i64 0) ++ (ints zs).drop (lo + (List.replicate (zs.length - lo) (Value.int .i64 0)).length) = ints (zs.take lo ++ List.replicate (zs.length - lo) 0) := by
      simp [ints, List.map_take, List.map_replicate, show lo + (zs.length - lo) = zs.length by omega]
    rw [e1] at s1
    exact Own.of s1
/-- The tail of an owned row is put to nought. -/
theorem TL.clearI (i : Nat) {lo : Nat} {zs : List Int} (hx : Ev l x (resl v lo zs.length 1)) (ho : os[i]? = some (rowI e v zs)) (hT : SlT P t e (.int .i64 0) 1 bytes) (h1 : lo < zs.length)
    (h : TL P ops Q N (Hp w0 (os.set i (rowI e v (zs.take lo ++ List.replicate (zs.length - lo) 0)))) rest l) :
    TL P ops Q N (Hp w0 os) (⟨none, .call { callee := .builtin .clear, args := #[x], argTypes := #[t] }, ty, ps, af, none⟩ :: rest) l := TL.raw rfl fun a w hs hw => by
  obtain ⟨w', hrun, e1, e2⟩ := run_clearI (P := P) (ty := ty) hT (hw.get i ho) h1
  have hl : (zs.take lo ++ List.replicate (zs.length - lo) (0 : Int)).length = zs.length := by simp; omega
  unfold Oper.wp
  simp only [execOp, resolve, invoke, builtin, Sem.run_bind, Sem.run_pure, Result.andThen_ok, List.map_toArray, List.map_cons, List.map_nil, hx N a hs, hrun, Oper.upon]
  refine h _ _ hs (hw.turn_at i ho e1.os e1.tape e1.output e1.size (fun k hk hne => e1.block k hk (fun hh => hne hh.symm)) ?_ (fun k hk => .inl hk))
  show Own _ _ _ _ _ _ _
  rw [hl]; exact e2
/-- An owned row, cut short. -/
theorem Hp.cut {w : World} (i : Nat) {k : Nat} {zs : List Int} (h : Hp w0 os w) (ho : os[i]? = some (rowI e v zs)) (hk : k ≤ zs.length) : Hp w0 (os.set i (rowI e (resl v 0 k 1) ((zs.take k).drop 0))) w := by
  have hown : Own w w0.heap.size e 1 v zs.length (ints zs) := h.get i ho
  have hlen : ((zs.take k).drop 0).length = k := by simp; omega
  have hints : ints ((zs.take k).drop 0) = (ints zs).take k := by simp [ints, List.map_take]
  refine h.turn_at i ho rfl rfl rfl (Nat.le_refl _) (fun _ _ _ => rfl) ?_ (fun q hq => ?_)
  · show Own _ _ _ _ _ _ _
    rw [hlen, hints]
    rcases hown.2 with ⟨⟨A, rfl⟩, h0⟩ | ⟨g, cap, cur, rfl, hc0, hB, hg, hnc, hcm, hcs, htk⟩
    · have : k = 0 := by omega
      subst this
      exact ⟨by simp, .inl ⟨⟨_, rfl⟩, rfl⟩⟩
    · refine ⟨by simp; omega, .inr ⟨g, cap, cur, ?_, hc0, hB, hg, by omega, hcm, hcs, ?_⟩⟩
      · show Value.slice (if cap = 0 then _ else _) _ _ = _
        rw [if_neg (by omega)]
        simp [Addr.add_lit]
      · rw [← htk, List.take_take, Nat.mul_one, Nat.mul_one]
        congr 1; omega
  · left
    have hq' : obk (resl v 0 k 1) = some q := hq
    show obk v = some q
    rcases hown.2 with ⟨⟨A, rfl⟩, h0⟩ | ⟨g, cap, cur, rfl, hc0, _⟩
    · have : k = 0 := by omega
      subst this
      rw [show resl (.slice A 0 0) 0 0 1 = .slice A 0 0 from rfl] at hq'
      exact hq'
    · have e1 : resl (.slice (some ⟨g, 0, none⟩) zs.length cap) 0 k 1 = .slice (some ⟨g, 0, none⟩) k cap := by
        show Value.slice (if cap = 0 then _ else _) _ _ = _
        rw [if_neg (by omega)]
        simp [Addr.add_lit]
      rw [e1, own_obk hc0] at hq'
      rw [own_obk hc0]; exact hq'
variable {k : Nat} {ars : List Operand} {vs : List Value} {ats : Array TypeId}
theorem Hp.picksF {w : World} {ks fr os' : List Ck} (is : List Nat) (hn : is.Nodup) (hp : is.map (fun i : Nat => ks[i]?) = os'.map some) (h : Hp w0 (ks ++ fr) w) : Hp w0 (os' ++ fr) w := by
  have h1 : Hp w0 ks w := h.sublist (List.sublist_append_left ks fr)
  have h2 := h1.picks is hn hp
  have h3 := List.pairwise_append.1 h.2.2
  refine ⟨h.1, fun c hc => ?_, ?_⟩
  · rcases List.mem_append.1 hc with hc | hc
    · exact h2.2.1 c hc
    · exact h.2.1 c (List.mem_append_right _ hc)
  · rw [List.pairwise_append]
    refine ⟨h2.2.2, h3.2.1, fun a ha b hb => h3.2.2 a ?_ b hb⟩
    have : some a ∈ os'.map some := List.mem_map_of_mem ha
    rw [← hp] at this
    obtain ⟨i, _, hi⟩ := List.mem_map.1 this
    exact List.mem_of_getElem? hi
/-- A call that writes into a chunk, reads the others, and hands back new ones. -/
theorem TL.callmX {ι : Type} {p : Prop} (i : Nat) {c : Ck} (ret : ι → Value) (c' : ι → Ck) (rs : ι → List Ck) (he : En P k) (hv : Evs l ars vs) (hb : Nat.blt d N = true) (ho : os[i]? = some c)
    (hc : ∀ w, Hp w0 os w → Hp w0 (c :: os.eraseIdx i) w → Calls P k vs.toArray w (fun e w' => p ∧ ∃ j, e = .returned (ret j) ∧ Hp w0 ((c' j :: rs j) ++ os.eraseIdx i) w')) (h : p → ∀ j, TL P ops Q N (Hp w0 (rs j ++ os.set i (c' j))) rest ((d, ret j) :: l)) :
    TL P ops Q N (Hp w0 os) (⟨some d, .call { callee := .value (.func k), args := ars.toArray, argTypes := ats }, ty, ps, af, none⟩ :: rest) l := by
  obtain ⟨hlt, hget⟩ := List.getElem?_eq_some_iff.1 ho
  have p1 : (c :: os.eraseIdx i).Perm os := by
    rw [← hget]
    have h := List.perm_middle (a := os[i]) (l₁ := os.take i) (l₂ := os.drop (i + 1))
    have e1 : os.take i ++ os[i] :: os.drop (i + 1) = os := by rw [← List.drop_eq_getElem_cons hlt, List.take_append_drop]
    rw [e1] at h
    rw [List.eraseIdx_eq_take_drop_succ]
    exact h.symm
  have p2 : ∀ c', (os.set i c').Perm (c' :: os.eraseIdx i) := fun c' => by
    rw [List.set_eq_take_append_cons_drop, if_pos hlt, List.eraseIdx_eq_take_drop_succ]
    exact List.perm_middle
  have p3 : ∀ j, (rs j ++ os.set i (c' j)).Perm ((c' j :: rs j) ++ os.eraseIdx i) := fun j => ((p2 (c' j)).append_left (rs j)).trans List.perm_middle
  exact TL.call (D := fun v w' => p ∧ ∃ j, v = ret j ∧ Hp w0 (rs j ++ os.set i (c' j)) w') he hv hb (fun w hw => (hc w hw (hw.perm p1)).mono fun _ _ ⟨hp, j, h1, h2⟩ => ⟨_, h1, hp, j, rfl, h2.perm (p3 _)⟩)
    (fun v a w hs ⟨hp, i, h1, h2⟩ => by subst h1; exact h hp i a w hs h2)
/-- A call that writes into a chunk and reads the others. -/
theorem TL.callmR {ι : Type} (i : Nat) {c : Ck} (ret : ι → Value) (c' : ι → Ck) (he : En P k) (hv : Evs l ars vs) (hb : Nat.blt d N = true) (ho : os[i]? = some c)
    (hc : ∀ w, Hp w0 os w → Hp w0 (c :: os.eraseIdx i) w → Calls P k vs.toArray w (fun e w' => ∃ j, e = .returned (ret j) ∧ Hp w0 (c' j :: os.eraseIdx i) w')) (h : ∀ j, TL P ops Q N (Hp w0 (os.set i (c' j))) rest ((d, ret j) :: l)) :
    TL P ops Q N (Hp w0 os) (⟨some d, .call { callee := .value (.func k), args := ars.toArray, argTypes := ats }, ty, ps, af, none⟩ :: rest) l := by
  obtain ⟨hlt, hget⟩ := List.getElem?_eq_some_iff.1 ho
  have p1 : (c :: os.eraseIdx i).Perm os := by
    rw [← hget]
    have h := List.perm_middle (a := os[i]) (l₁ := os.take i) (l₂ := os.drop (i + 1))
    have e1 : os.take i ++ os[i] :: os.drop (i + 1) = os := by rw [← List.drop_eq_getElem_cons hlt, List.take_append_drop]
    rw [e1] at h
    rw [List.eraseIdx_eq_take_drop_succ]
    exact h.symm
  have p2 : ∀ c', (os.set i c').Perm (c' :: os.eraseIdx i) := fun c' => by
    rw [List.set_eq_take_append_cons_drop, if_pos hlt, List.eraseIdx_eq_take_drop_succ]
    exact List.perm_middle
  exact TL.call (D := fun v w' => ∃ j, v = ret j ∧ Hp w0 (os.set i (c' j)) w') he hv hb (fun w hw => (hc w hw (hw.perm p1)).mono fun _ _ ⟨j, h1, h2⟩ => ⟨_, h1, j, rfl, h2.perm (p2 _)⟩)
    (fun v a w hs ⟨i, h1, h2⟩ => by subst h1; exact h i a w hs h2)
end
/-- A list without the places from i up to j. -/
def delI (xs : List Int) (i j : Int) : List Int := xs.take i.toNat ++ xs.drop j.toNat
theorem delI_len (xs : List Int) {i j : Int} (h : 0 ≤ i ∧ i ≤ j ∧ j ≤ xs.length) : (delI xs i j).length + (j - i).toNat = xs.length := by
  unfold delI; simp; omega
end Go.Proofs.Ytcmhgkcifejgcaa
namespace Go.Proofs.Ytcmhgkcifejgcaa
set_option linter.unusedVariables false
set_option linter.unusedSimpArgs false
open Go Go.RowKit

theorem slT_34 : SlT Try.prog 34 3 (.int .i64 0) 1 8 := ⟨Try.underlying34, by kernel_rfl, rfl, by decide⟩
theorem slT_49 : SlT Try.prog 49 34 (.slice none 0 0) 1 24 := ⟨Try.underlying49, by kernel_rfl, rfl, by decide⟩
theorem slT_26 : SlT Try.prog 26 9 (.string ByteArray.empty) 1 16 := ⟨Try.underlying26, by kernel_rfl, rfl, by decide⟩
theorem slT_22 : SlT Try.prog 22 5 (.int .u8 0) 1 1 := ⟨Try.underlying22, by kernel_rfl, rfl, by decide⟩
theorem slT_143 : SlT Try.prog 143 4 (.bool false) 1 1 := ⟨Try.underlying143, by kernel_rfl, rfl, by decide⟩
theorem one_3 : One Try.prog 3 := ⟨fun _ => by kernel_rfl, by kernel_rfl⟩
theorem one_4 : One Try.prog 4 := ⟨fun _ => by kernel_rfl, by kernel_rfl⟩
theorem one_9 : One Try.prog 9 := ⟨fun _ => by kernel_rfl, by kernel_rfl⟩
theorem one_5 : One Try.prog 5 := ⟨fun _ => by kernel_rfl, by kernel_rfl⟩
theorem one_34 : One Try.prog 34 := ⟨fun _ => by kernel_rfl, by kernel_rfl⟩
theorem one_49 : One Try.prog 49 := ⟨fun _ => by kernel_rfl, by kernel_rfl⟩
theorem one_26 : One Try.prog 26 := ⟨fun _ => by kernel_rfl, by kernel_rfl⟩
theorem one_22 : One Try.prog 22 := ⟨fun _ => by kernel_rfl, by kernel_rfl⟩
theorem one_73 : One Try.prog 73 := ⟨fun _ => by kernel_rfl, by kernel_rfl⟩
theorem fa_55_0 (b : Nat) (w : World) : (Instr.fieldAt 55 (.pointer (some ⟨b, 0, none⟩)) 0).run Try.prog w = .ok (.pointer (some ⟨b, 0, none⟩)) w := by kernel_rfl
theorem agg_55 : AggT Try.prog 55 1 := ⟨.inl ⟨_, Try.underlying55⟩, by kernel_rfl⟩
theorem bd_55_0 (w : World) : (Instr.build 55 #[]).run Try.prog w = .ok (.agg #[.slice none 0 0]) w := by kernel_rfl
theorem bd_55_1 (A : Option Addr) (n c : Nat) (w : World) : (Instr.build 55 #[(0, .slice A n c)]).run Try.prog w = .ok (.agg #[.slice A n c]) w := by kernel_rfl
theorem fd_55_0 (v : Value) (w : World) : (Instr.field 55 (.agg #[v]) 0).run Try.prog w = .ok v w := by kernel_rfl
theorem fa_51_0 (b : Nat) (w : World) : (Instr.fieldAt 51 (.pointer (some ⟨b, 0, none⟩)) 0).run Try.prog w = .ok (.pointer (some ⟨b, 0, none⟩)) w := by kernel_rfl
theorem agg_51 : AggT Try.prog 51 1 := ⟨.inl ⟨_, Try.underlying51⟩, by kernel_rfl⟩
theorem bd_51_0 (w : World) : (Instr.build 51 #[]).run Try.prog w = .ok (.agg #[.slice none 0 0]) w := by kernel_rfl
theorem bd_51_1 (A : Option Addr) (n c : Nat) (w : World) : (Instr.build 51 #[(0, .slice A n c)]).run Try.prog w = .ok (.agg #[.slice A n c]) w := by kernel_rfl
theorem fd_51_0 (v : Value) (w : World) : (Instr.field 51 (.agg #[v]) 0).run Try.prog w = .ok v w := by kernel_rfl
theorem en_2 : En Try.prog 2 := en_of Try.func2 (by kernel_rfl) (by kernel_rfl)
theorem en_3 : En Try.prog 3 := en_of Try.func3 (by kernel_rfl) (by kernel_rfl)
theorem en_4 : En Try.prog 4 := en_of Try.func4 (by kernel_rfl) (by kernel_rfl)
theorem en_5 : En Try.prog 5 := en_of Try.func5 (by kernel_rfl) (by kernel_rfl)
theorem en_6 : En Try.prog 6 := en_of Try.func6 (by kernel_rfl) (by kernel_rfl)
theorem en_7 : En Try.prog 7 := en_of Try.func7 (by kernel_rfl) (by kernel_rfl)
theorem en_8 : En Try.prog 8 := en_of Try.func8 (by kernel_rfl) (by kernel_rfl)
theorem en_9 : En Try.prog 9 := en_of Try.func9 (by kernel_rfl) (by kernel_rfl)
theorem en_10 : En Try.prog 10 := en_of Try.func10 (by kernel_rfl) (by kernel_rfl)
theorem en_11 : En Try.prog 11 := en_of Try.func11 (by kernel_rfl) (by kernel_rfl)
theorem en_12 : En Try.prog 12 := en_of Try.func12 (by kernel_rfl) (by kernel_rfl)
theorem en_13 : En Try.prog 13 := en_of Try.func13 (by kernel_rfl) (by kernel_rfl)
theorem en_14 : En Try.prog 14 := en_of Try.func14 (by kernel_rfl) (by kernel_rfl)
theorem en_15 : En Try.prog 15 := en_of Try.func15 (by kernel_rfl) (by kernel_rfl)
theorem en_16 : En Try.prog 16 := en_of Try.func16 (by kernel_rfl) (by kernel_rfl)
theorem en_17 : En Try.prog 17 := en_of Try.func17 (by kernel_rfl) (by kernel_rfl)
theorem en_18 : En Try.prog 18 := en_of Try.func18 (by kernel_rfl) (by kernel_rfl)
theorem en_19 : En Try.prog 19 := en_of Try.func19 (by kernel_rfl) (by kernel_rfl)
theorem en_20 : En Try.prog 20 := en_of Try.func20 (by kernel_rfl) (by kernel_rfl)
theorem en_21 : En Try.prog 21 := en_of Try.func21 (by kernel_rfl) (by kernel_rfl)
theorem en_22 : En Try.prog 22 := en_of Try.func22 (by kernel_rfl) (by kernel_rfl)
theorem en_23 : En Try.prog 23 := en_of Try.func23 (by kernel_rfl) (by kernel_rfl)
theorem en_24 : En Try.prog 24 := en_of Try.func24 (by kernel_rfl) (by kernel_rfl)
theorem en_25 : En Try.prog 25 := en_of Try.func25 (by kernel_rfl) (by kernel_rfl)
theorem en_26 : En Try.prog 26 := en_of Try.func26 (by kernel_rfl) (by kernel_rfl)
theorem en_27 : En Try.prog 27 := en_of Try.func27 (by kernel_rfl) (by kernel_rfl)
theorem en_28 : En Try.prog 28 := en_of Try.func28 (by kernel_rfl) (by kernel_rfl)
theorem en_29 : En Try.prog 29 := en_of Try.func29 (by kernel_rfl) (by kernel_rfl)
theorem en_30 : En Try.prog 30 := en_of Try.func30 (by kernel_rfl) (by kernel_rfl)
theorem en_31 : En Try.prog 31 := en_of Try.func31 (by kernel_rfl) (by kernel_rfl)
theorem en_32 : En Try.prog 32 := en_of Try.func32 (by kernel_rfl) (by kernel_rfl)
theorem en_33 : En Try.prog 33 := en_of Try.func33 (by kernel_rfl) (by kernel_rfl)
theorem en_34 : En Try.prog 34 := en_of Try.func34 (by kernel_rfl) (by kernel_rfl)
theorem en_35 : En Try.prog 35 := en_of Try.func35 (by kernel_rfl) (by kernel_rfl)
theorem en_36 : En Try.prog 36 := en_of Try.func36 (by kernel_rfl) (by kernel_rfl)
theorem en_37 : En Try.prog 37 := en_of Try.func37 (by kernel_rfl) (by kernel_rfl)
theorem en_38 : En Try.prog 38 := en_of Try.func38 (by kernel_rfl) (by kernel_rfl)
theorem en_39 : En Try.prog 39 := en_of Try.func39 (by kernel_rfl) (by kernel_rfl)
theorem en_40 : En Try.prog 40 := en_of Try.func40 (by kernel_rfl) (by kernel_rfl)
theorem en_41 : En Try.prog 41 := en_of Try.func41 (by kernel_rfl) (by kernel_rfl)
theorem en_42 : En Try.prog 42 := en_of Try.func42 (by kernel_rfl) (by kernel_rfl)
theorem en_43 : En Try.prog 43 := en_of Try.func43 (by kernel_rfl) (by kernel_rfl)
theorem en_44 : En Try.prog 44 := en_of Try.func44 (by kernel_rfl) (by kernel_rfl)
theorem en_45 : En Try.prog 45 := en_of Try.func45 (by kernel_rfl) (by kernel_rfl)
theorem en_46 : En Try.prog 46 := en_of Try.func46 (by kernel_rfl) (by kernel_rfl)
theorem en_47 : En Try.prog 47 := en_of Try.func47 (by kernel_rfl) (by kernel_rfl)
theorem en_48 : En Try.prog 48 := en_of Try.func48 (by kernel_rfl) (by kernel_rfl)
theorem en_49 : En Try.prog 49 := en_of Try.func49 (by kernel_rfl) (by kernel_rfl)
theorem en_50 : En Try.prog 50 := en_of Try.func50 (by kernel_rfl) (by kernel_rfl)
theorem en_51 : En Try.prog 51 := en_of Try.func51 (by kernel_rfl) (by kernel_rfl)
theorem en_52 : En Try.prog 52 := en_of Try.func52 (by kernel_rfl) (by kernel_rfl)
theorem en_53 : En Try.prog 53 := en_of Try.func53 (by kernel_rfl) (by kernel_rfl)
theorem en_54 : En Try.prog 54 := en_of Try.func54 (by kernel_rfl) (by kernel_rfl)
theorem en_55 : En Try.prog 55 := en_of Try.func55 (by kernel_rfl) (by kernel_rfl)
theorem en_56 : En Try.prog 56 := en_of Try.func56 (by kernel_rfl) (by kernel_rfl)
theorem en_57 : En Try.prog 57 := en_of Try.func57 (by kernel_rfl) (by kernel_rfl)
theorem en_58 : En Try.prog 58 := en_of Try.func58 (by kernel_rfl) (by kernel_rfl)
theorem en_59 : En Try.prog 59 := en_of Try.func59 (by kernel_rfl) (by kernel_rfl)
theorem en_60 : En Try.prog 60 := en_of Try.func60 (by kernel_rfl) (by kernel_rfl)
theorem en_61 : En Try.prog 61 := en_of Try.func61 (by kernel_rfl) (by kernel_rfl)
theorem en_62 : En Try.prog 62 := en_of Try.func62 (by kernel_rfl) (by kernel_rfl)
theorem en_63 : En Try.prog 63 := en_of Try.func63 (by kernel_rfl) (by kernel_rfl)
theorem en_64 : En Try.prog 64 := en_of Try.func64 (by kernel_rfl) (by kernel_rfl)
theorem en_65 : En Try.prog 65 := en_of Try.func65 (by kernel_rfl) (by kernel_rfl)
theorem en_66 : En Try.prog 66 := en_of Try.func66 (by kernel_rfl) (by kernel_rfl)
theorem en_67 : En Try.prog 67 := en_of Try.func67 (by kernel_rfl) (by kernel_rfl)
theorem en_68 : En Try.prog 68 := en_of Try.func68 (by kernel_rfl) (by kernel_rfl)
theorem en_69 : En Try.prog 69 := en_of Try.func69 (by kernel_rfl) (by kernel_rfl)
theorem en_70 : En Try.prog 70 := en_of Try.func70 (by kernel_rfl) (by kernel_rfl)
theorem en_71 : En Try.prog 71 := en_of Try.func71 (by kernel_rfl) (by kernel_rfl)
theorem en_72 : En Try.prog 72 := en_of Try.func72 (by kernel_rfl) (by kernel_rfl)
theorem en_73 : En Try.prog 73 := en_of Try.func73 (by kernel_rfl) (by kernel_rfl)
theorem en_74 : En Try.prog 74 := en_of Try.func74 (by kernel_rfl) (by kernel_rfl)
theorem en_75 : En Try.prog 75 := en_of Try.func75 (by kernel_rfl) (by kernel_rfl)
theorem en_76 : En Try.prog 76 := en_of Try.func76 (by kernel_rfl) (by kernel_rfl)
theorem en_77 : En Try.prog 77 := en_of Try.func77 (by kernel_rfl) (by kernel_rfl)
theorem en_78 : En Try.prog 78 := en_of Try.func78 (by kernel_rfl) (by kernel_rfl)
theorem en_79 : En Try.prog 79 := en_of Try.func79 (by kernel_rfl) (by kernel_rfl)
theorem en_80 : En Try.prog 80 := en_of Try.func80 (by kernel_rfl) (by kernel_rfl)
theorem en_81 : En Try.prog 81 := en_of Try.func81 (by kernel_rfl) (by kernel_rfl)
theorem en_82 : En Try.prog 82 := en_of Try.func82 (by kernel_rfl) (by kernel_rfl)
theorem en_83 : En Try.prog 83 := en_of Try.func83 (by kernel_rfl) (by kernel_rfl)
theorem en_84 : En Try.prog 84 := en_of Try.func84 (by kernel_rfl) (by kernel_rfl)
theorem en_85 : En Try.prog 85 := en_of Try.func85 (by kernel_rfl) (by kernel_rfl)
theorem en_86 : En Try.prog 86 := en_of Try.func86 (by kernel_rfl) (by kernel_rfl)
theorem en_87 : En Try.prog 87 := en_of Try.func87 (by kernel_rfl) (by kernel_rfl)
theorem en_88 : En Try.prog 88 := en_of Try.func88 (by kernel_rfl) (by kernel_rfl)
theorem en_89 : En Try.prog 89 := en_of Try.func89 (by kernel_rfl) (by kernel_rfl)
theorem en_90 : En Try.prog 90 := en_of Try.func90 (by kernel_rfl) (by kernel_rfl)
theorem en_91 : En Try.prog 91 := en_of Try.func91 (by kernel_rfl) (by kernel_rfl)
theorem en_92 : En Try.prog 92 := en_of Try.func92 (by kernel_rfl) (by kernel_rfl)
theorem en_93 : En Try.prog 93 := en_of Try.func93 (by kernel_rfl) (by kernel_rfl)
theorem en_94 : En Try.prog 94 := en_of Try.func94 (by kernel_rfl) (by kernel_rfl)
theorem en_95 : En Try.prog 95 := en_of Try.func95 (by kernel_rfl) (by kernel_rfl)
theorem en_96 : En Try.prog 96 := en_of Try.func96 (by kernel_rfl) (by kernel_rfl)
theorem en_97 : En Try.prog 97 := en_of Try.func97 (by kernel_rfl) (by kernel_rfl)
theorem en_98 : En Try.prog 98 := en_of Try.func98 (by kernel_rfl) (by kernel_rfl)
theorem en_99 : En Try.prog 99 := en_of Try.func99 (by kernel_rfl) (by kernel_rfl)
theorem en_100 : En Try.prog 100 := en_of Try.func100 (by kernel_rfl) (by kernel_rfl)
theorem en_101 : En Try.prog 101 := en_of Try.func101 (by kernel_rfl) (by kernel_rfl)
theorem en_102 : En Try.prog 102 := en_of Try.func102 (by kernel_rfl) (by kernel_rfl)
theorem en_103 : En Try.prog 103 := en_of Try.func103 (by kernel_rfl) (by kernel_rfl)
theorem en_104 : En Try.prog 104 := en_of Try.func104 (by kernel_rfl) (by kernel_rfl)
theorem en_105 : En Try.prog 105 := en_of Try.func105 (by kernel_rfl) (by kernel_rfl)
theorem en_106 : En Try.prog 106 := en_of Try.func106 (by kernel_rfl) (by kernel_rfl)
theorem en_107 : En Try.prog 107 := en_of Try.func107 (by kernel_rfl) (by kernel_rfl)
theorem en_108 : En Try.prog 108 := en_of Try.func108 (by kernel_rfl) (by kernel_rfl)
theorem en_109 : En Try.prog 109 := en_of Try.func109 (by kernel_rfl) (by kernel_rfl)
theorem en_110 : En Try.prog 110 := en_of Try.func110 (by kernel_rfl) (by kernel_rfl)
theorem en_111 : En Try.prog 111 := en_of Try.func111 (by kernel_rfl) (by kernel_rfl)
theorem en_112 : En Try.prog 112 := en_of Try.func112 (by kernel_rfl) (by kernel_rfl)
theorem en_113 : En Try.prog 113 := en_of Try.func113 (by kernel_rfl) (by kernel_rfl)
theorem en_114 : En Try.prog 114 := en_of Try.func114 (by kernel_rfl) (by kernel_rfl)
theorem en_115 : En Try.prog 115 := en_of Try.func115 (by kernel_rfl) (by kernel_rfl)
theorem en_116 : En Try.prog 116 := en_of Try.func116 (by kernel_rfl) (by kernel_rfl)
theorem en_117 : En Try.prog 117 := en_of Try.func117 (by kernel_rfl) (by kernel_rfl)
theorem en_118 : En Try.prog 118 := en_of Try.func118 (by kernel_rfl) (by kernel_rfl)
theorem en_119 : En Try.prog 119 := en_of Try.func119 (by kernel_rfl) (by kernel_rfl)
theorem en_120 : En Try.prog 120 := en_of Try.func120 (by kernel_rfl) (by kernel_rfl)
theorem en_121 : En Try.prog 121 := en_of Try.func121 (by kernel_rfl) (by kernel_rfl)
theorem en_122 : En Try.prog 122 := en_of Try.func122 (by kernel_rfl) (by kernel_rfl)
theorem en_123 : En Try.prog 123 := en_of Try.func123 (by kernel_rfl) (by kernel_rfl)
theorem en_124 : En Try.prog 124 := en_of Try.func124 (by kernel_rfl) (by kernel_rfl)
theorem en_125 : En Try.prog 125 := en_of Try.func125 (by kernel_rfl) (by kernel_rfl)
theorem en_126 : En Try.prog 126 := en_of Try.func126 (by kernel_rfl) (by kernel_rfl)
theorem en_127 : En Try.prog 127 := en_of Try.func127 (by kernel_rfl) (by kernel_rfl)
theorem en_128 : En Try.prog 128 := en_of Try.func128 (by kernel_rfl) (by kernel_rfl)
theorem en_129 : En Try.prog 129 := en_of Try.func129 (by kernel_rfl) (by kernel_rfl)
theorem en_130 : En Try.prog 130 := en_of Try.func130 (by kernel_rfl) (by kernel_rfl)
theorem en_131 : En Try.prog 131 := en_of Try.func131 (by kernel_rfl) (by kernel_rfl)
theorem en_132 : En Try.prog 132 := en_of Try.func132 (by kernel_rfl) (by kernel_rfl)
theorem en_133 : En Try.prog 133 := en_of Try.func133 (by kernel_rfl) (by kernel_rfl)
theorem en_134 : En Try.prog 134 := en_of Try.func134 (by kernel_rfl) (by kernel_rfl)
theorem en_135 : En Try.prog 135 := en_of Try.func135 (by kernel_rfl) (by kernel_rfl)
theorem en_136 : En Try.prog 136 := en_of Try.func136 (by kernel_rfl) (by kernel_rfl)
theorem en_137 : En Try.prog 137 := en_of Try.func137 (by kernel_rfl) (by kernel_rfl)
theorem en_138 : En Try.prog 138 := en_of Try.func138 (by kernel_rfl) (by kernel_rfl)
theorem en_139 : En Try.prog 139 := en_of Try.func139 (by kernel_rfl) (by kernel_rfl)
theorem en_140 : En Try.prog 140 := en_of Try.func140 (by kernel_rfl) (by kernel_rfl)
theorem en_141 : En Try.prog 141 := en_of Try.func141 (by kernel_rfl) (by kernel_rfl)
theorem en_142 : En Try.prog 142 := en_of Try.func142 (by kernel_rfl) (by kernel_rfl)
theorem en_143 : En Try.prog 143 := en_of Try.func143 (by kernel_rfl) (by kernel_rfl)
theorem en_144 : En Try.prog 144 := en_of Try.func144 (by kernel_rfl) (by kernel_rfl)
theorem en_145 : En Try.prog 145 := en_of Try.func145 (by kernel_rfl) (by kernel_rfl)
theorem en_146 : En Try.prog 146 := en_of Try.func146 (by kernel_rfl) (by kernel_rfl)
theorem en_147 : En Try.prog 147 := en_of Try.func147 (by kernel_rfl) (by kernel_rfl)
theorem en_148 : En Try.prog 148 := en_of Try.func148 (by kernel_rfl) (by kernel_rfl)
theorem en_149 : En Try.prog 149 := en_of Try.func149 (by kernel_rfl) (by kernel_rfl)
theorem en_150 : En Try.prog 150 := en_of Try.func150 (by kernel_rfl) (by kernel_rfl)
theorem en_151 : En Try.prog 151 := en_of Try.func151 (by kernel_rfl) (by kernel_rfl)
theorem en_153 : En Try.prog 153 := en_of Try.func153 (by kernel_rfl) (by kernel_rfl)
theorem en_154 : En Try.prog 154 := en_of Try.func154 (by kernel_rfl) (by kernel_rfl)
theorem en_155 : En Try.prog 155 := en_of Try.func155 (by kernel_rfl) (by kernel_rfl)
theorem en_156 : En Try.prog 156 := en_of Try.func156 (by kernel_rfl) (by kernel_rfl)
theorem en_157 : En Try.prog 157 := en_of Try.func157 (by kernel_rfl) (by kernel_rfl)
theorem en_158 : En Try.prog 158 := en_of Try.func158 (by kernel_rfl) (by kernel_rfl)
theorem en_159 : En Try.prog 159 := en_of Try.func159 (by kernel_rfl) (by kernel_rfl)
theorem en_160 : En Try.prog 160 := en_of Try.func160 (by kernel_rfl) (by kernel_rfl)
theorem en_161 : En Try.prog 161 := en_of Try.func161 (by kernel_rfl) (by kernel_rfl)
theorem en_162 : En Try.prog 162 := en_of Try.func162 (by kernel_rfl) (by kernel_rfl)
theorem en_163 : En Try.prog 163 := en_of Try.func163 (by kernel_rfl) (by kernel_rfl)
theorem en_164 : En Try.prog 164 := en_of Try.func164 (by kernel_rfl) (by kernel_rfl)
theorem en_165 : En Try.prog 165 := en_of Try.func165 (by kernel_rfl) (by kernel_rfl)
theorem en_166 : En Try.prog 166 := en_of Try.func166 (by kernel_rfl) (by kernel_rfl)
theorem en_167 : En Try.prog 167 := en_of Try.func167 (by kernel_rfl) (by kernel_rfl)
theorem en_168 : En Try.prog 168 := en_of Try.func168 (by kernel_rfl) (by kernel_rfl)
theorem en_169 : En Try.prog 169 := en_of Try.func169 (by kernel_rfl) (by kernel_rfl)
theorem en_170 : En Try.prog 170 := en_of Try.func170 (by kernel_rfl) (by kernel_rfl)
theorem en_171 : En Try.prog 171 := en_of Try.func171 (by kernel_rfl) (by kernel_rfl)
theorem en_174 : En Try.prog 174 := en_of Try.func174 (by kernel_rfl) (by kernel_rfl)
theorem en_175 : En Try.prog 175 := en_of Try.func175 (by kernel_rfl) (by kernel_rfl)
theorem en_176 : En Try.prog 176 := en_of Try.func176 (by kernel_rfl) (by kernel_rfl)
theorem en_177 : En Try.prog 177 := en_of Try.func177 (by kernel_rfl) (by kernel_rfl)
theorem en_178 : En Try.prog 178 := en_of Try.func178 (by kernel_rfl) (by kernel_rfl)
theorem en_179 : En Try.prog 179 := en_of Try.func179 (by kernel_rfl) (by kernel_rfl)
theorem en_180 : En Try.prog 180 := en_of Try.func180 (by kernel_rfl) (by kernel_rfl)
theorem en_181 : En Try.prog 181 := en_of Try.func181 (by kernel_rfl) (by kernel_rfl)
theorem en_182 : En Try.prog 182 := en_of Try.func182 (by kernel_rfl) (by kernel_rfl)
theorem en_183 : En Try.prog 183 := en_of Try.func183 (by kernel_rfl) (by kernel_rfl)
theorem en_184 : En Try.prog 184 := en_of Try.func184 (by kernel_rfl) (by kernel_rfl)
theorem en_185 : En Try.prog 185 := en_of Try.func185 (by kernel_rfl) (by kernel_rfl)
theorem en_186 : En Try.prog 186 := en_of Try.func186 (by kernel_rfl) (by kernel_rfl)
theorem en_187 : En Try.prog 187 := en_of Try.func187 (by kernel_rfl) (by kernel_rfl)
theorem en_188 : En Try.prog 188 := en_of Try.func188 (by kernel_rfl) (by kernel_rfl)
theorem en_189 : En Try.prog 189 := en_of Try.func189 (by kernel_rfl) (by kernel_rfl)
theorem en_190 : En Try.prog 190 := en_of Try.func190 (by kernel_rfl) (by kernel_rfl)
theorem en_191 : En Try.prog 191 := en_of Try.func191 (by kernel_rfl) (by kernel_rfl)
theorem en_192 : En Try.prog 192 := en_of Try.func192 (by kernel_rfl) (by kernel_rfl)
theorem en_193 : En Try.prog 193 := en_of Try.func193 (by kernel_rfl) (by kernel_rfl)
theorem en_194 : En Try.prog 194 := en_of Try.func194 (by kernel_rfl) (by kernel_rfl)
theorem en_195 : En Try.prog 195 := en_of Try.func195 (by kernel_rfl) (by kernel_rfl)
theorem en_196 : En Try.prog 196 := en_of Try.func196 (by kernel_rfl) (by kernel_rfl)
theorem en_197 : En Try.prog 197 := en_of Try.func197 (by kernel_rfl) (by kernel_rfl)

end Go.Proofs.Ytcmhgkcifejgcaa
namespace Go.Proofs.Ytcmhgkcifejgcaa
set_option linter.unusedVariables false
set_option linter.unusedSimpArgs false
open Go Go.RowKit

/-- A block that is only read. -/
def BlkAt (w : World) (b : Nat) (cs : List Value) : Prop := b < w.heap.size ∧ ∀ (j : Nat) (u : Value), cs[j]? = some u → w.cell? ⟨b, j, none⟩ = some u
theorem BlkAt.below {w w' : World} {b : Nat} {cs : List Value} (h : BlkAt w b cs) (hb : Below w.heap.size w w') : BlkAt w' b cs :=
  ⟨Nat.lt_of_lt_of_le h.1 hb.size, fun j u hu => (hb.cell (p := ⟨b, j, none⟩) h.1).trans (h.2 j u hu)⟩
/-- A pointer that may be nil, and its block. -/
def wptr (o : Bool) (b : Nat) : Value := bif o then .pointer (some ⟨b, 0, none⟩) else .pointer none
def wblk (o : Bool) (b : Nat) (e : TypeId) (cs : List Value) : Ck := bif o then .blk b e cs else nilCk
theorem wptr_t {o : Bool} (h : o = true) (b : Nat) : wptr o b = .pointer (some ⟨b, 0, none⟩) := by subst h; rfl
theorem wblk_t {o : Bool} (h : o = true) (b : Nat) (e : TypeId) (cs : List Value) : wblk o b e cs = .blk b e cs := by subst h; rfl
section
variable {P : Program} {ops : Array Oper} {Q : Exit → Act → World → Prop} {N : Nat} {C : World → Prop} {rest : List Oper} {l : Sl}
variable {w0 : World} {os : List Ck} {v u : Value} {t t' e : TypeId} {d k : Nat} {x y : Operand} {ty : TypeId} {ps : String} {af : Array Edge} {dd : Option Tmp} {g : Option (Nat × Bool)} {m n : Int}
theorem y_pickKT {c : Operand} {b : Bool} (hc : Ev l c (.bool b)) (h : b = true) (hx : Ev l x v) : Ys P C N l ⟨dd, .pick c x y, ty, ps, af, g⟩ v := y_pick hc (fun _ => hx) (fun h' => by rw [h] at h'; cases h')
theorem y_pickKF {c : Operand} {b : Bool} (hc : Ev l c (.bool b)) (h : b = false) (hy : Ev l y v) : Ys P C N l ⟨dd, .pick c x y, ty, ps, af, g⟩ v := y_pick hc (fun h' => by rw [h] at h'; cases h') (fun _ => hy)
theorem blk_at {w : World} {b : Nat} {cs : List Value} (i : Nat) (ho : os[i]? = some (.blk b e cs)) (hw : Hp w0 os w) : BlkAt w b cs := by
  have h := hw.get i ho
  refine ⟨(h.lt b rfl).2, fun j u hu => ?_⟩
  rw [cell_of_row w b j cs.toArray e (0, 0) h.2]
  simpa using hu
theorem y_ldk {b j : Nat} {cs : List Value} (hx : Ev l x (.pointer (some ⟨b, j, none⟩))) (hT : One P t) (hc : BlkAt w0 b cs) (hu : cs[j]? = some u) : Ys P (Hp w0 os) N l ⟨dd, .load t x, ty, ps, af, g⟩ u := yl_of fun a w hs hw => by
  have h1 := (hc.below hw.1).2 j u hu
  have h2 := hx N a hs
  simp [execOp, h2, Instr.loadAt, Instr.sureAddr, loadVar, hT.1 w, h1]
theorem y_bldW {v1 v2 : Value} {n1 n2 : Nat} (hx : Ev l x (.agg #[v1])) (hy : Ev l y v2) (h : ∀ A n c A2 n2 c2 w, (Instr.build t #[(0, .agg #[.slice A n c]), (1, .slice A2 n2 c2)]).run P w = .ok (.agg #[.slice A n c, .slice A2 n2 c2, .slice none 0 0]) w)
    (hl : ∀ w, C w → Ln v1 n1) (hl2 : ∀ w, C w → Ln v2 n2) : Ys P C N l ⟨dd, .build t #[(0, x), (1, y)], ty, ps, af, g⟩ (.agg #[v1, v2, .slice none 0 0]) := yl_of fun a w hs hw => by
  obtain ⟨A, c, rfl, _⟩ := hl w hw
  obtain ⟨A2, c2, rfl, _⟩ := hl2 w hw
  simp [execOp, hx N a hs, hy N a hs, h]
theorem y_bldF (hx : Ev l x (.int .i64 m)) (h : ∀ m w, (Instr.build t #[(0, .int .i64 m)]).run P w = .ok (.agg #[.int .i64 m, .slice none 0 0]) w) : Ys P C N l ⟨dd, .build t #[(0, x)], ty, ps, af, g⟩ (.agg #[.int .i64 m, .slice none 0 0]) := yl_of fun a w hs hw => by
  simp [execOp, hx N a hs, h]
theorem TL.boxW {v1 v2 : Value} {n1 n2 : Nat} (hx : Ev l x (.agg #[v1, v2, .slice none 0 0])) (hl : ∀ w, Hp w0 os w → Ln v1 n1) (hl2 : ∀ w, Hp w0 os w → Ln v2 n2) (hb : Nat.blt d N = true)
    (h : ∀ b, TL P ops Q N (Hp w0 (.blk b e [v1, v2, .slice none 0 0] :: os)) rest ((d, .pointer (some ⟨b, 0, none⟩)) :: l)) :
    TL P ops Q N (Hp w0 os) (⟨some d, .box e x, ty, ps, af, none⟩ :: rest) l := fun a w hs hw => by
  obtain ⟨A, c, rfl, _⟩ := hl w hw
  obtain ⟨A2, c2, rfl, _⟩ := hl2 w hw
  exact TL.box hx hb h a w hs hw
end
theorem fa_106_0 (b : Nat) (w : World) : (Instr.fieldAt 106 (.pointer (some ⟨b, 0, none⟩)) 0).run Try.prog w = .ok (.pointer (some ⟨b, 0, none⟩)) w := by kernel_rfl
theorem fa_106_1 (b : Nat) (w : World) : (Instr.fieldAt 106 (.pointer (some ⟨b, 0, none⟩)) 1).run Try.prog w = .ok (.pointer (some ⟨b, 1, none⟩)) w := by kernel_rfl
theorem bd_106_f (m : Int) (w : World) : (Instr.build 106 #[(0, .int .i64 m)]).run Try.prog w = .ok (.agg #[.int .i64 m, .slice none 0 0]) w := by kernel_rfl
end Go.Proofs.Ytcmhgkcifejgcaa
namespace Go.Proofs.Ytcmhgkcifejgcaa
set_option linter.unusedVariables false
set_option linter.unusedSimpArgs false
open Go Go.RowKit

/-- A variable of one cell of a struct's type. -/
def AggAt (w : World) (b : Nat) (e : TypeId) (u : Value) : Prop := b < w.heap.size ∧ w.heap[b]? = some (.cells #[u] e (0, 0))
theorem AggAt.below {w w' : World} {b : Nat} {e : TypeId} {u : Value} (h : AggAt w b e u) (hb : Below w.heap.size w w') : AggAt w' b e u :=
  ⟨Nat.lt_of_lt_of_le h.1 hb.size, (hb.block b h.1).trans h.2⟩
/-- A row of a table if i is one of its places, else another row. -/
def rowref (us : List Value) (v : Value) (i : Int) : Value := bif decide (0 ≤ i) then us.getD i.toNat undef else v
def rowpure (xss : List (List Int)) (x : List Int) (i : Int) : List Int := bif decide (0 ≤ i) then xss.getD i.toNat [] else x
theorem rowref_t (us : List Value) (v : Value) (k : Nat) : rowref us v (k : Int) = us.getD k undef := by
  unfold rowref; rw [decide_eq_true (by omega)]; rfl
theorem rowref_f (us : List Value) (v : Value) : rowref us v (-1) = v := rfl
theorem rowref_ri {w : World} {us : List Value} {xss : List (List Int)} {tv v : Value} {x : List Int} {i : Int} (h : i < xss.length) (hT : RII w tv us xss) (hx : RI w v x) : RI w (rowref us v i) (rowpure xss x i) := by
  unfold rowref rowpure
  by_cases h0 : 0 ≤ i
  · rw [decide_eq_true h0]; exact hT.row (by omega)
  · rw [decide_eq_false h0]; exact hx
section
variable {P : Program} {ops : Array Oper} {Q : Exit → Act → World → Prop} {N : Nat} {C : World → Prop} {rest : List Oper} {l : Sl}
variable {w0 : World} {os : List Ck} {v u : Value} {t t' e e' : TypeId} {d k m n : Nat} {x y : Operand} {ty : TypeId} {ps : String} {af : Array Edge} {dd : Option Tmp} {g : Option (Nat × Bool)} {z : Value} {bytes : Nat}
theorem agg_blk {w w2 : World} {b : Nat} (i : Nat) (ho : os[i]? = some (.blk b e [u])) (hw : Hp w0 os w) (hb : Below w.heap.size w w2) : AggAt w2 b e u := by
  have h := hw.get i ho
  exact AggAt.below ⟨(h.lt b rfl).2, h.2⟩ hb
theorem y_ldcagg {b : Nat} (hx : Ev l x (.pointer (some ⟨b, 0, none⟩))) (hT : AggT P t 1) (hc : AggAt w0 b e u) : Ys P (Hp w0 os) N l ⟨dd, .load t x, ty, ps, af, g⟩ (.agg #[u]) := yl_of fun a w hs hw => by
  have hr := AggT.load (cs := [u]) hT (hc.below hw.1).2
  simp [execOp, hx N a hs, Instr.loadAt, Instr.sureAddr, hr]
theorem TL.appendG (i q : Nat) {r : Value} {us : List Value} {qs : List Int} (hx : Ev l x v) (hy : Ev l y u) (ho : os[i]? = some (.row v e 1 us.length us)) (hm : os[q]? = some (.row u e 1 1 [r])) (hT : SlT P t e z 1 24)
    (hr : ∀ w, Hp w0 os w → RI w r qs) (hlen : us.length + 1 ≤ 5000000000000) (hb : Nat.blt d N = true)
    (h : ∀ v', TL P ops Q N (Hp w0 (os.set i (.row v' e 1 (us ++ [r]).length (us ++ [r])))) rest ((d, v') :: l)) :
    TL P ops Q N (Hp w0 os) (⟨some d, .call { callee := .builtin .append, args := #[x, y], argTypes := #[t, t] }, ty, ps, af, none⟩ :: rest) l := fun a w hs hw => by
  obtain ⟨A, c, hrv, _⟩ := (hr w hw).ln
  refine TL.append (m := 1) (ys := [r]) i hx hy ho hT (fun w' hw' => rd_own (hw'.get q hm)) (fun p hp => ?_) (by omega) (by unfold maxLen; omega) hb (fun v' => ?_) a w hs hw
  · rw [List.mem_singleton.1 hp, hrv]; rfl
  · have := h v'
    simp only [List.length_append, List.length_cons, List.length_nil] at this
    exact this
theorem Hp.gather0 {w : World} (i : Nat) (e' : TypeId) (hi : os[i]? = some (.row v e 1 ([] : List Value).length [])) (hw : Hp w0 os w) : Hp w0 [tabI e e' v [] []] w :=
  ⟨hw.1, fun c hc => by
    rw [List.mem_singleton.1 hc]
    exact ⟨hw.get i hi, rfl, fun i hi => absurd hi (by simp), fun i hi => absurd hi (by simp)⟩, by simp⟩
theorem Hp.gather {w : World} (i j : Nat) {us tus : List Value} {xss txss : List (List Int)} {tv : Value} (hi : os[i]? = some (.row v e 1 us.length us)) (hj : os[j]? = some (tabI e e' tv tus txss))
    (hg : ∃ lt : List Nat, us = lt.map (fun p => tus.getD p undef) ∧ xss = lt.map (fun p => txss.getD p []) ∧ lt.Nodup ∧ ∀ p ∈ lt, p < txss.length) (hw : Hp w0 os w) : Hp w0 [tabI e e' v us xss] w := by
  obtain ⟨lt, rfl, rfl, hd, hl⟩ := hg
  have hne : i ≠ j := by intro h; subst h; rw [hi] at hj; cases hj
  have h1 : Own w w0.heap.size e 1 v (lt.map (fun p => tus.getD p undef)).length (lt.map (fun p => tus.getD p undef)) := hw.get i hi
  have h2 := hw.get j hj
  have ap := hw.apart hne hi hj
  have gu : ∀ p, (hp : p < lt.length) → (lt.map (fun p => tus.getD p undef)).getD p undef = tus.getD lt[p] undef := fun p hp => by
    rw [getD_lt _ _ _ (by simpa using hp)]; simp
  have gx : ∀ p, (hp : p < lt.length) → (lt.map (fun p => txss.getD p [])).getD p [] = txss.getD lt[p] [] := fun p hp => by
    rw [getD_lt _ _ _ (by simpa using hp)]; simp
  have hb : ∀ p, (hp : p < lt.length) → lt[p] < tus.length := fun p hp => by rw [h2.2.1]; exact hl _ (List.getElem_mem hp)
  refine ⟨hw.1, fun c hc => ?_, by simp⟩
  rw [List.mem_singleton.1 hc]
  refine ⟨by rw [List.length_map] at *; exact h1, by simp, fun p hp _ => ?_, fun p hp k hk => ?_⟩
  · have hp' : p < lt.length := by simpa using hp
    rw [gu p hp', gx p hp']
    exact h2.2.2.1 _ (hb p hp') (by simp)
  · have hp' : p < lt.length := by simpa using hp
    rw [gu p hp'] at hk
    refine ⟨fun hv => ap k hv (.inr ⟨_, hb p hp', by simp, hk⟩), fun q hq hqp => ?_⟩
    have hq' : q < lt.length := by simpa using hq
    rw [gu q hq']
    exact (h2.2.2.2 _ (hb p hp') k hk).2 _ (hb q hq') (fun e => hqp ((List.getElem_inj hd).1 e))
theorem rii_two (i : Nat) {va vb : Value} {a b : List Int} (ho : os[i]? = some (.row v e 1 2 [va, vb])) (ha : ∀ w, Hp w0 os w → RI w va a) (hb : ∀ w, Hp w0 os w → RI w vb b) : ∀ w, Hp w0 os w → RII w v [va, vb] [a, b] := fun w hw =>
  ⟨rd_own (hw.get i ho), rfl, fun j hj => by
    match j, hj with
    | 0, _ => exact ha w hw
    | 1, _ => exact hb w hw⟩
theorem TL.build2 {u2 : Value} (hT : SlT P t e z 1 bytes) (hx : Ev l x u) (hy : Ev l y u2) (hu : ∀ w, Hp w0 os w → Ln u m) (hu2 : ∀ w, Hp w0 os w → Ln u2 n) (hb : Nat.blt d N = true)
    (h : ∀ v', TL P ops Q N (Hp w0 (.row v' e 1 2 [u, u2] :: os)) rest ((d, v') :: l)) :
    TL P ops Q N (Hp w0 os) (⟨some d, .buildSlice t 2 #[(0, x), (1, y)], ty, ps, af, none⟩ :: rest) l := fun a w hs hw => by
  obtain ⟨A, c, rfl, _⟩ := hu w hw
  obtain ⟨A2, c2, rfl, _⟩ := hu2 w hw
  exact TL.buildSlice (parts := [(0, x), (1, y)]) (zs := [x, y]) (vs := [.slice A m c, .slice A2 n c2]) hT rfl ⟨hx, hy, trivial⟩ (by intro q hq; simp only [List.mem_cons, List.not_mem_nil, or_false] at hq; rcases hq with rfl | rfl <;> rfl) rfl (by simp) hb (fun v' => h v') a w hs hw
end
end Go.Proofs.Ytcmhgkcifejgcaa
