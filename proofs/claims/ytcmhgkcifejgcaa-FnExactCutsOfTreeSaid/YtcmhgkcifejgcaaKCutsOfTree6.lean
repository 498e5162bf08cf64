/-
  Part of a proof: rules of the walk, plain functions and their laws, walks. No condition.
-/
import Derived.Test.YtcmhgkcifejgcaaKCutsOfTree5
import Derived.Lib.SliceRun
namespace Go.Proofs.Ytcmhgkcifejgcaa
set_option linter.unusedVariables false
set_option linter.unusedSimpArgs false
open Go Go.RowKit
section
variable {P : Program} {ops : Array Oper} {Q : Exit → Act → World → Prop} {N : Nat} {C : World → Prop} {rest : List Oper} {l : Sl}
variable {w0 : World} {os : List Ck} {v u z : Value} {t e : TypeId} {bytes d : Nat} {x y : Operand} {ty : TypeId} {ps : String} {af : Array Edge}
theorem owns_setCells {base g n cap : Nat} : ∀ (vs : List Value) (o : Nat) (w : World) (xs : List Value), o + vs.length ≤ xs.length → w.ownsRow base e 1 (.slice (some ⟨g, 0, none⟩) n cap) n xs →
    (w.setCells g o vs).ownsRow base e 1 (.slice (some ⟨g, 0, none⟩) n cap) n (xs.take o ++ vs ++ xs.drop (o + vs.length)) ∧ w.grownBy (w.setCells g o vs) (some g)
  | [], o, w, xs, h, hw => by
    refine ⟨by simpa [World.setCells] using hw, ?_⟩
    exact ⟨rfl, rfl, rfl, Nat.le_refl _, fun _ _ _ => rfl⟩
  | v :: r, o, w, xs, h, hw => by
    obtain ⟨s1, s2⟩ := World.ownsRow.stored hw o v
    simp only [List.length_cons] at h
    obtain ⟨t1, t2⟩ := owns_setCells r (o + 1) (w.setCell ⟨g, o, none⟩ v) (xs.set o v) (by simp; omega) s1
    refine ⟨?_, s2.trans t2⟩
    have e1 : (xs.set o v).take (o + 1) = xs.take o ++ [v] := by
      rw [List.set_eq_take_append_cons_drop, if_pos (by omega), List.take_append]
      have : (xs.take o).length = o := by simp; omega
      rw [List.take_of_length_le (l := xs.take o) (by omega), this, show o + 1 - o = 1 by omega]
      rfl
    have e2 : (xs.set o v).drop (o + 1 + r.length) = xs.drop (o + (v :: r).length) := by
      rw [List.drop_set_of_lt (by omega)]
      congr 1
      simp; omega
    rw [e1, e2] at t1
    have e3 : xs.take o ++ v :: r = xs.take o ++ [v] ++ r := by simp
    rw [e3]
    exact t1
theorem run_clearI {base : Nat} {w : World} (hT : SlT P t e (.int .i64 0) 1 bytes) {zs : List Int} (hown : Own w base e 1 v zs.length (ints zs)) {lo : Nat} (h1 : lo < zs.length) :
    ∃ w', (Builtin.clear_ #[t] ty #[resl v lo zs.length 1]).run P w = .ok (.tuple #[]) w' ∧ w.grownBy w' (obk v) ∧ Own w' base e 1 v zs.length (ints (zs.take lo ++ List.replicate (zs.length - lo) 0)) := by
  obtain ⟨i, hi, hz, hs, hby⟩ := info_parts hT.2.1
  rcases hown.2 with ⟨⟨B, rfl⟩, h0⟩ | ⟨g, cap, cur, rfl, hc0, hB, hg, hnc, hcm, hcs, htk⟩
  · omega
  · have hr : w.ownsRow base e 1 (.slice (some ⟨g, 0, none⟩) zs.length cap) zs.length (ints zs) := ⟨hown.1, .inr ⟨g, cap, cur, rfl, hB, hg, hnc, hcm, hcs, htk⟩⟩
    have hres : resl (.slice (some ⟨g, 0, none⟩) zs.length cap) lo zs.length 1 = .slice (some ⟨g, lo, none⟩) (zs.length - lo) (cap - lo) := by
      show Value.slice (if cap = lo then _ else _) _ _ = _
      rw [if_neg (by omega)]
      simp [Addr.add_lit]
    have hcl := Lib.run_clear_slice (P := P) w t e ty (.int .i64 0) hT.1 (fun w => by simp [zeroValue, typeInfo, hi, hz]) rfl rfl g lo (zs.length - lo) (cap - lo) (by omega)
      (fun j hj => by
        rw [World.ownsRow.cellAt hr (lo + j) (by omega), List.getElem?_eq_getElem (by simp; omega)]; rfl)
      (fun j _ => World.ownsRow.frozenAt hr (lo + j))
    obtain ⟨s1, s2⟩ := owns_setCells (List.replicate (zs.length - lo) (.int .i64 0)) lo w (ints zs) (by simp; omega) hr
    rw [hres]
    refine ⟨_, hcl, by rw [own_obk hc0]; exact s2, ?_⟩
    have e1 : (ints zs).take lo ++ List.replicate (zs.length - lo) (Value.int .i64 0) ++ (ints zs).drop (lo + (List.replicate (zs.length - lo) (Value.int .i64 0)).length) = ints (zs.take lo ++ List.replicate (zs.length - lo) 0) := by
      simp [ints, List.map_take, List.map_replicate, show lo + (zs.length - lo) = zs.length by omega]
    rw [e1] at s1
    exact Own.of s1
/-- The tail of an owned row is put to nought. -/
theorem TL.clearI (i : Nat) {lo : Nat} {zs : List Int} (hx : Ev l x (resl v lo zs.length 1)) (ho : os[i]? = some (rowI e v zs)) (hT : SlT P t e (.int .i64 0) 1 bytes) (h1 : lo < zs.length)
    (h : TL P ops Q N (Hp w0 (os.set i (rowI e v (zs.take lo ++ List.replicate (zs.length - lo) 0)))) rest l) :
    TL P ops Q N (Hp w0 os) (⟨none, .call { callee := .builtin .clear, args := #[x], argTypes := #[t] }, ty, ps, af, none⟩ :: rest) l := TL.raw rfl fun a w hs hw => by
  obtain ⟨w', hrun, e1, e2⟩ := run_clearI (P := P) (ty := ty) hT (hw.get i ho) h1
  have hl : (zs.take lo ++ List.replicate (zs.length - lo) (0 : Int)).length = zs.length := by simp; omega
  unfold Oper.wp
  simp only [execOp, resolve, invoke, builtin, Sem.run_bind, Sem.run_pure, Result.andThen_ok, List.map_toArray, List.map_cons, List.map_nil, hx N a hs, hrun, Oper.upon]
  refine h _ _ hs (hw.turn_at i ho e1.os e1.tape e1.output e1.size (fun k hk hne => e1.block k hk (fun hh => hne hh.symm)) ?_ (fun k hk => .inl hk))
  show Own _ _ _ _ _ _ _
  rw [hl]; exact e2
/-- An owned row, cut short. -/
theorem Hp.cut {w : World} (i : Nat) {k : Nat} {zs : List Int} (h : Hp w0 os w) (ho : os[i]? = some (rowI e v zs)) (hk : k ≤ zs.length) : Hp w0 (os.set i (rowI e (resl v 0 k 1) ((zs.take k).drop 0))) w := by
  have hown : Own w w0.heap.size e 1 v zs.length (ints zs) := h.get i ho
  have hlen : ((zs.take k).drop 0).length = k := by simp; omega
  have hints : ints ((zs.take k).drop 0) = (ints zs).take k := by simp [ints, List.map_take]
  refine h.turn_at i ho rfl rfl rfl (Nat.le_refl _) (fun _ _ _ => rfl) ?_ (fun q hq => ?_)
  · show Own _ _ _ _ _ _ _
    rw [hlen, hints]
    rcases hown.2 with ⟨⟨A, rfl⟩, h0⟩ | ⟨g, cap, cur, rfl, hc0, hB, hg, hnc, hcm, hcs, htk⟩
    · have : k = 0 := by omega
      subst this
      exact ⟨by simp, .inl ⟨⟨_, rfl⟩, rfl⟩⟩
    · refine ⟨by simp; omega, .inr ⟨g, cap, cur, ?_, hc0, hB, hg, by omega, hcm, hcs, ?_⟩⟩
      · show Value.slice (if cap = 0 then _ else _) _ _ = _
        rw [if_neg (by omega)]
        simp [Addr.add_lit]
      · rw [← htk, List.take_take, Nat.mul_one, Nat.mul_one]
        congr 1; omega
  · left
    have hq' : obk (resl v 0 k 1) = some q := hq
    show obk v = some q
    rcases hown.2 with ⟨⟨A, rfl⟩, h0⟩ | ⟨g, cap, cur, rfl, hc0, _⟩
    · have : k = 0 := by omega
      subst this
      rw [show resl (.slice A 0 0) 0 0 1 = .slice A 0 0 from rfl] at hq'
      exact hq'
    · have e1 : resl (.slice (some ⟨g, 0, none⟩) zs.length cap) 0 k 1 = .slice (some ⟨g, 0, none⟩) k cap := by
        show Value.slice (if cap = 0 then _ else _) _ _ = _
        rw [if_neg (by omega)]
        simp [Addr.add_lit]
      rw [e1, own_obk hc0] at hq'
      rw [own_obk hc0]; exact hq'
variable {k : Nat} {ars : List Operand} {vs : List Value} {ats : Array TypeId}
theorem Hp.picksF {w : World} {ks fr os' : List Ck} (is : List Nat) (hn : is.Nodup) (hp : is.map (fun i : Nat => ks[i]?) = os'.map some) (h : Hp w0 (ks ++ fr) w) : Hp w0 (os' ++ fr) w := by
  have h1 : Hp w0 ks w := h.sublist (List.sublist_append_left ks fr)
  have h2 := h1.picks is hn hp
  have h3 := List.pairwise_append.1 h.2.2
  refine ⟨h.1, fun c hc => ?_, ?_⟩
  · rcases List.mem_append.1 hc with hc | hc
    · exact h2.2.1 c hc
    · exact h.2.1 c (List.mem_append_right _ hc)
  · rw [List.pairwise_append]
    refine ⟨h2.2.2, h3.2.1, fun a ha b hb => h3.2.2 a ?_ b hb⟩
    have : some a ∈ os'.map some := List.mem_map_of_mem ha
    rw [← hp] at this
    obtain ⟨i, _, hi⟩ := List.mem_map.1 this
    exact List.mem_of_getElem? hi
/-- A call that writes into a chunk, reads the others, and hands back new ones. -/
theorem TL.callmX {ι : Type} {p : Prop} (i : Nat) {c : Ck} (ret : ι → Value) (c' : ι → Ck) (rs : ι → List Ck) (he : En P k) (hv : Evs l ars vs) (hb : Nat.blt d N = true) (ho : os[i]? = some c)
    (hc : ∀ w, Hp w0 os w → Hp w0 (c :: os.eraseIdx i) w → Calls P k vs.toArray w (fun e w' => p ∧ ∃ j, e = .returned (ret j) ∧ Hp w0 ((c' j :: rs j) ++ os.eraseIdx i) w')) (h : p → ∀ j, TL P ops Q N (Hp w0 (rs j ++ os.set i (c' j))) rest ((d, ret j) :: l)) :
    TL P ops Q N (Hp w0 os) (⟨some d, .call { callee := .value (.func k), args := ars.toArray, argTypes := ats }, ty, ps, af, none⟩ :: rest) l := by
  obtain ⟨hlt, hget⟩ := List.getElem?_eq_some_iff.1 ho
  have p1 : (c :: os.eraseIdx i).Perm os := by
    rw [← hget]
    have h := List.perm_middle (a := os[i]) (l₁ := os.take i) (l₂ := os.drop (i + 1))
    have e1 : os.take i ++ os[i] :: os.drop (i + 1) = os := by rw [← List.drop_eq_getElem_cons hlt, List.take_append_drop]
    rw [e1] at h
    rw [List.eraseIdx_eq_take_drop_succ]
    exact h.symm
  have p2 : ∀ c', (os.set i c').Perm (c' :: os.eraseIdx i) := fun c' => by
    rw [List.set_eq_take_append_cons_drop, if_pos hlt, List.eraseIdx_eq_take_drop_succ]
    exact List.perm_middle
  have p3 : ∀ j, (rs j ++ os.set i (c' j)).Perm ((c' j :: rs j) ++ os.eraseIdx i) := fun j => ((p2 (c' j)).append_left (rs j)).trans List.perm_middle
  exact TL.call (D := fun v w' => p ∧ ∃ j, v = ret j ∧ Hp w0 (rs j ++ os.set i (c' j)) w') he hv hb (fun w hw => (hc w hw (hw.perm p1)).mono fun _ _ ⟨hp, j, h1, h2⟩ => ⟨_, h1, hp, j, rfl, h2.perm (p3 _)⟩)
    (fun v a w hs ⟨hp, i, h1, h2⟩ => by subst h1; exact h hp i a w hs h2)
/-- A call that writes into a chunk and reads the others. -/
theorem TL.callmR {ι : Type} (i : Nat) {c : Ck} (ret : ι → Value) (c' : ι → Ck) (he : En P k) (hv : Evs l ars vs) (hb : Nat.blt d N = true) (ho : os[i]? = some c)
    (hc : ∀ w, Hp w0 os w → Hp w0 (c :: os.eraseIdx i) w → Calls P k vs.toArray w (fun e w' => ∃ j, e = .returned (ret j) ∧ Hp w0 (c' j :: os.eraseIdx i) w')) (h : ∀ j, TL P ops Q N (Hp w0 (os.set i (c' j))) rest ((d, ret j) :: l)) :
    TL P ops Q N (Hp w0 os) (⟨some d, .call { callee := .value (.func k), args := ars.toArray, argTypes := ats }, ty, ps, af, none⟩ :: rest) l := by
  obtain ⟨hlt, hget⟩ := List.getElem?_eq_some_iff.1 ho
  have p1 : (c :: os.eraseIdx i).Perm os := by
    rw [← hget]
    have h := List.perm_middle (a := os[i]) (l₁ := os.take i) (l₂ := os.drop (i + 1))
    have e1 : os.take i ++ os[i] :: os.drop (i + 1) = os := by rw [← List.drop_eq_getElem_cons hlt, List.take_append_drop]
    rw [e1] at h
    rw [List.eraseIdx_eq_take_drop_succ]
    exact h.symm
  have p2 : ∀ c', (os.set i c').Perm (c' :: os.eraseIdx i) := fun c' => by
    rw [List.set_eq_take_append_cons_drop, if_pos hlt, List.eraseIdx_eq_take_drop_succ]
    exact List.perm_middle
  exact TL.call (D := fun v w' => ∃ j, v = ret j ∧ Hp w0 (os.set i (c' j)) w') he hv hb (fun w hw => (hc w hw (hw.perm p1)).mono fun _ _ ⟨j, h1, h2⟩ => ⟨_, h1, j, rfl, h2.perm (p2 _)⟩)
    (fun v a w hs ⟨i, h1, h2⟩ => by subst h1; exact h i a w hs h2)
end
/-- A list without the places from i up to j. -/
def delI (xs : List Int) (i j : Int) : List Int := xs.take i.toNat ++ xs.drop j.toNat
theorem delI_len (xs : List Int) {i j : Int} (h : 0 ≤ i ∧ i ≤ j ∧ j ≤ xs.length) : (delI xs i j).length + (j - i).toNat = xs.length := by
  unfold delI; simp; omega
end Go.Proofs.Ytcmhgkcifejgcaa
