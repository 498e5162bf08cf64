/-
  Part of a proof: rules of the walk, plain functions and their laws, walks. No condition.
-/
import Derived.Test.YtgnikdpgndmldaaKChainsOf4
import Derived.Laws.CopyRow
import Derived.Laws.IdiomCopy
namespace Go.Proofs.Ytgnikdpgndmldaa
set_option linter.unusedVariables false
set_option linter.unusedSimpArgs false
open Go Go.RowKit

section
variable {P : Program} {ops : Array Oper} {Q : Exit → Act → World → Prop} {N : Nat} {C : World → Prop} {rest : List Oper} {l : Sl}
variable {w0 : World} {os : List Ck} {v u z : Value} {t e : TypeId} {bytes d : Nat} {x y : Operand} {ty : TypeId} {ps : String} {af : Array Edge}
theorem Ys.cls {C' : World → Prop} {o : Oper} (h : ∀ w, C w → C' w) (hy : Ys P C' N l o v) : Ys P C N l o v := fun a w hs hc => hy a w hs (h w hc)
theorem run_copyI {base : Nat} {w : World} (hT : SlT P t e z 1 bytes) {zs qs : List Int} (hown : Own w base e 1 v zs.length (ints zs)) (hr : RI w u qs) {lo hi : Nat} (h1 : lo ≤ hi) (h2 : hi ≤ zs.length) :
    ∃ w', (Builtin.copy_ #[t, t] ty #[resl v lo hi 1, u]).run P w = .ok (goInt (Nat.min qs.length (hi - lo))) w' ∧ w'.os = w.os ∧ w'.tape = w.tape ∧ w'.output = w.output ∧ w'.heap.size = w.heap.size ∧
      (∀ k, obk v ≠ some k → w'.heap[k]? = w.heap[k]?) ∧ Own w' base e 1 v zs.length (ints (zs.take lo ++ qs.take (hi - lo) ++ zs.drop (lo + min qs.length (hi - lo)))) := by
  have hu : P.underlying t = some (.slice e) := hT.1
  have hsz : (P.info? e).map (·.size) = some 1 := by
    have := hT.2.1
    cases hq : P.info? e with
    | none => rw [hq] at this; cases this
    | some i => rw [hq] at this; simp at this ⊢; exact this.2.1
  obtain ⟨q1, q2, A, c, rfl, q3, q4, q5⟩ := hr
  by_cases hn : min qs.length (hi - lo) = 0
  · have hnil : zs.take lo ++ qs.take (hi - lo) ++ zs.drop (lo + min qs.length (hi - lo)) = zs := by
      have : qs.take (hi - lo) = [] := by
        rw [List.take_eq_nil_iff]
        rcases Nat.min_eq_zero_iff.1 hn with h | h
        · right; exact List.length_eq_zero_iff.1 h
        · left; exact h
      rw [this, hn]; simp
    rw [hnil, show Nat.min qs.length (hi - lo) = 0 from hn]
    obtain ⟨B, m, cc, e1, e2⟩ : ∃ B m cc, resl v lo hi 1 = .slice B m cc ∧ m = hi - lo := by
      rcases hown.2 with ⟨⟨B, rfl⟩, _⟩ | ⟨g, cap, cur, rfl, _⟩
      · exact ⟨_, _, _, rfl, rfl⟩
      · exact ⟨_, _, _, rfl, rfl⟩
    rw [e1]
    refine ⟨w, run_copy_none w t t ty e B A m cc qs.length c hu hsz (by subst e2; exact hn), rfl, rfl, rfl, rfl, fun _ _ => rfl, hown⟩
  · rcases hown.2 with ⟨⟨B, rfl⟩, h0⟩ | ⟨g, cap, cur, rfl, hc0, hB, hg, hnc, hcm, hcs, htk⟩
    · exact absurd (show min qs.length (hi - lo) = 0 by omega) hn
    · have hlt : lo < cap := by omega
      have hres : resl (.slice (some ⟨g, 0, none⟩) zs.length cap) lo hi 1 = .slice (some ⟨g, lo, none⟩) (hi - lo) (cap - lo) := by
        show Value.slice (if cap = lo then _ else _) _ _ = _
        rw [if_neg (by omega)]
        simp [Addr.add_lit]
      obtain ⟨ad, hA, hab, hcell⟩ := q5 (by omega)
      subst hA
      have hcsz : cur.size = cap := by omega
      have hlen : (ints (qs.take (hi - lo))).length = min qs.length (hi - lo) := by simp; omega
      have hrun := run_copy_row (P := P) (ty := ty) w t t e g lo (hi - lo) (cap - lo) ad qs.length c cur e (ints (qs.take (hi - lo))) hu hsz hg (by rw [hlen])
        (fun j q hq => by
          refine hcell j q ?_
          have : ints (qs.take (hi - lo)) = (ints qs).take (hi - lo) := by simp [ints, List.map_take]
          rw [this, List.getElem?_take] at hq
          split at hq
          · exact hq
          · cases hq) (by rw [hlen, hcsz]; omega) (oc_ints _)
      rw [hres]
      rw [hlen] at hrun
      refine ⟨_, hrun, rfl, rfl, rfl, by simp [World.setRow], fun k hk => setRow_other w g k _ (fun e => hk (by rw [own_obk hc0, e])), ?_⟩
      have hzl : (ints zs).length = zs.length := by simp
      have hlenN : (zs.take lo ++ qs.take (hi - lo) ++ zs.drop (lo + min qs.length (hi - lo))).length = zs.length := by simp; omega
      refine ⟨by simp [ints] at hlenN ⊢; omega, .inr ⟨g, cap, _, rfl, hc0, hB, setRow_heap w g cur _ e (0, 0) hg, hnc, hcm, ?_, ?_⟩⟩
      · simp only [List.size_toArray, List.length_append, List.length_take, List.length_drop, hlen, Array.length_toList, hcsz]; omega
      · rw [Nat.mul_one] at htk ⊢
        have hget : ∀ k, k < zs.length → cur.toList[k]? = (ints zs)[k]? := fun k hk => by
          rw [← htk, List.getElem?_take, if_pos hk]
        apply List.ext_getElem?
        intro k
        rw [List.getElem?_take]
        by_cases hk : k < zs.length
        · rw [if_pos hk]
          simp only [ints, List.map_append, List.map_take, List.map_drop] at hget ⊢
          rw [List.getElem?_append, List.getElem?_append, List.getElem?_append, List.getElem?_append]
          simp only [List.length_append, List.length_take, List.length_map, Array.length_toList, hcsz]
          by_cases c1 : k < lo
          · rw [if_pos (by omega), if_pos (by omega), if_pos (by omega), if_pos (by omega), List.getElem?_take, List.getElem?_take, if_pos c1, if_pos c1]
            exact hget k hk
          · by_cases c2 : k < lo + min qs.length (hi - lo)
            · rw [if_pos (by omega), if_neg (by omega), if_pos (by omega), if_neg (by omega)]
              rw [show min lo cap = lo by omega, show min lo zs.length = lo by omega]
            · rw [if_neg (by omega), if_neg (by omega), List.getElem?_drop, List.getElem?_drop]
              rw [show min lo cap = lo by omega, show min lo zs.length = lo by omega, show min (hi - lo) qs.length = min qs.length (hi - lo) by omega]
              rw [show lo + min qs.length (hi - lo) + (k - (lo + min qs.length (hi - lo))) = k by omega]
              exact hget k hk
        · rw [if_neg hk, List.getElem?_eq_none]
          simp [ints] at hlenN ⊢; omega
theorem TL.copyI (i : Nat) {lo hi : Nat} {zs qs : List Int} (hx : Ev l x (resl v lo hi 1)) (hy : Ev l y u) (ho : os[i]? = some (rowI e v zs)) (hT : SlT P t e z 1 bytes) (hr : ∀ w, Hp w0 os w → RI w u qs) (h1 : lo ≤ hi) (h2 : hi ≤ zs.length) (hb : Nat.blt d N = true)
    (h : TL P ops Q N (Hp w0 (os.set i (rowI e v (zs.take lo ++ qs.take (hi - lo) ++ zs.drop (lo + min qs.length (hi - lo)))))) rest ((d, int (min qs.length (hi - lo) : Nat)) :: l)) :
    TL P ops Q N (Hp w0 os) (⟨some d, .call { callee := .builtin .copy, args := #[x, y], argTypes := #[t, t] }, ty, ps, af, none⟩ :: rest) l := TL.raw rfl fun a w hs hw => by
  obtain ⟨w', hrun, e1, e2, e3, e4, e5, e6⟩ := run_copyI (P := P) (ty := ty) hT (hw.get i ho) (hr w hw) h1 h2
  have hl : (zs.take lo ++ qs.take (hi - lo) ++ zs.drop (lo + min qs.length (hi - lo))).length = zs.length := by simp; omega
  unfold Oper.wp
  simp only [execOp, resolve, invoke, builtin, Sem.run_bind, Sem.run_pure, Result.andThen_ok, List.map_toArray, List.map_cons, List.map_nil, hx N a hs, hy N a hs, hrun, Oper.upon]
  refine h _ _ (hs.put hb _) (hw.turn_at i ho e1 e2 e3 (by omega) (fun k _ hne => e5 k (fun hh => hne hh)) ?_ (fun k hk => .inl hk))
  show Own _ _ _ _ _ _ _
  rw [hl]; exact e6
/-- The whole row is copied onto. -/
theorem resl_whole {w : World} {base : Nat} {zs : List Int} (hown : Own w base e 1 v zs.length (ints zs)) : resl v 0 zs.length 1 = v := by
  rcases hown.2 with ⟨⟨B, rfl⟩, h0⟩ | ⟨g, cap, cur, rfl, hc0, _⟩
  · rw [h0]; rfl
  · show Value.slice (if cap = 0 then _ else _) _ _ = _
    rw [if_neg (by omega)]
    simp [Addr.add_lit]
theorem TL.copyW (i : Nat) {zs qs : List Int} (hx : Ev l x v) (hy : Ev l y u) (ho : os[i]? = some (rowI e v zs)) (hT : SlT P t e z 1 bytes) (hr : ∀ w, Hp w0 os w → RI w u qs) (hb : Nat.blt d N = true)
    (h : TL P ops Q N (Hp w0 (os.set i (rowI e v (qs.take zs.length ++ zs.drop (min qs.length zs.length))))) rest ((d, int (min qs.length zs.length : Nat)) :: l)) :
    TL P ops Q N (Hp w0 os) (⟨some d, .call { callee := .builtin .copy, args := #[x, y], argTypes := #[t, t] }, ty, ps, af, none⟩ :: rest) l := fun a w hs hw => by
  have he := resl_whole (hw.get i ho)
  exact TL.copyI i (lo := 0) (hi := zs.length) (by rw [he]; exact hx) hy ho hT hr (Nat.zero_le _) (Nat.le_refl _) hb (by simpa using h) a w hs hw
end
end Go.Proofs.Ytgnikdpgndmldaa
