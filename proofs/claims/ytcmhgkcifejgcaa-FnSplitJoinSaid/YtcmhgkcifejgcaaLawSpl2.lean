/-
  Plain: the law of texts that are split and joined, its end. No condition.
-/
import Derived.Test.YtcmhgkcifejgcaaLawSpl
namespace Go.Proofs.Ytcmhgkcifejgcaa
open Go Go.RowKit

theorem pick_lt (code : List Int) (a s n : Int) (h : 1 < n) : 0 ≤ (F_spec_l1Cur_pick code a s n).1 ∧ (F_spec_l1Cur_pick code a s n).1 < n := by
  unfold F_spec_l1Cur_pick
  rw [decide_eq_false (by omega), cond_false]
  generalize F_spec_l1Cur_next code a s = q
  dsimp only
  generalize F_spec_l1Cur_next code q.2.1 q.2.2 = r
  have m1 := Int.emod_nonneg q.1 (b := n) (by omega)
  have m2 := Int.emod_lt_of_pos q.1 (b := n) (by omega)
  have m3 := Int.emod_nonneg (q.1 * 256 + r.1) (b := n) (by omega)
  have m4 := Int.emod_lt_of_pos (q.1 * 256 + r.1) (b := n) (by omega)
  cases decide (200 < n) <;> dsimp only [cond_true, cond_false] <;> omega
theorem getD_all {l : List ByteArray} {m : Nat} (h : ∀ x ∈ l, x.size ≤ m) (k : Nat) : (l.getD k ByteArray.empty).size ≤ m := by
  by_cases hk : k < l.length
  · exact h _ (getD_mem l k _ hk)
  · rw [getD_ge _ _ _ (by omega)]; exact Nat.zero_le _
theorem any1_size (code : List Int) (a s : Int) : (F_spec_l1Cur_any1 code a s).1.size ≤ 10 := by
  unfold F_spec_l1Cur_any1 F_spec_l1Cur_of
  dsimp only
  refine getD_all (fun x hx => ?_) _
  simp only [List.mem_cons, List.mem_nil_iff, or_false] at hx
  rcases hx with rfl | rfl | rfl | rfl | rfl | rfl | rfl | rfl | rfl <;> decide
theorem of_sizes (code : List Int) (a s : Int) {l : List ByteArray} {m : Nat} (h : ∀ x ∈ l, x.size ≤ m) : (F_spec_l1Cur_of code a s l).1.size ≤ m := by
  unfold F_spec_l1Cur_of
  dsimp only
  exact getD_all h _
theorem mem_push {l : List ByteArray} {y : ByteArray} {m : Nat} (h : ∀ x ∈ l, x.size ≤ m) (hy : y.size ≤ m) : ∀ x ∈ l ++ [y], x.size ≤ m := fun x hx => by
  rcases List.mem_append.1 hx with hx | hx
  · exact h x hx
  · rw [List.mem_singleton] at hx; subst hx; exact hy
theorem djs_L1 (code : List Int) (q : Int × (Int × Int)) : ∀ (fuel i : Nat) (l : List ByteArray) (a s : Int), (∀ x ∈ l, x.size ≤ 5000) → q.1 < i + fuel →
    ∃ l' i' a' s', F_spec_DrawJoinStrings_L1 code q fuel (l, i, a, s) = .next (l', i', a', s') ∧ (∀ x ∈ l', x.size ≤ 5000) ∧ l'.length ≤ l.length + fuel := by
  intro fuel
  induction fuel with
  | zero => intro i l a s h _; exact ⟨l, i, a, s, rfl, h, by omega⟩
  | succ mf ih =>
    intro i l a s h hf
    rw [F_spec_DrawJoinStrings_L1_s]
    by_cases hi : (i : Int) < q.1
    · rw [decide_eq_true hi, cond_true]
      dsimp only
      obtain ⟨l', i', a', s', h1, h2, h3⟩ := ih (i + 1) (l ++ [(F_spec_l1Cur_any1 code a s).1]) (F_spec_l1Cur_any1 code a s).2.1 (F_spec_l1Cur_any1 code a s).2.2 (mem_push h (by have := any1_size code a s; omega)) (by omega)
      refine ⟨l', i', a', s', h1, h2, ?_⟩
      simp only [List.length_append, List.length_cons, List.length_nil] at h3; omega
    · rw [decide_eq_false hi, cond_false]
      exact ⟨l, i, a, s, rfl, h, by omega⟩
theorem zeros_size (n : Nat) : (zeros n).size = n := by
  unfold zeros ByteArray.size; simp
theorem djs_bd (code : List Int) : (F_spec_DrawJoinStrings code).1.length ≤ 100000 ∧ ∀ i, ((F_spec_DrawJoinStrings code).1.getD i ByteArray.empty).size ≤ 100000 := by
  have key : (F_spec_DrawJoinStrings code).1.length ≤ 100000 ∧ ∀ x ∈ (F_spec_DrawJoinStrings code).1, x.size ≤ 5000 := by
    unfold F_spec_DrawJoinStrings
    dsimp only
    have hq := pick_lt code 0 0 4 (by omega)
    generalize F_spec_l1Cur_pick code 0 0 4 = q at hq ⊢
    obtain ⟨l', i', a', s', h1, h2, h3⟩ := djs_L1 code q ((q.1.toNat - 0) + 1) 0 [] q.2.1 q.2.2 (fun x hx => by simp at hx) (by omega)
    rw [h1, elim_next]
    dsimp only
    generalize F_spec_l1Cur_one code a' s' 20 = r
    rw [List.length_nil] at h3
    cases r.1
    · rw [cond_false]
      exact ⟨by dsimp only; omega, h2⟩
    · rw [cond_true]
      have hz := pick_lt code r.2.1 r.2.2 20 (by omega)
      refine ⟨by simp only [List.length_append, List.length_cons, List.length_nil]; omega, mem_push h2 ?_⟩
      rw [zeros_size]; omega
  exact ⟨key.1, fun i => by have := getD_all key.2 i; omega⟩
/-! splitting -/
theorem take_succ_getD {l : List UInt8} {k : Nat} (h : k < l.length) : l.take (k + 1) = l.take k ++ [l.getD k 0] := by
  rw [List.take_add_one, List.getElem?_eq_getElem h, List.getD_eq_getElem?_getD, List.getElem?_eq_getElem h]; rfl
theorem drop_app_le {l : List UInt8} {a : UInt8} {n : Nat} (h : n ≤ l.length) : (l ++ [a]).drop n = l.drop n ++ [a] := by
  rw [List.drop_append, show n - l.length = 0 by omega]; rfl
/-- What is cut off so far. -/
structure Cut (s : ByteArray) (b : UInt8) (out : List ByteArray) (src k : Nat) : Prop where
  fk : src ≤ k
  ks : k ≤ s.size
  ol : out.length ≤ k
  no : ∀ x ∈ out, ¬ b ∈ bl x ∧ x.size ≤ s.size
  rest : ¬ b ∈ ((bl s).take k).drop src
  join : Lib.join (out.map bl ++ [((bl s).take k).drop src]) [b] = (bl s).take k
theorem join_snoc (xs : List (List UInt8)) (x y : List UInt8) (b : UInt8) : Lib.join (xs ++ [x] ++ [y]) [b] = Lib.join (xs ++ [x]) [b] ++ [b] ++ y := by
  rw [join_push, if_neg (by simp), List.append_assoc]
theorem join_end (xs : List (List UInt8)) (x : List UInt8) (b c : UInt8) : Lib.join (xs ++ [x ++ [c]]) [b] = Lib.join (xs ++ [x]) [b] ++ [c] := by
  rw [join_push, join_push]
  by_cases h : xs = []
  · rw [if_pos h, if_pos h]
  · rw [if_neg h, if_neg h]; simp
theorem split_L1 (s : ByteArray) (sep : Int) (b : UInt8) (hb : sep = (b.toNat : Int)) : ∀ (fuel : Nat) (out : List ByteArray) (src k : Nat), s.size - k < fuel → Cut s b out src k →
    ∃ out' src' , F_impl_splitAt_L1 s sep fuel (out, src, k) = .next (out', src', s.size) ∧ Cut s b out' src' s.size := by
  intro fuel
  induction fuel with
  | zero => intro out src k h; omega
  | succ mf ih =>
    intro out src k h hC
    rw [F_impl_splitAt_L1_s]
    have hfk := hC.fk
    have hks := hC.ks
    have hln : (bl s).length = s.size := rfl
    by_cases hi : (k : Int) < (s.size : Int)
    · rw [decide_eq_true hi, cond_true]
      have htk := take_succ_getD (l := bl s) (k := k) (by omega)
      have hdr : ((bl s).take (k + 1)).drop src = ((bl s).take k).drop src ++ [(bl s).getD k 0] := by rw [htk, drop_app_le (by rw [List.length_take]; omega)]
      have hbe : bl (s.extract src k) = ((bl s).take k).drop src := bl_ext s src k
      have hsz : (s.extract src k).size ≤ s.size := by rw [ByteArray.size_extract]; omega
      by_cases he : sAt s k = sep
      · rw [decide_eq_true he, cond_true]
        have hkb : (bl s).getD k 0 = b := by
          rw [sAt_eq, hb] at he
          exact UInt8.toNat_inj.1 (by omega)
        have hd0 : ((bl s).take (k + 1)).drop (k + 1) = [] := List.drop_eq_nil_of_le (by rw [List.length_take]; omega)
        refine ih _ _ _ (by omega) ⟨Nat.le_refl _, by omega, by simp only [List.length_append, List.length_cons, List.length_nil]; have := hC.ol; omega, fun x hx => ?_, ?_, ?_⟩
        · rcases List.mem_append.1 hx with hx | hx
          · exact hC.no x hx
          · rw [List.mem_singleton] at hx; subst hx
            rw [hbe]; exact ⟨hC.rest, hsz⟩
        · rw [hd0]; simp
        · rw [hd0, List.map_append, List.map_cons, List.map_nil, hbe, join_snoc, hC.join, htk, hkb, List.append_nil]
      · rw [decide_eq_false he, cond_false]
        have hkb : (bl s).getD k 0 ≠ b := fun e => he (by rw [sAt_eq, e, hb])
        refine ih _ _ _ (by omega) ⟨by omega, by omega, by have := hC.ol; omega, hC.no, ?_, ?_⟩
        · rw [hdr, List.mem_append, List.mem_singleton]
          rintro (h1 | h1)
          · exact hC.rest h1
          · exact hkb h1.symm
        · rw [hdr, join_end, hC.join, htk]
    · have e : k = s.size := by omega
      subst e
      rw [decide_eq_false hi, cond_false]
      exact ⟨out, src, rfl, hC⟩
theorem splitAt_ok (s sep : ByteArray) (h1 : sep.size = 1) : (∀ x ∈ F_impl_splitAt s (sAt sep 0), ¬ (bl sep).getD 0 0 ∈ bl x ∧ x.size ≤ s.size) ∧ 1 ≤ (F_impl_splitAt s (sAt sep 0)).length ∧ (F_impl_splitAt s (sAt sep 0)).length ≤ s.size + 1 ∧ joinB (F_impl_splitAt s (sAt sep 0)) sep = s := by
  unfold F_impl_splitAt
  obtain ⟨out, src, h2, hC⟩ := split_L1 s (sAt sep 0) ((bl sep).getD 0 0) (sAt_eq sep 0) ((s.size - 0) + 1) [] 0 0 (by omega) ⟨Nat.le_refl _, Nat.zero_le _, Nat.le_refl _, fun x hx => by simp at hx, by simp, by simp [Lib.join_one]⟩
  rw [h2, elim_next]
  dsimp only
  have hbe : bl (s.extract src s.size) = ((bl s).take s.size).drop src := bl_ext s src s.size
  have htk : (bl s).take s.size = bl s := List.take_of_length_le (Nat.le_of_eq (bl_len s))
  refine ⟨fun x hx => ?_, by simp, by simp only [List.length_append, List.length_cons, List.length_nil]; have := hC.ol; omega, ?_⟩
  · rcases List.mem_append.1 hx with hx | hx
    · exact hC.no x hx
    · rw [List.mem_singleton] at hx; subst hx
      rw [hbe]
      exact ⟨hC.rest, by rw [ByteArray.size_extract]; omega⟩
  · apply bl_inj
    have hj := hC.join
    rw [bl_join, List.map_append, List.map_cons, List.map_nil, hbe, one_byte h1]
    rw [hj, htk]
theorem split_bd (s sep : ByteArray) : (F_impl_SplitString s sep).1.length ≤ 100000 ∧ ∀ i, ((F_impl_SplitString s sep).1.getD i ByteArray.empty).size ≤ 100000 := by
  unfold F_impl_SplitString
  by_cases h4 : 4000 < (s.size : Int)
  · rw [decide_eq_true h4, Bool.true_or, cond_true]; exact ⟨by simp, fun i => by simp⟩
  · rw [decide_eq_false h4, Bool.false_or]
    by_cases h1 : (sep.size : Int) = 1
    · rw [decide_eq_true h1, Bool.not_true, cond_false]
      have h := splitAt_ok s sep (by omega)
      exact ⟨by dsimp only; omega, fun i => getD_all (fun x hx => by have := (h.1 x hx).2; omega) i⟩
    · rw [decide_eq_false h1, Bool.not_false, cond_true]; exact ⟨by simp, fun i => by simp⟩
theorem split_join (s sep : ByteArray) (h4 : s.size ≤ 4000) (h1 : sep.size = 1) : (F_impl_SplitString s sep).2 = true ∧ F_impl_JoinStrings (F_impl_SplitString s sep).1 sep = (s, true) := by
  unfold F_impl_SplitString
  rw [decide_eq_false (show ¬ (4000 < (s.size : Int)) by omega), Bool.false_or, decide_eq_true (show (sep.size : Int) = 1 by omega), Bool.not_true, cond_false]
  refine ⟨rfl, ?_⟩
  dsimp only
  obtain ⟨h2, h3, h5, h6⟩ := splitAt_ok s sep h1
  rw [joinI, if_pos, h6]
  refine ⟨⟨h3, h1⟩, fun i _ hi => (h2 _ (getD_mem _ i _ hi)).1, ?_⟩
  have := pj_size (l := F_impl_splitAt s (sAt sep 0)) h1 _ h3 (Nat.le_refl _)
  rw [List.take_length, h6] at this
  omega
theorem less_anti : ∀ a b : List UInt8, (Op.bytesLess a b && Op.bytesLess b a) = false
  | [], _ => by cases ‹List UInt8› <;> rfl
  | _ :: _, [] => rfl
  | x :: a, y :: b => by
    have ih := less_anti a b
    unfold Op.bytesLess
    have irr : ∀ z : UInt8, ¬ z < z := fun z h => by have := UInt8.lt_iff_toNat_lt.1 h; omega
    by_cases h1 : x < y
    · have h2 : ¬ y < x := fun h => by
        have := UInt8.lt_iff_toNat_lt.1 h1
        have := UInt8.lt_iff_toNat_lt.1 h
        omega
      simp [h1, h2]
      intro e; subst e; exact absurd h1 (irr _)
    · by_cases h2 : y < x
      · simp [h1, h2]
        intro e; subst e; exact absurd h2 (irr _)
      · simp [h1, h2] at ih ⊢
        exact fun _ h3 _ => ih h3
theorem law_fSplitJoin (code : List Int) : F_laws_FnSplitJoin code = true := by
  unfold F_laws_FnSplitJoin
  cases F_laws_vBig code with
  | true => rfl
  | false =>
    rw [cond_false, join_both]
    have hl : ∀ a b, F_spec_LessString a b = F_impl_LessString a b := fun _ _ => rfl
    have ha : (F_impl_LessString (F_spec_DrawLessString code).1 (F_spec_DrawLessString code).2 && F_impl_LessString (F_spec_DrawLessString code).2 (F_spec_DrawLessString code).1) = false := less_anti _ _
    rw [ha, hl]
    simp only [BEq.rfl, Bool.not_true, bne_self_eq_false, Bool.or_false, cond_false]
    by_cases h1 : ((F_spec_DrawSplitString code).2.size : Int) = 1
    · rw [decide_eq_true h1, Bool.not_true, cond_false]
      have hs : (F_spec_DrawSplitString code).1.size ≤ 4000 := by
        unfold F_spec_DrawSplitString
        dsimp only
        have := any1_size code 0 0
        omega
      obtain ⟨h2, h3⟩ := split_join (F_spec_DrawSplitString code).1 (F_spec_DrawSplitString code).2 hs (by omega)
      rw [h2, h3]
      simp
    · rw [decide_eq_false h1, Bool.not_false, cond_true]
      unfold F_impl_SplitString
      rw [decide_eq_false h1, Bool.not_false, Bool.or_true, cond_true]
      rfl
end Go.Proofs.Ytcmhgkcifejgcaa
