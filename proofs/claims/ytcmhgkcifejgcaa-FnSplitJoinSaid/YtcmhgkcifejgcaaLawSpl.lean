/-
  Plain: the law of texts that are split and joined holds for all codes. No condition.
-/
import Derived.Test.YtcmhgkcifejgcaaDefZ
import Derived.Test.YtcmhgkcifejgcaaPlain
namespace Go.Proofs.Ytcmhgkcifejgcaa
open Go Go.RowKit

/-- The bytes. -/
abbrev bl (s : ByteArray) : List UInt8 := s.data.toList
theorem bl_len (s : ByteArray) : (bl s).length = s.size := rfl
theorem bl_app (a b : ByteArray) : bl (a ++ b) = bl a ++ bl b := by unfold bl; rw [ByteArray.data_append, Array.toList_append]
theorem bl_inj {a b : ByteArray} (h : bl a = bl b) : a = b := by
  cases a; cases b; congr 1; exact Array.toList_inj.1 h
theorem bl_ext (s : ByteArray) (a b : Nat) : bl (s.extract a b) = ((bl s).take b).drop a := by
  unfold bl
  rw [ByteArray.data_extract, Array.toList_extract]
  simp [List.extract, List.drop_take]
theorem sAt_eq (s : ByteArray) (k : Nat) : sAt s k = (((bl s).getD k 0).toNat : Int) := rfl
theorem sAt_inj (s t : ByteArray) (k j : Nat) : sAt s k = sAt t j ↔ (bl s).getD k 0 = (bl t).getD j 0 := by
  rw [sAt_eq, sAt_eq]
  constructor
  · intro h; exact UInt8.toNat_inj.1 (by omega)
  · intro h; rw [h]
theorem one_byte {sep : ByteArray} (h : sep.size = 1) : bl sep = [(bl sep).getD 0 0] := by
  have h1 : (bl sep).length = 1 := h
  match hb : bl sep, h1 with
  | [b], _ => rfl
theorem mem_getD {l : List UInt8} {b : UInt8} : b ∈ l ↔ ∃ k, k < l.length ∧ l.getD k 0 = b := by
  rw [List.mem_iff_getElem]
  constructor
  · rintro ⟨k, hk, h⟩; exact ⟨k, hk, by rw [List.getD_eq_getElem?_getD, List.getElem?_eq_getElem hk]; exact h⟩
  · rintro ⟨k, hk, h⟩; exact ⟨k, hk, by rw [List.getD_eq_getElem?_getD, List.getElem?_eq_getElem hk] at h; exact h⟩
theorem stands_iff (s sep : ByteArray) : F_spec_l1Stands s (sAt sep 0) = true ↔ (bl sep).getD 0 0 ∈ bl s := by
  unfold F_spec_l1Stands
  rw [mem_getD]
  rcases scan (F_spec_l1Stands_L1 s (sAt sep 0)) s.size (fun i => decide (sAt s i = sAt sep 0)) (fun _ => true) (fun m i => F_spec_l1Stands_L1_s s (sAt sep 0) i m) (s.size - 0 + 1) 0 (by omega) with ⟨h1, h2⟩ | ⟨j, _, h2, h3, h4, _⟩
  · rw [h1]
    simp only [Ctl.elim]
    constructor
    · intro h; cases h
    · rintro ⟨k, hk, he⟩
      have := h2 k (by omega) hk
      rw [decide_eq_false_iff_not, sAt_inj] at this
      exact absurd he this
  · rw [h3]
    simp only [Ctl.elim, true_iff]
    rw [decide_eq_true_eq, sAt_inj] at h4
    exact ⟨j, h2, h4⟩
theorem idx_mem : ∀ (l : List UInt8) (c : UInt8), 0 ≤ Lib.indexByte l c ↔ c ∈ l
  | [], c => by simp [Lib.indexByte]
  | b :: l, c => by
    have ih := idx_mem l c
    have hg := Lib.indexByte_ge l c
    rw [Lib.indexByte, List.mem_cons]
    by_cases e : b = c
    · subst e; simp
    · rw [if_neg (by simpa using e)]
      by_cases h : Lib.indexByte l c = -1
      · rw [if_pos (by simpa using h)]
        rw [h] at ih
        constructor
        · intro h2; omega
        · rintro (h2 | h2)
          · exact absurd h2.symm e
          · have := ih.2 h2; omega
      · rw [if_neg (by simpa using h)]
        constructor
        · intro _; exact .inr (ih.1 (by omega))
        · intro _; omega
theorem idx_iff (s sep : ByteArray) : 0 ≤ idxByte s (sAt sep 0) ↔ (bl sep).getD 0 0 ∈ bl s := by
  unfold idxByte
  rw [idx_mem, sAt_eq]
  have : ((((bl sep).getD 0 0).toNat : Int)).toNat.toUInt8 = (bl sep).getD 0 0 := by
    rw [Int.toNat_natCast]; simp
  rw [this]
/-! joined texts -/
theorem join_push (sep : List UInt8) (xs : List (List UInt8)) (y : List UInt8) : Lib.join (xs ++ [y]) sep = if xs = [] then y else Lib.join xs sep ++ (sep ++ y) := by
  cases xs with
  | nil => simp [Lib.join_one]
  | cons x r => rw [List.cons_append, Lib.join_cons, Lib.join_cons]; simp [Lib.joinTail]
theorem bl_join (xs : List ByteArray) (sep : ByteArray) : bl (joinB xs sep) = Lib.join (xs.map bl) (bl sep) := rfl
theorem joinB_push (xs : List ByteArray) (sep y : ByteArray) : joinB (xs ++ [y]) sep = if xs = [] then y else joinB xs sep ++ sep ++ y := by
  apply bl_inj
  rw [bl_join, List.map_append, List.map_cons, List.map_nil, join_push]
  by_cases h : xs = []
  · subst h; rfl
  · rw [if_neg (by simpa using h), if_neg h, bl_app, bl_app, bl_join, List.append_assoc]
/-- The sizes of the first k. -/
def tot (l : List ByteArray) (k : Nat) : Nat := ((l.take k).map ByteArray.size).sum
theorem take_push {l : List ByteArray} {k : Nat} (h : k < l.length) : l.take (k + 1) = l.take k ++ [l.getD k ByteArray.empty] := by
  rw [List.take_add_one, List.getElem?_eq_getElem h, List.getD_eq_getElem?_getD, List.getElem?_eq_getElem h]; rfl
theorem tot_succ {l : List ByteArray} {k : Nat} (h : k < l.length) : tot l (k + 1) = tot l k + (l.getD k ByteArray.empty).size := by
  unfold tot; rw [take_push h]; simp
theorem tot_mono {l : List ByteArray} {n : Nat} : ∀ k, n ≤ k → k ≤ l.length → tot l n ≤ tot l k := by
  intro k
  induction k with
  | zero => intro h _; rw [show n = 0 by omega]; exact Nat.le_refl _
  | succ k ih =>
    intro h hk
    by_cases e : n = k + 1
    · rw [e]; exact Nat.le_refl _
    · have := ih (by omega) (by omega)
      rw [tot_succ (by omega)]; omega
theorem take_ne {l : List ByteArray} {k : Nat} (h0 : 0 < k) (h : 0 < l.length) : l.take k ≠ [] := fun hh => by
  have := congrArg List.length hh
  rw [List.length_take, List.length_nil] at this; omega
theorem pj_size {l : List ByteArray} {sep : ByteArray} (hs : sep.size = 1) : ∀ k, 1 ≤ k → k ≤ l.length → (joinB (l.take k) sep).size = tot l k + (k - 1) := by
  intro k
  induction k with
  | zero => intro h; omega
  | succ k ih =>
    intro _ hk
    rw [take_push (by omega), joinB_push, tot_succ (by omega)]
    by_cases e : k = 0
    · subst e; simp [tot]
    · rw [if_neg (take_ne (by omega) (by omega)), ba_app, ba_app, hs, ih (by omega) (by omega)]; omega
/-- What is asked of texts that are joined. -/
def Jok (l : List ByteArray) (sep : ByteArray) (k : Nat) : Prop := (∀ i, k ≤ i → i < l.length → ¬ (bl sep).getD 0 0 ∈ bl (l.getD i ByteArray.empty)) ∧ tot l l.length + (l.length - 1) ≤ 4000
open Classical in
theorem joinI_L1 (l : List ByteArray) (sep : ByteArray) (h1 : 1 ≤ l.length) : ∀ (fuel k : Nat) (size : Int), k ≤ l.length → l.length - k < fuel → size = (l.length : Int) - 1 + (tot l k : Int) →
    (F_impl_JoinStrings_L1 l sep fuel (size, k)).elim (fun (size1, _) => (bif decide (4000 < size1) then ((ByteArray.mk #[]), false) else ((joinB l sep), true))) (fun r => r) = if Jok l sep k then (joinB l sep, true) else (ByteArray.mk #[], false) := by
  intro fuel
  induction fuel with
  | zero => intro k size _ h; omega
  | succ mf ih =>
    intro k size hk hf he
    rw [F_impl_JoinStrings_L1_s]
    by_cases hi : (k : Int) < (l.length : Int)
    · rw [decide_eq_true hi, cond_true]
      have ht := tot_succ (l := l) (k := k) (by omega)
      have hm := tot_mono (l := l) (n := k + 1) l.length (by omega) (Nat.le_refl _)
      by_cases h4 : 4000 < size + ((l.getD k ByteArray.empty).size : Int)
      · rw [decide_eq_true h4, Bool.true_or, cond_true, elim_ret, if_neg]
        rintro ⟨_, h⟩; omega
      · rw [decide_eq_false h4, Bool.false_or]
        by_cases h5 : 0 ≤ idxByte (l.getD k ByteArray.empty) (sAt sep 0)
        · rw [decide_eq_true h5, cond_true, elim_ret, if_neg]
          rintro ⟨h, _⟩; exact h k (Nat.le_refl _) (by omega) ((idx_iff _ _).1 h5)
        · rw [decide_eq_false h5, cond_false, ih (k + 1) _ (by omega) (by omega) (by omega)]
          congr 1
          refine propext ⟨fun h => ⟨fun i h6 h7 => ?_, h.2⟩, fun h => ⟨fun i h6 h7 => h.1 i (by omega) h7, h.2⟩⟩
          by_cases e : i = k
          · subst e; exact fun hh => h5 ((idx_iff _ _).2 hh)
          · exact h.1 i (by omega) h7
    · have e : k = l.length := by omega
      subst e
      rw [decide_eq_false hi, cond_false, elim_next]
      dsimp only
      by_cases h4 : 4000 < size
      · rw [decide_eq_true h4, cond_true, if_neg]
        rintro ⟨_, h⟩; omega
      · rw [decide_eq_false h4, cond_false, if_pos]
        exact ⟨fun i h6 h7 => by omega, by omega⟩
open Classical in
theorem joinS_L1 (l : List ByteArray) (sep : ByteArray) (h1 : 1 ≤ l.length) (hs : sep.size = 1) : ∀ (fuel k : Nat) (out : ByteArray), k ≤ l.length → l.length - k < fuel → out = joinB (l.take k) sep → (k = 0 ∨ out.size ≤ 4000) →
    (F_spec_JoinStrings_L1 l sep fuel (out, k)).elim (fun (out1, _) => (out1, true)) (fun r => r) = if Jok l sep k then (joinB l sep, true) else (ByteArray.mk #[], false) := by
  intro fuel
  induction fuel with
  | zero => intro k out _ h; omega
  | succ mf ih =>
    intro k out hk hf he ho
    rw [F_spec_JoinStrings_L1_s]
    by_cases hi : (k : Int) < (l.length : Int)
    · rw [decide_eq_true hi, cond_true]
      cases h5 : F_spec_l1Stands (l.getD k ByteArray.empty) (sAt sep 0) with
      | true =>
        rw [cond_true, elim_ret, if_neg]
        rintro ⟨h, _⟩; exact h k (Nat.le_refl _) (by omega) ((stands_iff _ _).1 h5)
      | false =>
        rw [cond_false]
        have hst : ¬ (bl sep).getD 0 0 ∈ bl (l.getD k ByteArray.empty) := fun h => by rw [(stands_iff _ _).2 h] at h5; cases h5
        have hJ : Jok l sep (k + 1) ↔ Jok l sep k := by
          refine ⟨fun h => ⟨fun i h6 h7 => ?_, h.2⟩, fun h => ⟨fun i h6 h7 => h.1 i (by omega) h7, h.2⟩⟩
          by_cases e : i = k
          · subst e; exact hst
          · exact h.1 i (by omega) h7
        have hsz := pj_size (l := l) hs (k + 1) (by omega) (by omega)
        have hm := tot_mono (l := l) (n := k + 1) l.length (by omega) (Nat.le_refl _)
        have fin : ∀ o : ByteArray, o = joinB (l.take (k + 1)) sep → ((bif decide (4000 < (o.size : Int)) then (Ctl.ret (ByteArray.mk #[], false) : Ctl (ByteArray × Nat) (ByteArray × Bool)) else F_spec_JoinStrings_L1 l sep mf (o, k + 1)).elim (fun (out1, _) => (out1, true)) (fun r => r)) = if Jok l sep k then (joinB l sep, true) else (ByteArray.mk #[], false) := fun o hO => by
          by_cases h4 : 4000 < (o.size : Int)
          · rw [decide_eq_true h4, cond_true, elim_ret, if_neg]
            rintro ⟨_, h⟩; rw [hO] at h4; omega
          · rw [decide_eq_false h4, cond_false, ih (k + 1) o (by omega) (by omega) hO (.inr (by omega))]
            congr 1; exact propext hJ
        by_cases h0 : 0 < (k : Int)
        · rw [decide_eq_true h0, cond_true]
          refine fin _ ?_
          rw [take_push (by omega), joinB_push, if_neg (take_ne (by omega) (by omega)), he]
        · rw [decide_eq_false h0, cond_false]
          refine fin _ ?_
          have e0 : k = 0 := by omega
          subst e0
          rw [take_push (by omega), joinB_push, if_pos (by simp), he]
          apply bl_inj
          rw [bl_app]; rfl
    · have e : k = l.length := by omega
      subst e
      rw [decide_eq_false hi, cond_false, elim_next]
      dsimp only
      have hsz := pj_size (l := l) hs l.length (by omega) (Nat.le_refl _)
      rw [he, List.take_length, if_pos]
      rw [he] at ho
      exact ⟨fun i h6 h7 => by omega, by omega⟩
open Classical in
theorem joinI (l : List ByteArray) (sep : ByteArray) : F_impl_JoinStrings l sep = if (1 ≤ l.length ∧ sep.size = 1) ∧ Jok l sep 0 then (joinB l sep, true) else (ByteArray.mk #[], false) := by
  unfold F_impl_JoinStrings
  by_cases h1 : (l.length : Int) = 0
  · rw [decide_eq_true h1, Bool.true_or, cond_true, if_neg]; rintro ⟨⟨h, _⟩, _⟩; omega
  · rw [decide_eq_false h1, Bool.false_or]
    by_cases h2 : (sep.size : Int) = 1
    · rw [decide_eq_true h2, Bool.not_true, cond_false, joinI_L1 l sep (by omega) _ 0 _ (by omega) (by omega) (by simp [tot])]
      congr 1
      exact propext ⟨fun h => ⟨⟨by omega, by omega⟩, h⟩, fun h => h.2⟩
    · rw [decide_eq_false h2, Bool.not_false, cond_true, if_neg]; rintro ⟨⟨_, h⟩, _⟩; omega
open Classical in
theorem join_both (l : List ByteArray) (sep : ByteArray) : F_impl_JoinStrings l sep = F_spec_JoinStrings l sep := by
  rw [joinI]
  unfold F_spec_JoinStrings
  by_cases h2 : (sep.size : Int) = 1
  · rw [decide_eq_true h2, Bool.not_true, Bool.false_or]
    by_cases h1 : (l.length : Int) = 0
    · rw [decide_eq_true h1, cond_true, if_neg]; rintro ⟨⟨h, _⟩, _⟩; omega
    · rw [decide_eq_false h1, cond_false, joinS_L1 l sep (by omega) (by omega) _ 0 _ (by omega) (by omega) (by rfl) (.inl rfl)]
      congr 1
      exact propext ⟨fun h => h.2, fun h => ⟨⟨by omega, by omega⟩, h⟩⟩
  · rw [decide_eq_false h2, Bool.not_false, Bool.true_or, cond_true, if_neg]; rintro ⟨⟨_, h⟩, _⟩; omega
end Go.Proofs.Ytcmhgkcifejgcaa
