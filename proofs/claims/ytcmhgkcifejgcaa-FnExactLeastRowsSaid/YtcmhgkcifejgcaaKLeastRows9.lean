/-
  Part of a proof: rules of the walk, plain functions and their laws, walks. No condition.
-/
import Derived.Test.YtcmhgkcifejgcaaKLeastRows8
import Derived.Shelf.Sort.Plain
import Derived.Shelf.Slices.In.SortNone
import Derived.Shelf.Slices.Cells
namespace Go.Proofs.Ytcmhgkcifejgcaa
set_option linter.unusedVariables false
set_option linter.unusedSimpArgs false
open Go Go.RowKit Go.Shelf Go.Sort

theorem putCells_size {α : Type} [Inhabited α] (enc : α → Value) (d : Array α) (c : Array Value) : (putCells enc 0 d c).size = c.size := by simp [putCells]
theorem putCells_take (ys : List Int) (c : Array Value) (m : Nat) (hm : m ≤ ys.length) (hc : ys.length ≤ c.size) : (putCells (Value.int .i64) 0 ys.toArray c).toList.take m = ints (ys.take m) := by
  apply List.ext_getElem?
  intro i
  by_cases hi : i < m
  · have h1 : i < ys.length := by omega
    have h2 : i < c.size := by omega
    simp [putCells, hi, h1, h2, int]
  · rw [List.getElem?_eq_none (by simp; omega), List.getElem?_eq_none (by simp; omega)]
/-- The owned row, put anew and cut. -/
theorem hp_put {w0 w : World} {fr : List Ck} {e : TypeId} {g cap : Nat} {zs ys : List Int} (hw : Hp w0 (rowI e (.slice (some ⟨g, 0, none⟩) zs.length cap) zs :: fr) w) (hcap : 0 < cap) (hl : ys.length = zs.length) (m : Nat) (hm : m ≤ zs.length) (n : Nat) (os : Array Obj) :
    Hp w0 (rowI e (.slice (some ⟨g, 0, none⟩) m cap) (ys.take m) :: fr) (grow (putRow (Value.int .i64) (Sort.ahead w n) g 0 ys.toArray) os) := by
  have h0 : Own w w0.heap.size e 1 (.slice (some ⟨g, 0, none⟩) zs.length cap) zs.length (ints zs) := hw.2.1 _ (List.mem_cons_self ..)
  rcases h0.2 with ⟨⟨A, hA⟩, _⟩ | ⟨g', cap', cur, hv, hc', hB, hg, hnc, hcm, hcs, ht⟩
  · injection hA with _ _ h3; omega
  · injection hv with h1 _ h3
    injection h1 with h1
    injection h1 with h1
    subst h1; subst h3
    have hgs : g < w.heap.size := (Array.getElem?_eq_some_iff.1 hg).1
    have hlen : (ys.take m).length = m := by simp; omega
    have hget : (grow (putRow (Value.int .i64) (Sort.ahead w n) g 0 ys.toArray) os).heap[g]? = some (.cells (putCells (Value.int .i64) 0 ys.toArray cur) e (0, 0)) := by
      simp only [grow, putRow, mapBlock, Sort.heap_ahead]
      rw [Array.getElem?_append_left (by simpa using hgs), Array.getElem?_modify, if_pos rfl, hg]
      rfl
    refine hw.turn rfl rfl rfl (by simp [grow]) (fun k hk hf => ?_) ?_ (fun k hk => ?_)
    · have hne : g ≠ k := fun h => hf (by show obk _ = some k; rw [own_obk hcap, h])
      simp only [grow, putRow, mapBlock, Sort.heap_ahead]
      rw [Array.getElem?_append_left (by simpa using hk), Array.getElem?_modify, if_neg hne]
    · show Own _ _ _ _ _ _ _
      refine ⟨by simp, .inr ⟨g, cap, _, by rw [hlen], hcap, hB, hget, by rw [hlen]; omega, hcm, by rw [putCells_size]; exact hcs, ?_⟩⟩
      rw [hlen, Nat.mul_one, putCells_take ys cur m (by omega) (by omega)]
    · left
      have hk' : obk (.slice (some ⟨g, 0, none⟩) m cap) = some k := hk
      rw [own_obk hcap] at hk'
      show obk _ = some k
      rw [own_obk hcap]; exact hk'
theorem hp_holds {w0 w : World} {fr : List Ck} {e : TypeId} {g cap : Nat} {zs : List Int} (hw : Hp w0 (rowI e (.slice (some ⟨g, 0, none⟩) zs.length cap) zs :: fr) w) (hcap : 0 < cap) :
    Holds (Value.int .i64) w g 0 zs.toArray ∧ g < w.heap.size ∧ zs.length ≤ cap ∧ cap ≤ maxLen := by
  have h0 : Own w w0.heap.size e 1 (.slice (some ⟨g, 0, none⟩) zs.length cap) zs.length (ints zs) := hw.2.1 _ (List.mem_cons_self ..)
  rcases h0.2 with ⟨⟨A, hA⟩, _⟩ | ⟨g', cap', cur, hv, hc', hB, hg, hnc, hcm, hcs, ht⟩
  · injection hA with _ _ h3; omega
  · injection hv with h1 _ h3
    injection h1 with h1
    injection h1 with h1
    subst h1; subst h3
    refine ⟨fun j hj => ?_, (Array.getElem?_eq_some_iff.1 hg).1, hnc, hcm⟩
    have hj' : j < zs.length := by simpa using hj
    constructor
    · have h2 : (cur.toList.take (zs.length * 1))[j]? = (ints zs)[j]? := by rw [ht]
      rw [List.getElem?_take_of_lt (by omega)] at h2
      simp only [World.cell?, hg, Nat.zero_add]
      have h3 : cur[j]? = (ints zs)[j]? := by simpa using h2
      simp [h3, hj', int]
    · simp [World.frozen?, hg]
/-- An owned row has room or is nothing. -/
theorem hp_room {w0 w : World} {fr : List Ck} {e : TypeId} {v : Value} {zs : List Int} (hw : Hp w0 (rowI e v zs :: fr) w) : (∃ A, v = .slice A 0 0 ∧ zs = []) ∨ ∃ g cap, v = .slice (some ⟨g, 0, none⟩) zs.length cap ∧ 0 < cap := by
  have h0 : Own w w0.heap.size e 1 v zs.length (ints zs) := hw.2.1 _ (List.mem_cons_self ..)
  rcases h0.2 with ⟨⟨A, hA⟩, h2⟩ | ⟨g', cap', cur, hv, hc', _⟩
  · exact .inl ⟨A, hA, List.length_eq_zero_iff.1 h2⟩
  · exact .inr ⟨g', cap', hv, hc'⟩
theorem sort_ok {P : Program} {ρ : Ren} (L : Lays.n189 P ρ) (w0 w : World) (fr : List Ck) (e : TypeId) (v : Value) (zs : List Int) (hw : Hp w0 (rowI e v zs :: fr) w) (hz : zs.length ≤ 1000000000) :
    Calls P (ρ.f 189) ([v] : List Value).toArray w (fun r w' => ∃ _ : Unit, r = .returned (.tuple #[]) ∧ Hp w0 (rowI e v (sortI zs) :: fr) w') := by
  rcases hp_room hw with ⟨A, rfl, rfl⟩ | ⟨g, cap, rfl, hcap⟩
  · refine (Any.slices_Sort_int_none L A 0 w).mono ?_
    rintro r w' ⟨h1, rfl⟩
    exact ⟨(), h1, by simpa [sortI] using hw⟩
  · obtain ⟨h1, h2, h3, h4⟩ := hp_holds hw hcap
    refine (Any.slices_Sort_int L g 0 cap zs w h1 h2 (by omega)).mono ?_
    rintro r w' ⟨h5, n, os, rfl⟩
    refine ⟨(), h5, ?_⟩
    have hl : (sortI zs).length = zs.length := List.length_mergeSort ..
    have h6 := hp_put hw hcap hl zs.length (Nat.le_refl _) n os
    rw [List.take_of_length_le (by omega)] at h6
    exact h6
theorem compact_ok {P : Program} {ρ : Ren} (L : Lays2.n20 P ρ) (w0 w : World) (fr : List Ck) (e : TypeId) (v : Value) (zs : List Int) (hw : Hp w0 (rowI e v zs :: fr) w) :
    Calls P (ρ.f 20) ([v] : List Value).toArray w (fun r w' => ∃ v', r = .returned v' ∧ Hp w0 (rowI e v' (Lib.compact zs) :: fr) w') := by
  rcases hp_room hw with ⟨A, rfl, rfl⟩ | ⟨g, cap, rfl, hcap⟩
  · refine (Any.slices_Compact_int_empty L A 0 w).mono ?_
    rintro r w' ⟨h1, rfl⟩
    exact ⟨_, h1, by rw [show Lib.compact [] = [] from rfl]; exact hw⟩
  · obtain ⟨h1, h2, h3, h4⟩ := hp_holds hw hcap
    have h5 : maxLen ≤ 9223372036854775807 := by unfold maxLen; omega
    refine (Any.slices_Compact_int L g 0 cap zs w h1 (by omega) h3).mono ?_
    rintro r w' ⟨h6, n, rfl⟩
    refine ⟨_, h6, ?_⟩
    have hle := Lib.compact_length_le zs
    have h7 := hp_put hw hcap (ys := Lib.compact zs ++ List.replicate (zs.length - (Lib.compact zs).length) 0) (by simp; omega) (Lib.compact zs).length hle n #[]
    rw [List.take_left, grow_empty] at h7
    exact h7
end Go.Proofs.Ytcmhgkcifejgcaa
