/-
  Part of a proof: rules of the walk, plain functions and their laws, walks. No condition.
-/
import Derived.Test.YtcmhgkcifejgcaaKSpanningTree10
import Derived.Shelf.Spec.SlicesGrow
import Derived.Test.YtcmhgkcifejgcaaProg
namespace Go.Proofs.Ytcmhgkcifejgcaa
set_option linter.unusedVariables false
set_option linter.unusedSimpArgs false
open Go Go.Shelf
def lays804_ren : Go.Shelf.Ren := ⟨fun | 4 => 166 | n => n, fun | 22 => 34 | 25 => 3 | 3 => 3 | 4 => 4 | 9 => 9 | 20 => 20 | 0 => 0 | n => n, fun | n => n⟩
theorem lays804 : Go.Proofs.Lays8.n4 Try.prog lays804_ren := {
  mixed := by kernel_rfl
  f4 := ⟨Try.f166.name, by decide, Try.func166.trans (congrArg some (by kernel_rfl))⟩
  t0 := Try.underlying0
  a0 := Try.isAgg0
  z0 := Try.sizeOf0
  v0 := Try.zeroValue0
  t3 := Try.underlying3
  a3 := Try.isAgg3
  z3 := Try.sizeOf3
  v3 := Try.zeroValue3
  t4 := Try.underlying4
  a4 := Try.isAgg4
  z4 := Try.sizeOf4
  v4 := Try.zeroValue4
  t9 := Try.underlying9
  a9 := Try.isAgg9
  z9 := Try.sizeOf9
  v9 := Try.zeroValue9
  t20 := Try.underlying20
  a20 := Try.isAgg20
  z20 := Try.sizeOf20
  v20 := Try.zeroValue20
  t22 := Try.underlying34
  a22 := Try.isAgg34
  z22 := Try.sizeOf34
  v22 := Try.zeroValue34 }
end Go.Proofs.Ytcmhgkcifejgcaa
namespace Go.Proofs.Ytcmhgkcifejgcaa
set_option linter.unusedVariables false
set_option linter.unusedSimpArgs false
open Go Go.RowKit

theorem slices_Grow_ok (w : World) (n : Int) (hp0 : 0 ≤ n) (hp1 : n ≤ 1000000) :
    Calls Try.prog 166 ([(.slice none 0 0), (.int .i64 n)] : List Value).toArray w (fun e w' => ∃ i : Value, e = .returned i ∧ Hp w [rowI 3 i []] w') := by
  obtain ⟨k, rfl⟩ : ∃ k : Nat, n = k := ⟨n.toNat, by omega⟩
  rcases Nat.eq_zero_or_pos k with rfl | hk
  · refine (Any8.slices_Grow_room lays804 none 0 0 0 w (by omega) (by omega) (by omega) (by omega)).mono ?_
    rintro e w' ⟨rfl, rfl⟩
    exact ⟨_, rfl, (Hp.start _).nil _ _⟩
  · have hT := slT_34
    obtain ⟨i0, hi, hiz, his, hby⟩ := info_parts hT.2.1
    refine (Any8.slices_Grow_grow lays804 i0 (.int .i64 0) hi hiz (by omega) none 0 0 k [] w (by omega) (by omega) (by rw [hby]; omega) (by omega) (by simp) (fun _ => rfl) (fun a h => by cases h)).mono ?_
    rintro e w' ⟨rfl, rfl⟩
    have hge := grownCap_ge w (0 + k) 0 3
    have hcm := grownCap_le_maxLen w (0 + k) 0 3 (by unfold maxLen; omega)
    refine ⟨_, rfl, (Hp.start w).new ⟨rfl, rfl, rfl, by simp, fun k hk => Below.heap_alloc w.drew _ k hk⟩ ?_⟩
    refine ⟨by simp, .inr ⟨w.heap.size, _, _, rfl, by show 0 < grownCap w (0 + k) 0 3; omega, Nat.le_refl _, heap_alloc_new w.drew _, Nat.zero_le _, hcm, ?_, by simp⟩⟩
    have hz : (Value.int .i64 0).cells.size = 1 := rfl
    show _ = grownCap w (0 + k) 0 3 * 1
    simp only [Array.size_append, List.size_toArray, size_zeroCells, hz, List.length_nil]
    show 0 + (0 + k - 0) * 1 + (grownCap w (0 + k) 0 3 - (0 + k)) * 1 = _
    omega
end Go.Proofs.Ytcmhgkcifejgcaa
