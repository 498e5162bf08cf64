/-
  The library's Delete, met by the kit's proved summary. No condition.
-/
import Derived.Test.YtlhmmhlfledleaaLib
import Derived.Test.YtlhmmhlfledleaaDel
import Derived.Shelf.Slices.Delete
namespace Go.Proofs.Ytlhmmhlfledleaa
open Go Go.RowKit Go.Shelf Go.Sort

theorem delete_ok {P : Program} {ρ : Ren} (L : Lays2.n23 P ρ) (w0 w : World) (fr : List Ck) (e : TypeId) (v : Value) (zs : List Int) (hw : Hp w0 (rowI e v zs :: fr) w) (i j : Int) (h : 0 ≤ i ∧ i ≤ j ∧ j ≤ zs.length) (hne : i < zs.length) :
    Calls P (ρ.f 23) ([v, int i, int j] : List Value).toArray w (fun r w' => ∃ v', r = .returned v' ∧ Hp w0 ([rowI e v' (delI zs i j)] ++ fr) w') := by
  rcases hp_room hw with ⟨A, rfl, rfl⟩ | ⟨g, cap, rfl, hcap⟩
  · simp at hne; omega
  · obtain ⟨h1, h2, h3, h4⟩ := hp_holds hw hcap
    have h5 : maxLen ≤ 9223372036854775807 := by unfold maxLen; omega
    obtain ⟨a, rfl⟩ : ∃ a : Nat, i = a := ⟨i.toNat, by omega⟩
    obtain ⟨b, rfl⟩ : ∃ b : Nat, j = b := ⟨j.toNat, by omega⟩
    refine (Any.slices_Delete_int L g 0 cap a b zs w h1 h3 (by omega) (by omega) (by omega)).mono ?_
    rintro r w' ⟨h6, q, rfl⟩
    refine ⟨_, h6, ?_⟩
    have hl : (zs.take a ++ zs.drop b ++ List.replicate (b - a) (0 : Int)).length = zs.length := by simp; omega
    have h7 := hp_put hw hcap hl (zs.length - (b - a)) (by omega) q #[]
    have e1 : (zs.take a ++ zs.drop b ++ List.replicate (b - a) (0 : Int)).take (zs.length - (b - a)) = delI zs a b := by
      have : (zs.take a ++ zs.drop b).length = zs.length - (b - a) := by simp; omega
      rw [← this, List.take_left]
      rfl
    rw [e1, grow_empty] at h7
    exact h7
theorem slices_Delete_ok (w0 w : World) (fr : List Ck) (vs : Value) (s : List Int) (hw : Hp w0 (rowI 3 vs s :: fr) w) (i j : Int) (hp0 : 0 ≤ i ∧ i ≤ j ∧ j ≤ s.length) (hp1 : i < s.length) :
    Calls Try.prog 90 ([vs, (.int .i64 i), (.int .i64 j)] : List Value).toArray w (fun e w' => ∃ i' : Value, e = .returned i' ∧ Hp w0 ([rowI 3 i' (delI s i j)] ++ fr) w') := delete_ok lays223 w0 w fr 3 vs s hw i j hp0 hp1
end Go.Proofs.Ytlhmmhlfledleaa
