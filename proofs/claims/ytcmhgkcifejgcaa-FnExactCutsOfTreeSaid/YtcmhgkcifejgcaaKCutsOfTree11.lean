/-
  Part of a proof: rules of the walk, plain functions and their laws, walks. No condition.
-/
import Derived.Test.YtcmhgkcifejgcaaKCutsOfTree10
import Derived.Shelf.Spec.SlicesGrow
import Derived.Test.YtcmhgkcifejgcaaProg
namespace Go.Proofs.Ytcmhgkcifejgcaa
set_option linter.unusedVariables false
set_option linter.unusedSimpArgs false
open Go Go.Shelf
def lays804_ren : Go.Shelf.Ren := ⟨fun | 4 => 166 | n => n, fun | 22 => 34 | 25 => 3 | 3 => 3 | 4 => 4 | 9 => 9 | 20 => 20 | 0 => 0 | n => n, fun | n => n⟩
theorem lays804 : Go.Proofs.Lays8.n4 Try.prog lays804_ren := {
  mixed := by kernel_rfl
  f4 := ⟨Try.f166.name, by decide, Try.func166.trans (congrArg some (by kernel_rfl))⟩
  t0 := Try.underlying0
  a0 := Try.isAgg0
  z0 := Try.sizeOf0
  v0 := Try.zeroValue0
  t3 := Try.underlying3
  a3 := Try.isAgg3
  z3 := Try.sizeOf3
  v3 := Try.zeroValue3
  t4 := Try.underlying4
  a4 := Try.isAgg4
  z4 := Try.sizeOf4
  v4 := Try.zeroValue4
  t9 := Try.underlying9
  a9 := Try.isAgg9
  z9 := Try.sizeOf9
  v9 := Try.zeroValue9
  t20 := Try.underlying20
  a20 := Try.isAgg20
  z20 := Try.sizeOf20
  v20 := Try.zeroValue20
  t22 := Try.underlying34
  a22 := Try.isAgg34
  z22 := Try.sizeOf34
  v22 := Try.zeroValue34 }
end Go.Proofs.Ytcmhgkcifejgcaa
namespace Go.Proofs.Ytcmhgkcifejgcaa
set_option linter.unusedVariables false
set_option linter.unusedSimpArgs false
open Go Go.RowKit

theorem slices_Grow_ok (w : World) (n : Int) (hp0 : 0 ≤ n) (hp1 : n ≤ 1000000) :
    Calls Try.prog 166 ([(.slice none 0 0), (.int .i64 n)] : List Value).toArray w (fun e w' => ∃ i : Value, e = .returned i ∧ Hp w [rowI 3 i []] w') := by
  obtain ⟨k, rfl⟩ : ∃ k : Nat, n = k := ⟨n.toNat, by omega⟩
  rcases Nat.eq_zero_or_pos k with rfl | hk
  · refine (Any8.slices_Grow_room lays804 none 0 0 0 w (by omega) (by omega) (by omega) (by omega)).mono ?_
    rintro e w' ⟨rfl, rfl⟩
    exact ⟨_, rfl, (Hp.start _).nil _ _⟩
  · have hT := slT_34
    obtain ⟨i0, hi, hiz, his, hby⟩ := info_parts hT.2.1
    refine (Any8.slices_Grow_grow lays804 i0 (.int .i64 0) hi hiz (by omega) none 0 0 k [] w (by omega) (by omega) (by rw [hby]; omega) (by omega) (by simp) (fun _ => rfl) (fun a h => by cases h)).mono ?_
    rintro e w' ⟨rfl, rfl⟩
    have hge := grownCap_ge w (0 + k) 0 3
    have hcm := grownCap_le_maxLen w (0 + k) 0 3 (by unfold maxLen; omega)
    refine ⟨_, rfl, (Hp.start w).new ⟨rfl, rfl, rfl, by simp, fun k hk => Below.heap_alloc w.drew _ k hk⟩ ?_⟩
    refine ⟨by simp, .inr ⟨w.heap.size, _, _, rfl, by show 0 < grownCap w (0 + k) 0 3; omega, Nat.le_refl _, heap_alloc_new w.drew _, Nat.zero_le _, hcm, ?_, by simp⟩⟩
    have hz : (Value.int .i64 0).cells.size = 1 := rfl
    show _ = grownCap w (0 + k) 0 3 * 1
    simp only [Array.size_append, List.size_toArray, size_zeroCells, hz, List.length_nil]
    show 0 + (0 + k - 0) * 1 + (grownCap w (0 + k) 0 3 - (0 + k)) * 1 = _
    omega
end Go.Proofs.Ytcmhgkcifejgcaa
namespace Go.Proofs.Ytcmhgkcifejgcaa
set_option linter.unusedVariables false
set_option linter.unusedSimpArgs false
open Go Go.RowKit Go.Shelf
set_option linter.unusedVariables false
set_option linter.unusedSimpArgs false
def lays805_ren : Go.Shelf.Ren := ⟨fun | 4 => 134 | n => n, fun | 22 => 37 | 25 => 85 | 3 => 3 | 4 => 4 | 9 => 9 | 20 => 20 | 0 => 0 | n => n, fun | n => n⟩
theorem lays805 : Go.Proofs.Lays8.n4 Try.prog lays805_ren := {
  mixed := by kernel_rfl
  f4 := ⟨Try.f134.name, by decide, Try.func134.trans (congrArg some (by kernel_rfl))⟩
  t0 := Try.underlying0
  a0 := Try.isAgg0
  z0 := Try.sizeOf0
  v0 := Try.zeroValue0
  t3 := Try.underlying3
  a3 := Try.isAgg3
  z3 := Try.sizeOf3
  v3 := Try.zeroValue3
  t4 := Try.underlying4
  a4 := Try.isAgg4
  z4 := Try.sizeOf4
  v4 := Try.zeroValue4
  t9 := Try.underlying9
  a9 := Try.isAgg9
  z9 := Try.sizeOf9
  v9 := Try.zeroValue9
  t20 := Try.underlying20
  a20 := Try.isAgg20
  z20 := Try.sizeOf20
  v20 := Try.zeroValue20
  t22 := Try.underlying37
  a22 := Try.isAgg37
  z22 := Try.sizeOf37
  v22 := Try.zeroValue37 }
theorem slices_GrowP_ok (w : World) (n : Int) (hp0 : 0 ≤ n) (hp1 : n ≤ 1000000) :
    Calls Try.prog 134 ([(.slice none 0 0), (.int .i64 n)] : List Value).toArray w (fun e w' => ∃ i : Value, e = .returned i ∧ Hp w [rowP 85 i []] w') := by
  obtain ⟨k, rfl⟩ : ∃ k : Nat, n = k := ⟨n.toNat, by omega⟩
  rcases Nat.eq_zero_or_pos k with rfl | hk
  · refine (Any8.slices_Grow_room lays805 none 0 0 0 w (by omega) (by omega) (by omega) (by omega)).mono ?_
    rintro e w' ⟨rfl, rfl⟩
    exact ⟨_, rfl, (Hp.start _).nil _ _⟩
  · have hT := slT_37
    obtain ⟨i0, hi, hiz, his, hby⟩ := info_parts hT.2.1
    refine (Any8.slices_Grow_grow lays805 i0 _ hi hiz (by rw [his]; omega) none 0 0 k [] w (by omega) (by omega) (by rw [hby]; omega) (by omega) (by simp) (fun _ => rfl) (fun a h => by cases h)).mono ?_
    rintro e w' ⟨rfl, rfl⟩
    have hge := grownCap_ge w (0 + k) 0 85
    have hcm := grownCap_le_maxLen w (0 + k) 0 85 (by unfold maxLen; omega)
    refine ⟨_, rfl, (Hp.start w).new ⟨rfl, rfl, rfl, by simp, fun k hk => Below.heap_alloc w.drew _ k hk⟩ ?_⟩
    refine ⟨by simp [prs], .inr ⟨w.heap.size, _, _, rfl, by show 0 < grownCap w (0 + k) 0 85; omega, Nat.le_refl _, heap_alloc_new w.drew _, Nat.zero_le _, hcm, ?_, by simp [prs]⟩⟩
    show _ = grownCap w (0 + k) 0 85 * 2
    simp only [Array.size_append, List.size_toArray, size_zeroCells, List.length_nil]
    show 0 + (0 + k - 0) * 2 + (grownCap w (0 + k) 0 85 - (0 + k)) * 2 = _
    omega
theorem prs_take (ps : List (Int × Int)) : ∀ k : Nat, prs (ps.take k) = (prs ps).take (k * 2) := by
  induction ps with
  | nil => intro k; simp [prs]
  | cons p r ih =>
    intro k
    cases k with
    | zero => simp [prs]
    | succ k => rw [List.take_succ_cons, prs_cons, prs_cons, ih, show (k + 1) * 2 = (k * 2) + 1 + 1 by omega]; rfl
theorem prs_drop (ps : List (Int × Int)) : ∀ k : Nat, prs (ps.drop k) = (prs ps).drop (k * 2) := by
  induction ps with
  | nil => intro k; simp [prs]
  | cons p r ih =>
    intro k
    cases k with
    | zero => simp
    | succ k => rw [List.drop_succ_cons, prs_cons, ih, show (k + 1) * 2 = (k * 2) + 1 + 1 by omega]; rfl
theorem rp_resl {w : World} {v : Value} {ps : List (Int × Int)} (h : RP w v ps) {lo hi : Nat} (h1 : lo ≤ hi) (h2 : hi ≤ ps.length) : RP w (resl v lo hi 2) ((ps.take hi).drop lo) := by
  have := rd_resl h h1 h2
  unfold RP
  rw [prs_drop, prs_take]
  have hl : ((ps.take hi).drop lo).length = hi - lo := by rw [List.length_drop, List.length_take, Nat.min_eq_left h2]
  rw [hl]
  exact this
theorem slT_139 : SlT Try.prog 139 37 (.slice none 0 0) 1 24 := ⟨Try.underlying139, by kernel_rfl, rfl, by decide⟩
theorem one_37 : One Try.prog 37 := ⟨fun _ => by kernel_rfl, by kernel_rfl⟩
/-- Rows of rows of pairs. -/
def RPP (w : World) (v : Value) (us : List Value) (pss : List (List (Int × Int))) : Prop :=
  Rd w v 1 pss.length us ∧ us.length = pss.length ∧ ∀ i, i < pss.length → RP w (us.getD i undef) (pss.getD i [])
theorem RPP.below {w w' : World} {v : Value} {us : List Value} {pss : List (List (Int × Int))} (h : RPP w v us pss) (hb : Below w.heap.size w w') : RPP w' v us pss :=
  ⟨h.1.below hb, h.2.1, fun i hi => (h.2.2 i hi).below hb⟩
section
variable {P : Program} {N : Nat} {C : World → Prop} {l : Sl} {v : Value}
variable {dd : Option Tmp} {ty : TypeId} {ps : String} {af : Array Edge} {g : Option (Nat × Bool)} {x : Operand} {t e : TypeId} {w0 : World} {os : List Ck}
theorem rpp_arg {us : List Value} {pss : List (List (Int × Int))} (h : RPP w0 v us pss) : ∀ w, Hp w0 os w → RPP w v us pss := fun _ hw => h.below hw.1
theorem RPP.row {w : World} {v : Value} {us : List Value} {pss : List (List (Int × Int))} (h : RPP w v us pss) {i : Nat} (hi : i < pss.length) : RP w (us.getD i undef) (pss.getD i []) := h.2.2 i hi
theorem argTP_len {v : Value} {w : World} {us : List Value} {pss : List (List (Int × Int))} (h : RPP w v us pss) : pss.length ≤ 9223372036854775807 := h.1.2.1
theorem rpp_two (i : Nat) {va vb : Value} {a b : List (Int × Int)} (ho : os[i]? = some (.row v e 1 2 [va, vb])) (ha : ∀ w, Hp w0 os w → RP w va a) (hb : ∀ w, Hp w0 os w → RP w vb b) : ∀ w, Hp w0 os w → RPP w v [va, vb] [a, b] := fun w hw =>
  ⟨rd_own (hw.get i ho), rfl, fun j hj => by
    match j, hj with
    | 0, _ => exact ha w hw
    | 1, _ => exact hb w hw⟩
theorem y_ldAP {k : Nat} {us : List Value} {pss : List (List (Int × Int))} (hx : Ev l x (pt v k 1)) (hT : One P t) (hr : ∀ w, C w → RPP w v us pss) (hlt : k < pss.length) : Ys P C N l ⟨dd, .load t x, ty, ps, af, g⟩ (us.getD k undef) :=
  y_ldn hx hT (fun w hw => (hr w hw).1) (by omega)
end
end Go.Proofs.Ytcmhgkcifejgcaa
