/-
  Part of a proof: rules of the walk, plain functions and their laws, walks. No condition.
-/
import Derived.Test.YtcmhgkcifejgcaaKFnRunsAndUses8
import Derived.Tactics
import Derived.Tactics2
import Derived.Laws.Small
import Derived.Laws.StructEq
import Derived.Laws.Tables
namespace Go.Proofs.Ytcmhgkcifejgcaa
set_option linter.unusedVariables false
set_option linter.unusedSimpArgs false
open Go Go.RowKit
set_option linter.unusedVariables false
set_option linter.unusedSimpArgs false

abbrev rowU (e : TypeId) (v : Value) (xs : List Int) : Ck := .row v e 1 xs.length (u8s xs)
/-- A slice of bytes, the numbers' bounds aside. -/
def RU (w : World) (v : Value) (xs : List Int) : Prop := Rd w v 1 xs.length (u8s xs)
theorem oc_u8s (xs : List Int) : ∀ u ∈ u8s xs, u.oneCell' = true := by intro u hu; obtain ⟨q, _, rfl⟩ := List.mem_map.1 hu; rfl
theorem flat_u8s (xs : List Int) : (u8s xs).flatMap (·.cells.toList) = u8s xs := by
  induction xs with
  | nil => rfl
  | cons x r ih => simp only [u8s, List.map_cons, List.flatMap_cons] at *; rw [ih]; rfl
theorem ru_resl {w : World} {v : Value} {xs : List Int} (h : RU w v xs) {lo hi : Nat} (h1 : lo ≤ hi) (h2 : hi ≤ xs.length) : RU w (resl v lo hi 1) ((xs.take hi).drop lo) := by
  have := rd_resl h h1 h2
  simp only [Nat.mul_one] at this
  unfold RU
  have hl : ((xs.take hi).drop lo).length = hi - lo := by rw [List.length_drop, List.length_take, Nat.min_eq_left h2]
  rw [hl]
  have : u8s ((xs.take hi).drop lo) = ((u8s xs).take hi).drop lo := by simp [u8s, List.map_drop, List.map_take]
  rw [this]
  assumption
theorem ru_row {w0 : World} {os : List Ck} {v : Value} (i : Nat) {e : TypeId} {xs : List Int} (hi : os[i]? = some (rowU e v xs)) : ∀ w, Hp w0 os w → RU w v xs := fun _ hw => rd_own (hw.get i hi)
theorem ru_arg {w0 : World} {os : List Ck} {v : Value} {xs : List Int} (h : RB w0 v xs) : ∀ w, Hp w0 os w → RU w v xs := fun _ hw => Rd.below h.1 hw.1
section
variable {P : Program} {ops : Array Oper} {Q : Exit → Act → World → Prop} {N : Nat} {C : World → Prop} {rest : List Oper} {l : Sl} {v : Value} {d : Nat}
variable {dd : Option Tmp} {ty : TypeId} {ps' : String} {af : Array Edge} {g : Option (Nat × Bool)} {x y : Operand} {t t' e : TypeId} {z : Value} {bytes n k c m : Nat} {w0 : World} {os : List Ck} {ps : List (Int × Int)} {a b : Int}
theorem TL.buildB {parts : List (Nat × Operand)} {zs : List Operand} {qs : List Int} (hT : SlT P t e z 1 bytes) (hz : parts = List.zip (List.range' 0 (u8s qs).length) zs) (hv : Evs l zs (u8s qs)) (hn : n = qs.length) (hsm : n ≤ 16777216) (hb : Nat.blt d N = true)
    (h : ∀ v', TL P ops Q N (Hp w0 (rowU e v' qs :: os)) rest ((d, v') :: l)) :
    TL P ops Q N (Hp w0 os) (⟨some d, .buildSlice t n parts.toArray, ty, ps', af, none⟩ :: rest) l :=
  TL.buildSlice hT hz hv (by intro u hu; obtain ⟨q, _, rfl⟩ := List.mem_map.1 hu; rfl) (by simp [hn, u8s]) (by omega) hb (fun v' => by
    rw [flat_u8s, hn]; exact h v')
theorem TL.appendB (i : Nat) {u : Value} {zs qs : List Int} (hx : Ev l x v) (hy : Ev l y u) (ho : os[i]? = some (rowU e v zs)) (hT : SlT P t e z 1 1) (hr : ∀ w, Hp w0 os w → RU w u qs)
    (hm : zs.length + qs.length ≤ 8796093022208) (hb : Nat.blt d N = true) (h : ∀ v', TL P ops Q N (Hp w0 (os.set i (rowU e v' (zs ++ qs)))) rest ((d, v') :: l)) :
    TL P ops Q N (Hp w0 os) (⟨some d, .call { callee := .builtin .append, args := #[x, y], argTypes := #[t, t] }, ty, ps', af, none⟩ :: rest) l :=
  TL.append i hx hy ho hT hr (oc_u8s _) (by omega) (by simp [maxLen]; omega) hb fun v' => by
    have := h v'
    simp only [rowU, List.length_append, u8s, List.map_append] at this
    exact this
theorem y_conv_u8 {k : IntKind} {p : Int} {d1 : TypeDesc} (hx : Ev l x (.int k p)) (hs1 : P.underlying t = some d1) (hd : P.underlying t' = some (.int .u8)) (h : 0 ≤ p ∧ p ≤ 255) :
    Ys P C N l ⟨dd, .convert t t' x, ty, ps', af, g⟩ (.int .u8 p) := yl_of fun a w hs _ => by
  have hk : P.intKind t' = .u8 := by simp [Program.intKind, hd]
  have h4 := run_convert_int (P := P) w t t' k p (by rw [hs1]; rfl) (by rw [hk]; exact hd)
  have h5 : IntKind.u8.wrap p = p := by simp [IntKind.wrap, IntKind.bits, IntKind.signed, go_sem]; omega
  rw [hk, h5] at h4
  simp only [execOp, hx N a hs, Sem.run_bind, h4, Result.andThen_ok, Sem.run_pure]
theorem equal_pr (hT : ArT P t e 2) (he : P.underlying e = some (.int .i64)) (ho : One P e) (w : World) (a b c d : Int) : (Op.equalIn 10000 t (.agg #[.int .i64 a, .int .i64 b]) (.agg #[.int .i64 c, .int .i64 d])).run P w = .ok (a == c && b == d) w := by
  have a3 := ho.1
  have z3 := hT.2.1
  rw [show (10000 : Nat) = 9999 + 1 from rfl, Op.equalIn]
  simp only [Sem.run_bind, run_underlying hT.1, Result.andThen_ok]
  simp only [Std.Legacy.Range.forIn_eq_forIn_range', Std.Legacy.Range.size, Nat.sub_zero, Nat.add_sub_cancel, Nat.div_one, List.range'_succ, List.range'_zero, List.forIn_cons, List.forIn_nil]
  go_simp
  by_cases h1 : a = c <;> by_cases h2 : b = d <;> simp [h1, h2]
theorem y_neqP {p q : Int × Int} (hx : Ev l x (prV p)) (hy : Ev l y (prV q)) (hT : ArT P t e 2) (he : P.underlying e = some (.int .i64)) (ho : One P e) (hm : P.eqGuardType P.depth t = false) : Ys P C N l ⟨dd, .binOp .neq t x y t', ty, ps', af, g⟩ (.bool (!(p.1 == q.1 && p.2 == q.2))) := yl_of fun a w hs _ => by
  simp only [execOp, hx N a hs, hy N a hs]
  have := equal_pr hT he ho w p.1 p.2 q.1 q.2
  have h2 := run_eqGuard_agg (P := P) w .neq t x y #[int p.1, int p.2] #[int q.1, int q.2] hm
  simp only [Sem.run_bind, prV, h2, Result.andThen_ok]
  simp [go_sem, Op.equal]
  rw [show (Sem.run P (Op.equalIn 10000 t (Value.agg #[int p.fst, int p.snd]) (Value.agg #[int q.fst, int q.snd])) w) = _ from this]
  simp
end
theorem slT_37 : SlT Try.prog 37 85 (.agg #[.int .i64 0, .int .i64 0]) 2 16 := ⟨Try.underlying37, by kernel_rfl, rfl, by decide⟩
theorem arT_85 : ArT Try.prog 85 3 2 := ⟨Try.underlying85, fun _ => by kernel_rfl, by kernel_rfl⟩
theorem agg_85 : AggT Try.prog 85 2 := arT_85.agg
theorem bd_85_a (a b : Int) (w : World) : (Instr.build 85 #[(0, .int .i64 a), (1, .int .i64 b)]).run Try.prog w = .ok (.agg #[.int .i64 a, .int .i64 b]) w := by kernel_rfl
theorem eqg_85 : Try.prog.eqGuardType Try.prog.depth 85 = false := by kernel_rfl
end Go.Proofs.Ytcmhgkcifejgcaa
