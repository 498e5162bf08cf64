/-
  Part of a proof: rules of the walk, plain functions and their laws, walks. No condition.
-/
import Derived.Test.YtcmhgkcifejgcaaDoorKParseMetricCard3
import Derived.Laws.Strings2
import Derived.Laws.Strings3
import Derived.Laws.Concat
namespace Go.Proofs.YtcmhgkcifejgcaaDoor
set_option linter.unusedVariables false
set_option linter.unusedSimpArgs false
open Go Go.RowKit
/-- A byte of a string. -/
def sAt (b : ByteArray) (k : Nat) : Int := ((b.data.toList.getD k 0).toNat : Int)
theorem sAt_bd (b : ByteArray) (k : Nat) : 0 ≤ sAt b k ∧ sAt b k ≤ 255 := by
  have := (b.data.toList.getD k 0).toNat_lt
  unfold sAt; omega
section
variable {P : Program} {ops : Array Oper} {Q : Exit → Act → World → Prop} {N : Nat} {C : World → Prop} {rest : List Oper} {l : Sl}
variable {t t' : TypeId} {d : Nat} {x y z : Operand} {ty : TypeId} {ps : String} {af : Array Edge} {dd : Option Tmp} {g : Option (Nat × Bool)} {a b : ByteArray}
theorem y_sidx {k : Nat} {i : Int} {kk : IntKind} (hx : Ev l x (.string b)) (hy : Ev l y (.int kk i)) (hk : i = k) (ht : P.underlying t = some .string) (hlt : k < b.size) :
    Ys P C N l ⟨dd, .index t x y, ty, ps, af, g⟩ (.int .u8 (sAt b k)) := yl_of fun a w hs _ => by
  subst hk
  have h1 : (0 : Int) ≤ (k : Int) ∧ (k : Int) < (b.size : Int) := by omega
  have e : ((b[k]'hlt).toNat : Int) = sAt b k := by
    have hl : k < b.data.toList.length := by simpa using hlt
    unfold sAt
    rw [getD_toList hl]
    rfl
  simp only [execOp, hx N a hs, hy N a hs, run_index_string w t b kk k ht, dif_pos h1, Sem.run_bind, Result.andThen_ok, Sem.run_pure, Int.toNat_natCast, e]
where
  getD_toList {l : List UInt8} {k : Nat} (h : k < l.length) : l.getD k 0 = l[k] := by simp [List.getD, h]
theorem y_lds {k : Nat} {v : Value} {ss : List ByteArray} (hx : Ev l x (pt v k 1)) (hT : One P t) (hr : ∀ w, C w → Rd w v 1 ss.length (strs ss)) (hlt : k < ss.length) : Ys P C N l ⟨dd, .load t x, ty, ps, af, g⟩ (.string (ss.getD k ByteArray.empty)) :=
  y_ld hx hT hr hlt (by simp [strs, hlt])
theorem y_sslice {lo hi : Nat} {i j : Int} {ki kj : IntKind} (hx : Ev l x (.string b)) (hy : Ev l y (.int ki i)) (hz : Ev l z (.int kj j)) (h1 : i = lo) (h2 : j = hi) (ht : P.underlying t = some .string) (h3 : lo ≤ hi) (h4 : hi ≤ b.size) :
    Ys P C N l ⟨dd, .slice t x (some y) (some z) none, ty, ps, af, g⟩ (.string (b.extract lo hi)) := yl_of fun a w hs _ => by
  subst h1; subst h2
  simp [execOp, hx N a hs, hy N a hs, hz N a hs, Instr.sliceAt, run_underlying ht, run_slice_string w t b ki kj lo hi ht (by omega) (by omega) (by omega)]
theorem y_sslice_lo {lo : Nat} {i : Int} {ki : IntKind} (hx : Ev l x (.string b)) (hy : Ev l y (.int ki i)) (h1 : i = lo) (ht : P.underlying t = some .string) (h3 : lo ≤ b.size) :
    Ys P C N l ⟨dd, .slice t x (some y) none none, ty, ps, af, g⟩ (.string (b.extract lo b.size)) := yl_of fun a w hs _ => by
  subst h1
  have h5 : (0 : Int) ≤ (lo : Int) ∧ (lo : Int) ≤ (b.size : Int) := by omega
  simp [execOp, hx N a hs, hy N a hs, Instr.sliceAt, run_underlying ht, run_slice_string_from_if w t b ki lo ht, h3]
theorem y_sslice_hi {hi : Nat} {j : Int} {kj : IntKind} (hx : Ev l x (.string b)) (hz : Ev l z (.int kj j)) (h2 : j = hi) (ht : P.underlying t = some .string) (h4 : hi ≤ b.size) :
    Ys P C N l ⟨dd, .slice t x none (some z) none, ty, ps, af, g⟩ (.string (b.extract 0 hi)) := yl_of fun a w hs _ => by
  subst h2
  simp [execOp, hx N a hs, hz N a hs, Instr.sliceAt, run_underlying ht, run_slice_string_to_if w t b kj hi ht, h4]
theorem y_slen (hx : Ev l x (.string b)) (ht : P.underlying t = some .string) : Ys P C N l ⟨dd, .call { callee := .builtin .len, args := #[x], argTypes := #[t] }, ty, ps, af, g⟩ (.int .i64 (b.size : Int)) := yl_of fun q w hs _ => by
  simp [execOp, resolve, invoke, builtin, hx N q hs, run_len_string w t ty b ht, goInt]
theorem y_sadd (hx : Ev l x (.string a)) (hy : Ev l y (.string b)) (h : a.size + b.size ≤ 9223372036854775807) : Ys P C N l ⟨dd, .binOp .add t x y t', ty, ps, af, g⟩ (.string (a ++ b)) := yl_of fun q w hs _ => by
  simp only [execOp, hx N q hs, hy N q hs]
  simp [go_sem, show ¬ (9223372036854775807 < a.size + b.size) by omega]
theorem y_seql (hx : Ev l x (.string a)) (hy : Ev l y (.string b)) : Ys P C N l ⟨dd, .binOp .eql t x y t', ty, ps, af, g⟩ (.bool (a.toList == b.toList)) := yl_of fun q w hs _ => by
  simp only [execOp, hx N q hs, hy N q hs]; simp [go_sem]
theorem y_sneq (hx : Ev l x (.string a)) (hy : Ev l y (.string b)) : Ys P C N l ⟨dd, .binOp .neq t x y t', ty, ps, af, g⟩ (.bool (!(a.toList == b.toList))) := yl_of fun q w hs _ => by
  simp only [execOp, hx N q hs, hy N q hs]; simp [go_sem]
theorem y_slss (hx : Ev l x (.string a)) (hy : Ev l y (.string b)) : Ys P C N l ⟨dd, .binOp .lss t x y t', ty, ps, af, g⟩ (.bool (Op.bytesLess a.toList b.toList)) := yl_of fun q w hs _ => by
  simp only [execOp, hx N q hs, hy N q hs]; simp [go_sem]
end
theorem seq_iff (a b : ByteArray) : (a.toList == b.toList) = true ↔ a = b := by
  rw [beq_iff_eq, ByteArray.toList_eq, ByteArray.toList_eq]
  constructor
  · intro h
    cases a; cases b
    congr 1
    exact Array.toList_inj.1 h
  · intro h; rw [h]
end Go.Proofs.YtcmhgkcifejgcaaDoor
