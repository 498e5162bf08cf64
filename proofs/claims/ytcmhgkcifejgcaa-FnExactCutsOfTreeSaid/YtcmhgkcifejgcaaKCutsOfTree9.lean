/-
  Part of a proof: rules of the walk, plain functions and their laws, walks. No condition.
-/
import Derived.Test.YtcmhgkcifejgcaaKCutsOfTree8
import Derived.Laws.Bits64b
namespace Go.Proofs.Ytcmhgkcifejgcaa
set_option linter.unusedVariables false
set_option linter.unusedSimpArgs false
open Go Go.RowKit
set_option linter.unusedVariables false

def u8s (xs : List Int) : List Value := xs.map fun z => .int .u8 z
/-- A slice of bytes. -/
def RB (w : World) (v : Value) (xs : List Int) : Prop := Rd w v 1 xs.length (u8s xs) ∧ ∀ i, 0 ≤ xs.getD i 0 ∧ xs.getD i 0 ≤ 255
theorem argB_len {v : Value} {w : World} {xs : List Int} (h : RB w v xs) : xs.length ≤ 9223372036854775807 := h.1.2.1
theorem rb_arg {w0 w : World} {os : List Ck} {v : Value} {xs : List Int} (h : RB w0 v xs) (hw : Hp w0 os w) : RB w v xs := ⟨Rd.below h.1 hw.1, h.2⟩
section
variable {P : Program} {ops : Array Oper} {Q : Exit → Act → World → Prop} {N : Nat} {C : World → Prop} {rest : List Oper} {l : Sl}
variable {w0 : World} {os : List Ck} {v u : Value} {t t' : TypeId} {d k : Nat} {x y : Operand} {ty : TypeId} {ps : String} {af : Array Edge} {dd : Option Tmp} {g : Option (Nat × Bool)} {m n : Int} {ars : List Operand} {vs : List Value} {ats : Array TypeId}
theorem y_nil {ad : Addr} (hx : Ev l x (.pointer (some ad))) : Ys P C N l ⟨dd, .nilCheck x, ty, ps, af, g⟩ (.pointer (some ad)) := yl_of fun a w hs _ => by
  simp [execOp, hx N a hs]
theorem y_mulu (hx : Ev l x (.int .u64 m)) (hy : Ev l y (.int .u64 n)) : Ys P C N l ⟨dd, .binOp .mul t x y t', ty, ps, af, g⟩ (.int .u64 (m * n % 18446744073709551616)) := yl_of fun a w hs _ => by
  simp only [execOp, hx N a hs, hy N a hs]; simp [go_sem, Op.intArith, IntKind.wrap_u64]
theorem y_addu (hx : Ev l x (.int .u64 m)) (hy : Ev l y (.int .u64 n)) : Ys P C N l ⟨dd, .binOp .add t x y t', ty, ps, af, g⟩ (.int .u64 ((m + n) % 18446744073709551616)) := yl_of fun a w hs _ => by
  simp only [execOp, hx N a hs, hy N a hs]; simp [go_sem, Op.intArith, IntKind.wrap_u64]
theorem y_shr40 (hx : Ev l x (.int .u64 m)) (hy : Ev l y (.int .u64 40)) (h : 0 ≤ m) : Ys P C N l ⟨dd, .binOp .shr t x y t', ty, ps, af, g⟩ (.int .u64 (m / 1099511627776)) := yl_of fun a w hs _ => by
  simp only [execOp, hx N a hs, hy N a hs]
  have h5 : m.fdiv 1099511627776 = m / 1099511627776 := Int.fdiv_eq_ediv_of_nonneg m (by omega)
  simp [go_sem, Op.shift, h5, IntKind.bits]
theorem y_and255 (hx : Ev l x (.int .u64 m)) (hy : Ev l y (.int .u64 255)) (h : 0 ≤ m) (h' : m < 18446744073709551616) : Ys P C N l ⟨dd, .binOp .and t x y t', ty, ps, af, g⟩ (.int .u64 (m % 256)) := yl_of fun a w hs _ => by
  simp only [execOp, hx N a hs, hy N a hs]
  have h5 : bits .and .u64 m 255 = m % 256 := by
    have h1 := bits_and_u64_nat m.toNat 255 (by omega) (by omega)
    have e : m.toNat &&& 255 = m.toNat % 256 := Nat.and_two_pow_sub_one_eq_mod m.toNat 8
    rw [e, Int.toNat_of_nonneg h] at h1
    rw [show ((255 : Nat) : Int) = 255 by rfl] at h1
    rw [h1]; omega
  simp [go_sem, h5]
theorem y_ld8 {k : Nat} {xs : List Int} {v : Value} (hx : Ev l x (pt v k 1)) (hT : One P t) (hr : ∀ w, C w → Rd w v 1 xs.length (u8s xs)) (hlt : k < xs.length) : Ys P C N l ⟨dd, .load t x, ty, ps, af, g⟩ (.int .u8 (xs.getD k 0)) :=
  y_ld hx hT hr hlt (by unfold u8s; rw [List.getElem?_map, List.getElem?_eq_getElem hlt]; simp [hlt])
theorem y_bldC (hx : Ev l x v) (h : ∀ A n c w, (Instr.build t #[(0, .slice A n c)]).run P w = .ok (.agg #[.slice A n c, .int .i64 0, .int .u64 0]) w) {n : Nat} (hl : ∀ w, C w → Ln v n) : Ys P C N l ⟨dd, .build t #[(0, x)], ty, ps, af, g⟩ (.agg #[v, .int .i64 0, .int .u64 0]) := yl_of fun a w hs hw => by
  obtain ⟨A, c, rfl, _⟩ := hl w hw
  simp [execOp, hx N a hs, h A n c w]
theorem TL.boxCur {p q : Int} {e : TypeId} {n : Nat} (hx : Ev l x (.agg #[v, .int .i64 p, .int .u64 q])) (hl : ∀ w, Hp w0 os w → Ln v n) (hb : Nat.blt d N = true) (h : ∀ b, TL P ops Q N (Hp w0 (.blk b e [v, .int .i64 p, .int .u64 q] :: os)) rest ((d, .pointer (some ⟨b, 0, none⟩)) :: l)) :
    TL P ops Q N (Hp w0 os) (⟨some d, .box e x, ty, ps, af, none⟩ :: rest) l := fun a w hs hw => by
  obtain ⟨A, c, rfl, _⟩ := hl w hw
  exact TL.box hx hb h a w hs hw
end
theorem fa_75_0 (b : Nat) (w : World) : (Instr.fieldAt 75 (.pointer (some ⟨b, 0, none⟩)) 0).run Try.prog w = .ok (.pointer (some ⟨b, 0, none⟩)) w := by kernel_rfl
theorem fa_75_1 (b : Nat) (w : World) : (Instr.fieldAt 75 (.pointer (some ⟨b, 0, none⟩)) 1).run Try.prog w = .ok (.pointer (some ⟨b, 1, none⟩)) w := by kernel_rfl
theorem fa_75_2 (b : Nat) (w : World) : (Instr.fieldAt 75 (.pointer (some ⟨b, 0, none⟩)) 2).run Try.prog w = .ok (.pointer (some ⟨b, 2, none⟩)) w := by kernel_rfl
theorem bd_75_c (A : Option Addr) (n c : Nat) (w : World) : (Instr.build 75 #[(0, .slice A n c)]).run Try.prog w = .ok (.agg #[.slice A n c, .int .i64 0, .int .u64 0]) w := by kernel_rfl
section
variable {H : Type} {enc : TypeId × Value → H} {P : Program} {W : World}
open Go.WideShapes Go.ChangeShapes in
/-- A slice of bytes that comes in. -/
theorem open_rb {r : Reach} {b0 : Nat} {t e : TypeId} {v : Value} {d : DataW H} {p : List MemPlace} (ht : P.underlying t = some (.slice e)) (he : P.underlying e = some (.int .u8)) (hc : P.cellsOf e = 1)
    (hv : Value.okWide P W r b0 t v) (h : DataW.Trod enc P W 0 (fun _ => true) true t v d p) : ∃ xs, RB W v xs := by
  obtain ⟨a0, len, cap, rfl⟩ := okWide_slice ht hv
  obtain ⟨fuel, hf⟩ := h
  rcases open_ints ht he hc hf with ⟨hcs, _⟩ | ⟨a, len', cap', zs, hcs, _, hl, hm, hz, _, hcell, hwf⟩
  · simp only [Value.cells, List.cons.injEq, and_true] at hcs
    rw [hcs]
    exact ⟨[], rd_nil W 1, fun i => by simp⟩
  · simp only [Value.cells, List.cons.injEq, and_true] at hcs
    rw [hcs]
    simp only [if_true] at hz
    refine ⟨zs.take len', ⟨by simp [u8s], by simp; omega, some a, cap', ?_, by simp; omega, by simp, fun hn => ?_⟩, fun i => ?_⟩
    · simp [hz, Nat.min_eq_left hl]
    · simp only [List.length_take] at hn
      refine ⟨a, rfl, ?_, fun j u hu => ?_⟩
      · have h0 := hcell 0 (by omega)
        have := World.block_lt_of_cell? W _ h0
        simpa [Addr.add] using this
      · simp only [u8s, List.map_take, List.getElem?_take, List.getElem?_map] at hu
        split at hu
        · rename_i hj
          have hjz : j < zs.length := by omega
          rw [hcell j hjz]
          simp only [List.getElem?_eq_getElem hjz, Option.map_some, Option.some.injEq] at hu
          rw [← hu]
          simp [hjz]
        · cases hu
    · by_cases hi : i < (zs.take len').length
      · have hm3 : ∀ (l : List Int), i < l.length → l.getD i 0 ∈ l := fun l hl => by
          have : l.getD i 0 = l[i] := by simp [List.getD, hl]
          rw [this]; exact List.getElem_mem hl
        have hm2 : (zs.take len').getD i 0 ∈ zs := List.mem_of_mem_take (hm3 _ hi)
        generalize (zs.take len').getD i 0 = q at hm2 ⊢
        have := hwf q hm2
        simp [Lit.wf, IntKind.min, IntKind.max, IntKind.signed, IntKind.bits] at this
        omega
      · rw [List.getD_eq_getElem?_getD, List.getElem?_eq_none (by omega)]; simp
end
end Go.Proofs.Ytcmhgkcifejgcaa
